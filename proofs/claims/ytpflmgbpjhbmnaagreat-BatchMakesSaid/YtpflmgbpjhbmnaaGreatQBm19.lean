/- Add. -/
import Derived.Test.YtpflmgbpjhbmnaaGreatQBm18
section
namespace Go.Proofs.YtpflmgbpjhbmnaaGreat.B
open Go Go.RowKit Go.Proofs Go.Proofs.YtpflmgbpjhbmnaaGreatW.PrintWords Go.Proofs.YtpflmgbpjhbmnaaGreatW.PrintLast Go.Proofs.YtpflmgbpjhbmnaaGreatW.PrintMore Go.Proofs.YtpflmgbpjhbmnaaGreat.Rg
set_option linter.unusedVariables false
set_option linter.unusedSimpArgs false
set_option maxRecDepth 100000
set_option maxHeartbeats 100000000 in
theorem uL (p N : Nat) (b : Bt) (A : Option Addr) (c : Nat) (u : S61) (w : World) (hB : dU w N p b) (hv : Vd b) (hl : b.times.length < 1099511627776) (hk0 : 0 ≤ b.key) (hk1 : b.key ≤ (u.f0.length : Int)) (hu : u.f0.length ≤ 1099511627776) (hC : Kd.C k85 w A u.f0.length u.f0) (hc : u.f0.length ≤ c) :
  Calls Tryz.prog 56 #[.pointer (some ⟨p, 0, none⟩), .agg #[.slice A u.f0.length c, .int .i64 u.f1.f0, .int .i64 u.f1.f1, .int .i64 u.f2]] w fun e w' => e = .returned (.tuple #[]) ∧ dU w' N p (jC b u) ∧ Below N w w' := by
 obtain ⟨L0, v2, v3, v4, v5, v6, v7, v8, hS⟩ := hB
 have hlp := hS.lt
 have hN := hS.hN
 have HP1 : aA (b.keys.length < 1099511627776 ∧ b.rests.length < 1099511627776 ∧ b.keys.length = b.kend.length) := ⟨⟨by have := hv.kr; have := hv.rt; omega, by have := hv.rt; omega, hv.kl.symm⟩⟩
 obtain ⟨L, hL⟩ : ∃ L, L = fun k => if k < w.heap.size then L0 k else 12 := ⟨_, rfl⟩
 have hS1 : St (w.alloc (.cells #[.slice A u.f0.length c, .int .i64 u.f1.f0, .int .i64 u.f1.f1, .int .i64 u.f2] 61)) N p L b.key b.weight (b.rws v2 v3 v4 v5 v6 v7 v8) :=
  ((hS.label (L1 := L) (fun k hk => by rw [hL]; exact if_pos hk)).below ((Below.refl _ _).alloc (Nat.le_refl _) _))
 have hLu : L w.heap.size = 12 := by rw [hL]; simp
 obtain ⟨kr, hkr⟩ : ∃ kr, kr = u.f0.take b.key.toNat := ⟨_, rfl⟩
 obtain ⟨rr, hrr⟩ : ∃ rr, rr = u.f0.drop b.key.toNat := ⟨_, rfl⟩
 have HKR := aA.mk (And.intro hkr hrr)
 clear hkr hrr
 go_enter Tryz.func56, Tryz.ntmps56
 have HCut : aA (∀ W, Below w.heap.size w W → Calls Tryz.prog 82 #[.slice A u.f0.length c, .int .i64 b.key] W fun e w' => ∃ A4 A5 c4 c5, e = .returned (.tuple #[.slice A4 kr.length c4, .slice A5 rr.length c5, .int .i64 0]) ∧ aA (Kd.R k85 85 w' W.heap.size (fun k_ => some k_ ≠ (Value.slice A5 rr.length c5).ownBlock) (.slice A4 kr.length c4) kr) ∧ aA (Kd.R k85 85 w' W.heap.size (fun k_ => some k_ ≠ (Value.slice A4 kr.length c4).ownBlock) (.slice A5 rr.length c5) rr) ∧ aA (Below W.heap.size W w')) := ⟨fun W hW => by
  refine (cS.calls 1 A c u.f0 b.key kr rr 0 W (Kd.C_below hC hW) hc (by rw [HKR.out.1, HKR.out.2]; exact CR _ _ hk0 hk1 hu)).mono ?_
  rintro e w' ⟨x4, x5, rfl, h4, h5, hb⟩
  obtain ⟨A4, c4, rfl⟩ := Kd.R_slice h4
  obtain ⟨A5, c5, rfl⟩ := Kd.R_slice h5
  exact ⟨A4, A5, c4, c5, rfl, ⟨h4⟩, ⟨h5⟩, ⟨hb⟩⟩⟩
 go_upto_region 2 with (fail)
 go_cut [3, 4, 5] (fun x3 x4 x5 wc => ∃ (L1 : Nat → Nat) (A4 A5 : Option Addr) (c4 c5 : Nat), x3 = .pointer (some ⟨w.heap.size, 0, none⟩) ∧ x4 = .slice A4 kr.length c4 ∧ x5 = .slice A5 rr.length c5 ∧ aA (jP w wc N p L1 u A c b.key b.weight (b.rws v2 v3 v4 v5 v6 v7 v8)) ∧ aA (Kd.R k85 85 wc N (fun k => L1 k = 11) (.slice A4 kr.length c4) kr) ∧ aA (Kd.R k85 85 wc N (fun k => L1 k = 10) (.slice A5 rr.length c5) rr))
 case first =>
  have hc0 := hS1.cell0
  have hU := sV.mk (A := A) (c := c) (u := u) (heap_alloc_new w (.cells #[.slice A u.f0.length c, .int .i64 u.f1.f0, .int .i64 u.f1.f1, .int .i64 u.f2] 61))
  have hU0 := hU.c0
  go_wp2_with fail
  go_region_held3 (fun w' => w'.cell? ⟨w.heap.size, 0, none⟩ = some (.slice A u.f0.length c) ∧ w'.cell? ⟨p, 0, none⟩ = some (.int .i64 b.key)) (first | go_keep | (exact ⟨aH HB3.out hU0, aH HB3.out hc0⟩)) ((go_at_call 82; refine (HCut.out _ (by repeat (first | exact Below.refl _ _ | apply aC | apply pw_below_drewN | apply aD))).mono ?_; rintro e w3 ⟨A4, A5, c4, c5, rfl, HR4, HR5, HB3⟩))
  go_wp2
  go_meet
  case rel =>
   have hsz : w3.heap.size ≥ w.heap.size + 1 := by have := HB3.out.size; simpa using this
   have hn4 := Kd.R_base HR4.out
   have hn5 := Kd.R_base HR5.out
   obtain ⟨L1, hL1⟩ : ∃ L1, L1 = fun k => if k < w.heap.size + 1 then L k else if some k = (Value.slice A4 kr.length c4).ownBlock then 11 else 10 := ⟨_, rfl⟩
   have hlo : ∀ k, k < w.heap.size + 1 → L1 k = L k := fun k hk => by rw [hL1]; exact if_pos hk
   refine ⟨L1, A4, A5, c4, c5, rfl, rfl, rfl, ⟨⟨(hS1.label (L1 := L1) (fun k hk => hlo k (by simpa using hk))).keep (fun k hk => HB3.out.block k (by simpa using hk)), ⟨(HB3.out.block _ (by simp)).trans hU.blk⟩, (hlo _ (by omega)).trans hLu, ?_⟩⟩, ⟨?_⟩, ⟨?_⟩⟩
   rotate_left
   ·refine Kd.R_lower (Kd.R_reok rfl HR4.out (fun k hk => ?_)) (by simp; omega)
    have h1 := hn4 k hk
    have h2 : ¬ k < w.heap.size + 1 := by simp at h1; omega
    rw [hL1]
    show (if k < w.heap.size + 1 then L k else _) = 11
    rw [if_neg h2, if_pos hk.symm]
   ·refine Kd.R_lower (Kd.R_reok rfl HR5.out (fun k hk => ?_)) (by simp; omega)
    have h1 := hn5 k hk
    have h2 : ¬ k < w.heap.size + 1 := by simp at h1; omega
    have h3 := HR5.out.1 k hk
    rw [hL1]
    show (if k < w.heap.size + 1 then L k else _) = 10
    rw [if_neg h2, if_neg h3]
   ·exact (cG ((Below.refl N w).alloc (by omega) _)).trans (HB3.out.mono (by simp; omega))
 case rest =>
 clear HCut hS1 hLu hL
 obtain ⟨L1, A4, A5, c4, c5, rfl, rfl, rfl, HI, HK, HR⟩ := hcut
 go_upto_region 3 with (fail)
 go_cut [7] (fun x7 wd => x7 = .bool (dY b.keys kr) ∧ aA (jP w wd N p L1 u A c b.key b.weight (b.rws v2 v3 v4 v5 v6 v7 v8)) ∧ aA (Kd.R k85 85 wd N (fun k => L1 k = 11) (.slice A4 kr.length c4) kr) ∧ aA (Kd.R k85 85 wd N (fun k => L1 k = 10) (.slice A5 rr.length c5) rr))
 case first =>
  obtain ⟨A3, c3, e3, hl3, hC3⟩ := Kd.R_reads (HI.out.S.rows 1 _ rfl)
  have hc3 : wc.cell? ⟨p, 3, none⟩ = some v3 := HI.out.S.cell 1 _ rfl
  dsimp only at e3
  subst e3
  replace hl3 : b.keys.length ≤ c3 := hl3
  replace hC3 : Kd.C kV wc A3 b.keys.length b.keys := hC3
  replace hc3 : wc.cell? ⟨p, 3, none⟩ = some (.slice A3 b.keys.length c3) := hc3
  have hkb : b.keys.length < 1099511627776 := by have := hv.kr; have := hv.rt; omega
  rcases hm : b.keys.length with _ | m
  ·have hz2 : dY b.keys kr = true := by unfold dY; rw [if_pos hm]
   rw [hm] at hc3
   have HZ := aA.mk hm
   clear hm
   go_quiet (fail)
   go_wp2
   go_meet
   case rel => exact ⟨by rw [hz2], ⟨HI.out.below (pw_below_drewN (Below.refl _ _) _)⟩, ⟨Kd.R_drewN HK.out _⟩, ⟨Kd.R_drewN HR.out _⟩⟩
  ·obtain ⟨ad, A', c', eA, hx, hl', hC'⟩ := jL hC3 (m : Int) (by omega) (by omega)
   subst eA
   rw [Int.toNat_natCast] at hx
   have hq : dY b.keys kr = !dK (dH b.keys (m : Int)) kr := by
    unfold dY
    rw [if_neg (by omega)]
    simp [dH, hm]
   rw [hm] at hc3
   have hb1 : decide (((m + 1 : Nat) : Int) = 0) = false := decide_eq_false (by omega)
   have hi1 : (m : Int) < ((m + 1 : Nat) : Int) := by omega
   have hi0 : (0 : Int) ≤ (m : Int) := by omega
   have hw1 : IntKind.i64.wrap (((m + 1 : Nat) : Int) - 1) = (m : Int) := by rw [IntWalk.i64_in _ (by omega)]; omega
   have hw2 : IntKind.i64.wrap ((m : Int) + 1 - 1) = (m : Int) := by rw [IntWalk.i64_in _ (by omega)]; omega
   have hw3 : IntKind.i64.wrap (m : Int) = (m : Int) := by rw [IntWalk.i64_in _ (by omega)]
   have hi2 : (m : Int) < (m : Int) + 1 := by omega
   have hi3 : m < m + 1 := by omega
   obtain ⟨K4, hK4⟩ : ∃ K, K = kr := ⟨_, rfl⟩
   obtain ⟨rd, hrd⟩ : ∃ rd, rd = dH b.keys (m : Int) := ⟨_, rfl⟩
   rw [← hrd] at hx hl' hC' hq
   have HSame : aA (∀ W, Below wc.heap.size wc W → Calls Tryz.prog 83 #[.slice A' rd.length c', .slice A4 kr.length c4] W fun e w' => e = .returned (.bool (dK rd kr)) ∧ aA (Below W.heap.size W w')) := ⟨fun W hW => by
    obtain ⟨_, _, e4, hl4, hC4⟩ := Kd.R_reads HK.out
    cases e4
    exact (kH.calls A' c' rd A4 c4 kr (dK rd kr) W (Kd.C_below hC' hW) hl' (Kd.C_below hC4 hW) hl4 rfl).mono fun e w' ⟨h1, h2⟩ => ⟨h1, ⟨h2⟩⟩⟩
   have HZ := aA.mk (And.intro hm (And.intro hq hrd))
   clear hm hq hrd hC' hC3 hl'
   go_region_held3 (fun w' => w'.cell? ⟨p, 3, none⟩ = some (.slice (some ad) (m + 1) c3) ∧ w'.cell? (ad.add m) = some (.slice A' rd.length c')) (first | go_keep | (exact ⟨aH HB3.out (by assumption), aH HB3.out (by assumption)⟩)) ((go_at_call 83; refine (HSame.out _ (by repeat (first | exact Below.refl _ _ | apply aC | apply pw_below_drewN | apply aD))).mono ?_; rintro e w3 ⟨rfl, HB3⟩))
   go_wp2
   go_meet
   case rel =>
    have hbx : Below wc.heap.size wc w3 := Below.trans (by repeat (first | exact Below.refl _ _ | apply aC | apply pw_below_drewN | apply cG)) (HB3.out.mono (Nat.le_refl _))
    refine ⟨?_, ⟨HI.out.below hbx⟩, ⟨Kd.R_below HK.out hbx⟩, ⟨Kd.R_below HR.out hbx⟩⟩
    have hn : (((m : Int) + 1) == 0) = false := by
     apply beq_false_of_ne; omega
    rw [HZ.out.2.1, hn, Bool.false_or]
 case rest =>
  clear HI HK HR
  obtain ⟨rfl, HI, HK, HR⟩ := hcut
  go_upto_if 42 with (fail)
  go_cut [7] (fun x7 we => ∃ (L2 : Nat → Nat) (v3 v4 : Value), x7 = .bool (dY b.keys kr) ∧ aA (jP w we N p L2 u A c b.key b.weight ((if dY b.keys kr = true then lP b kr else b).rws v2 v3 v4 v5 v6 v7 v8)) ∧ aA (Kd.R k85 85 we N (fun k => L2 k = 10) (.slice A5 rr.length c5) rr))
  case first =>
   cases hnew : dY b.keys kr with
   | false =>
    go_wp2
    go_meet
    case rel => exact ⟨L1, v3, v4, by rw [hnew], by simpa [hnew] using HI, HR⟩
   | true =>
    have hHN := aA.mk hnew
    clear hnew
    obtain ⟨A3, c3, e3, hl3, hC3⟩ := Kd.R_reads (HI.out.S.rows 1 _ rfl)
    obtain ⟨A4', c4', e4, hl4, hC4⟩ := Kd.R_reads (HI.out.S.rows 2 _ rfl)
    obtain ⟨A5', c5', e5, hl5, hC5⟩ := Kd.R_reads (HI.out.S.rows 3 _ rfl)
    dsimp only at e3 e4 e5
    subst e3 e4 e5
    clear hl3 hC3 hl4 hC4 hl5 hC5
    have R3 : aA (Kd.R kV 45 wc N (fun k => L1 k = 3) (.slice A3 b.keys.length c3) b.keys) := ⟨HI.out.S.rows 1 _ rfl⟩
    have hc3 : wc.cell? ⟨p, 3, none⟩ = some (.slice A3 b.keys.length c3) := HI.out.S.cell 1 _ rfl
    have hsz : p < wc.heap.size := HI.out.S.lt
    go_wp2_with (first
     | ((with_reducible refine cI (b := .append) (xs := #[.tmp 47, .tmp 49]) rfl ?_); at_builtin; (
       refine Kd.R_append kV (w0 := w) N rfl (.tmp 47) (.tmp 49) 37 45 (.slice none 0 0) 24 rfl Tryz.underlying37 oD rfl (Nat.succ_pos _) (by omega) (.slice A3 b.keys.length c3) b.keys kr [.slice A4 kr.length c4] (fun k => fD L1 wc.heap.size 11 3 k = 3) (fun k => L1 k = 11) rfl rfl ⟨_, rfl, HK.out⟩ (fun k hk => pT R3.out (by decide) k hk) (fun k hk => lE hk) (uI R3.out) HI.out.B (Nat.le_trans HI.out.S.hN (Nat.le_of_lt HI.out.S.lt)) (by have := HP1.out; omega) ?_
       intro v3' w4 ho hb hg hat
       obtain ⟨A3', c3', e3⟩ := Kd.R_slice ho
       rw [List.length_append, List.length_singleton] at e3
       subst e3
       have hgr := HI.out.S.grown 1 _ rfl (fun _ _ => rfl) (Nat.le_refl _) hg
       have hcp := jQ (hgr p hsz (by rw [HI.out.S.hp]; decide)) 3
       have hfp := gC (hgr p hsz (by rw [HI.out.S.hp]; decide)) 3
       rw [HI.out.S.frozen 3] at hfp
       rw [hc3] at hcp
       have HJ := aA.mk (HI.out.put 1 ⟨_, kV, 45, _, b.keys ++ [kr]⟩ 11 (by show 1 < 7; decide) (by show 7 + 2 ≤ 11; decide) (by decide) (by decide) hb hgr ho)
       have HR2 := aA.mk (R_put HR.out HI.out.S 1 11 3 (.slice A3' (b.keys.length + 1) c3') (by decide) (by decide) (by decide) hgr)
       clear ho hb hg hat hgr)))
    obtain ⟨W5, hW5⟩ : ∃ W5, W5 = w4.setCell ⟨p, 3, none⟩ (.slice A3' (b.keys.length + 1) c3') := ⟨_, rfl⟩
    obtain ⟨L5, hL5⟩ : ∃ L5, L5 = fD L1 wc.heap.size 11 3 := ⟨_, rfl⟩
    have HJ5 : aA (jP w W5 N p L5 u A c b.key b.weight (Bt.rws { b with keys := b.keys ++ [kr] } v2 (.slice A3' (b.keys.length + 1) c3') (.slice A4' b.kend.length c4') (.slice A5' b.rests.length c5') v6 v7 v8)) := ⟨by rw [hW5, hL5]; exact HJ.out⟩
    have HR5 : aA (Kd.R k85 85 W5 N (fun k => L5 k = 10) (.slice A5 rr.length c5) rr) := ⟨by rw [hW5, hL5]; exact HR2.out⟩
    rw [← hW5]
    clear HJ HR2 hfp hcp hW5 hL5 R3 HR HI HK hc3 hsz
    clear w4
    go_cut [64] (fun x64 we => ∃ (L6 : Nat → Nat) (v4 : Value), aA (jP w we N p L6 u A c b.key b.weight (Bt.rws (lP b kr) v2 (.slice A3' (b.keys.length + 1) c3') v4 (.slice A5' b.rests.length c5') v6 v7 v8)) ∧ aA (Kd.R k85 85 we N (fun k => L6 k = 10) (.slice A5 rr.length c5) rr))
    case first =>
     have hsz : p < W5.heap.size := HJ5.out.S.lt
     have R4 : aA (Kd.R kI 3 W5 N (fun k => L5 k = 4) (.slice A4' b.kend.length c4') b.kend) := ⟨HJ5.out.S.rows 2 _ rfl⟩
     have hc54 : W5.cell? ⟨p, 4, none⟩ = some (.slice A4' b.kend.length c4') := HJ5.out.S.cell 2 _ rfl
     have hc55 : W5.cell? ⟨p, 5, none⟩ = some (.slice A5' b.rests.length c5') := HJ5.out.S.cell 3 _ rfl
     have HAPP := HJ5.out.app (P := Tryz.prog) 2 kI 3 (.slice A4' b.kend.length c4') b.kend rfl 13 (by show 7 + 2 ≤ 13; decide) (by decide) (by decide) (b.rests.length : Int) [.int .i64 (b.rests.length : Int)] (by rfl) (.tmp 57) (.tmp 63) 91 (.int .i64 0) 8 Tryz.underlying91 pU rfl (Nat.succ_pos _) (by omega) (by have := HP1.out; omega)
     go_region_law ((refine HAPP.out _ _ _ _ _ _ (by rfl) (by rfl) (by rfl) (by rfl) ?_; intro g4 c4n w5 hgr5 hgr6 HJ6; have hc54' := (jQ hgr5.out 4).trans hc54; have hf54' := (gC hgr5.out 4).trans (HJ5.out.S.frozen 4)))
     all_goals
      go_wp2
      go_meet
      case rel => exact ⟨fD L5 W5.heap.size 13 4, .slice (some ⟨g4, 0, none⟩) (b.kend.length + 1) c4n, ⟨HJ6.out⟩, ⟨R_put HR5.out HJ5.out.S 2 13 4 _ (by decide) (by decide) (by decide) hgr6.out⟩⟩
    case rest =>
     clear HJ5 HR5
     obtain ⟨L6, v4n, HJ6, HR6⟩ := hcut
     go_wp2
     go_meet
     case rel =>
      refine ⟨L6, .slice A3' (b.keys.length + 1) c3', v4n, by rw [hHN.out], ⟨?_⟩, HR6⟩
      rw [hHN.out, if_pos rfl]
      exact HJ6.out
  case rest =>
   clear HI HK HR
   obtain ⟨L2, v3, v4, rfl, HI, HR⟩ := hcut
   apply_assumption
   exact xE p N b A A5 c c5 u w _ hv hl kr rr HKR L2 v2 v3 v4 v5 v6 v7 v8 HI HR _ _ _ _ _ _ _ _ _ _ _ _ _ _ _ _ _ _ _ _ _ _ _ _ _ _ _ _ _ _ _ _ _ _ _ _ _ _ _ _ _ _ _ _ _ _ _ _ _ _ _ _ _ _ _ _ _ _ _ _ _ _ _ _ _ _ _ _ _ _ _ _ _ _ _ _ _ _ _ _ _ _ _ _ _ _ _ _ _ _ _ _ _ _ _ _ _ _ _ _ _ _ _ _ _ _ _ _ _ _ _ _ _ _ _ _ _ _ _ _ _ _ _ _ _ _ _ _ _ _ _ _ _ _ _ _ _ _ _ _ _ _ _ _ _ _ _ _ _ _ _ _ _ _ _
end Go.Proofs.YtpflmgbpjhbmnaaGreat.B
end
