/- Runs2. -/
import Derived.Test.YtpflmgbpjhbmnaaGreatQBm6
import Derived.Sort.LoopGhostIn
import Derived.BigQuiet
section
namespace Go.Proofs.YtpflmgbpjhbmnaaGreat.B
open Go Go.RowKit Go.Shelf Go.Proofs Go.Proofs.YtpflmgbpjhbmnaaGreatW.PrintWords Go.Proofs.YtpflmgbpjhbmnaaGreatW.PrintLast Go.Proofs.YtpflmgbpjhbmnaaGreatW.PrintMore Go.Proofs.YtpflmgbpjhbmnaaGreat.Rg
set_option linter.unusedVariables false
set_option linter.unusedSimpArgs false
set_option maxRecDepth 100000
attribute [local go_sem] Oper.semAt_some
def oL {w0 : World} (x : Option Addr × Nat × List (UpR w0)) : Array Value := #[.slice x.1 x.2.2.length x.2.1]
set_option maxHeartbeats 4000000 in
theorem rY {w0 : World} (z : List (UpR w0)) (A : Option Addr) (c b1 b2 : Nat) (w : World) (Y : Nat → Prop)
  (hB : Below w0.heap.size w0 w) (hC : Kd.C (kUR w0) w A z.length z) (hc : z.length ≤ c) (hzl : z.length ≤ 1099511627776)
  (h1 : Box w b1 (.slice A z.length c) 22) (h2 : Box w b2 (.func (.func 80) #[] #[]) 97)
  (hn : b2 ≠ b1) (hY1 : ¬ Y b1) (hY2 : ¬ Y b2) (hYA : ∀ ad, A = some ad → ¬ Y ad.block) (hA1 : ∀ ad, A = some ad → ad.block ≠ b1) (hYw : ∀ k, Y k → w0.heap.size ≤ k) (h1w : w0.heap.size ≤ b1) :
  BN Tryz.prog 103 #[.pointer (some ⟨b1, 0, none⟩), .pointer (some ⟨b2, 0, none⟩)] oL (fun k => k = b1) Y (eW (fun x y : UpR w0 => cY x.up y.up) 4 z.length A c z) w := by
 intro l J Jx W hW hJ hJx hY h0
 refine (callsIn_wide (n := 1)).1 ?_
 refine callsIn_of_wp Tryz.func103 rfl trivial ?_ rfl
 have HBW : aA (Below w0.heap.size w0 W) := ⟨hB.trans (hW.mono hB.size)⟩
 have HCW : aA (Kd.C (kUR w0) W A z.length z) := ⟨Kd.C_below hC hW⟩
 have H1 := h1.below hW
 have H2 := h2.below hW
 have hL : eW (fun x y : UpR w0 => cY x.up y.up) 4 z.length A c z = [] ++ eW (fun x y : UpR w0 => cY x.up y.up) 4 z.length A c z := rfl
 generalize hLL : eW (fun x y : UpR w0 => cY x.up y.up) 4 z.length A c z = L at hY hL ⊢
 have HL : aA (L = [] ++ eW (fun x y : UpR w0 => cY x.up y.up) 4 z.length A c z) := ⟨hLL ▸ rfl⟩
 have HJ := aA.mk hJ
 have HJx := aA.mk hJx
 have HY := aA.mk hY
 have H0 := aA.mk h0
 have HX1 := aA.mk (And.intro hY1 (And.intro hY2 (And.intro hYw h1w)))
 have HXA := aA.mk (And.intro hYA hA1)
 clear hL hLL hJ hJx hY h0 hB hC h1 h2 hW hY1 hY2 hYw h1w hYA hA1
 simp only [Tryz.ntmps103, List.size_toArray, List.length_cons, List.length_nil, Nat.reduceAdd, Nat.reduceSub, Array.replicate_succ, Array.replicate_zero, List.push_toArray, List.append_toArray, List.nil_append, List.cons_append]
 gi_wp2
 gi_loopg [4] z.length (fun kq v4 wr => ∃ (pre : List (Option Addr × Nat × List (UpR w0))) (rest : List (UpR w0)) (A' : Option Addr) (c' k : Nat), rest.length = kq ∧ rest.length ≤ k ∧ rest.length ≤ c' ∧ rest.length ≤ z.length ∧ aA (L = pre ++ eW (fun x y : UpR w0 => cY x.up y.up) 4 k A' c' rest) ∧ aA (Kd.C (kUR w0) wr A' rest.length rest) ∧ aA ((∀ ad, A' = some ad → ¬ Y ad.block) ∧ ∀ ad, A' = some ad → ad.block ≠ b1) ∧ aA (Box wr b1 (.slice A' rest.length c') 22) ∧ aA (Box wr b2 (.func (.func 80) #[] #[]) 97) ∧ aA (J pre wr) ∧ aA (Below w0.heap.size w0 wr))
 case atStart => exact ⟨[], z, A, c, z.length, rfl, Nat.le_refl _, hc, Nat.le_refl _, HL, HCW, HXA, ⟨H1⟩, ⟨H2⟩, H0, HBW⟩
 case round =>
  clear H1 H2 HL HCW HXA H0 HBW
  obtain ⟨wo, rfl⟩ : ∃ wo : World, wo = wr := ⟨_, rfl⟩
  obtain ⟨pre, rest, A', c', k, hkq, hk, hc', hz', HL, HC, HXA, H1, H2, HJ0, HB⟩ := hrel
  have hbx1 := H1.out.cell
  by_cases hlt : 0 < rest.length
  ·obtain ⟨x, r, hxr⟩ : ∃ x r, rest = x :: r := by
    cases rest with
    | nil => simp at hlt
    | cons x r => exact ⟨x, r, rfl⟩
   have hg1 := yI (fun x y : UpR w0 => cY x.up y.up) x r
   have hg0 : 1 ≤ grp (fun x y : UpR w0 => cY x.up y.up) x r := by unfold grp; omega
   have hgr : grp (fun x y : UpR w0 => cY x.up y.up) x r ≤ rest.length := by rw [hxr]; simpa using hg1
   have HX := aA.mk hxr
   have HKQ := aA.mk hkq
   have hb1 : decide ((0 : Int) < (rest.length : Int)) = true := decide_eq_true (by omega)
   have hb2 : decide (0 < rest.length) = true := decide_eq_true hlt
   clear hxr hg1 hkq
   have HG : aA (grp (fun x y : UpR w0 => cY x.up y.up) x r = grp (fun x y : UpR w0 => cY x.up y.up) x r) := ⟨rfl⟩
   generalize hgg : grp (fun x y : UpR w0 => cY x.up y.up) x r = n at hg0 hgr
   have HGG := aA.mk hgg
   clear hgg HG
   have hx00 : rest[0]? = some x := by rw [HX.out]; rfl
   obtain ⟨ad, hA, hx0, hx1, hx2, hx3⟩ := wZ HC.out 0 x hx00
   rw [show ad.add (0 * 4) = ad by simp [Addr.add]] at hx0 hx1 hx2 hx3
   subst hA
   have HO : aA (∀ (y : UpR w0) (W' : World), Below w0.heap.size w0 W' → Calls Tryz.prog 80 #[.agg #[.slice x.1.1 x.up.f0.length x.1.2.1, .int .i64 x.up.f1.f0, .int .i64 x.up.f1.f1, .int .i64 x.up.f2], .agg #[.slice y.1.1 y.up.f0.length y.1.2.1, .int .i64 y.up.f1.f0, .int .i64 y.up.f1.f1, .int .i64 y.up.f2]] W' fun e w' => e = .returned (.int .i64 (cY x.up y.up)) ∧ Below W'.heap.size W' w') :=
    ⟨fun y W' hW' => jZ x y W' hW'⟩
   have HB0 := aA.mk (Below.refl wo.heap.size wo)
   have HXC := aA.mk (And.intro hx0 (And.intro hx1 (And.intro hx2 hx3)))
   clear hx00 hx0 hx1 hx2 hx3
   gi_wp2
   gi_loopw [4] (fun v4 wi => ∃ m : Nat, v4 = .int .i64 m ∧ 1 ≤ m ∧ m ≤ n ∧ aA (Below wo.heap.size wo wi)) (fun v4 wi => n - (intOf v4).toNat)
   case atStart => exact ⟨1, by go_num, by omega, hg0, HB0⟩
   case round =>
    clear HB0 hbx1
    obtain ⟨m, rfl, hm1, hmn, HBi⟩ := hrel
    have hbi1 := (H1.out.below HBi.out).cell
    have hbi2 := (H2.out.below HBi.out).cell
    by_cases hlm : m < rest.length
    ·have hc1 : decide ((m : Int) < (rest.length : Int)) = true := decide_eq_true (by omega)
     have hc2 : decide (m < rest.length) = true := decide_eq_true hlm
     obtain ⟨ad', hA, hy0, hy1, hy2, hy3⟩ := wZ HC.out m rest[m] (List.getElem?_eq_getElem hlm)
     injection hA with hA
     subst hA
     have HZ : aA (m < n → cY x.up rest[m].up = 0) := ⟨fun h => by
      obtain ⟨y, hy, h0⟩ := BO (fun x y : UpR w0 => cY x.up y.up) x r m hm1 (by rw [HGG.out]; exact h)
      have : rest[m]? = some y := by rw [HX.out]; exact hy
      rw [List.getElem?_eq_getElem hlm] at this
      rw [Option.some.inj this]; exact h0⟩
     have HNZ : aA (m = n → cY x.up rest[m].up ≠ 0) := ⟨fun h => by
      refine zM (fun x y : UpR w0 => cY x.up y.up) x r rest[m] ?_
      rw [HGG.out, ← h, ← HX.out]; exact List.getElem?_eq_getElem hlm⟩
     generalize rest[m] = y at hy0 hy1 hy2 hy3 HZ HNZ
     have HOy := aA.mk (HO.out y)
     obtain ⟨hx0, hx1, hx2, hx3⟩ := HXC.out
     replace hx0 := aH HBi.out hx0
     replace hx1 := aH HBi.out hx1
     replace hx2 := aH HBi.out hx2
     replace hx3 := aH HBi.out hx3
     replace hy0 := aH HBi.out hy0
     replace hy1 := aH HBi.out hy1
     replace hy2 := aH HBi.out hy2
     replace hy3 := aH HBi.out hy3
     have HBd := aA.mk ((HB.out.trans (HBi.out.mono HB.out.size)).drew)
     have HBd2 := aA.mk (cG HBi.out)
     by_cases hmn2 : m < n
     ·have e0 := HZ.out hmn2
      rw [e0] at HOy
      clear HZ HNZ HO e0
      gi_wp2_with fail
      refine wpIn_wide.2 ?_
      go_still_tail 13, (by kernel_rfl)
      change wpList _ _ _ _ _ wr.drew
      clear hx0 hx1 hx2 hx3 hy0 hy1 hy2 hy3 hbi1 hbi2 HBi
      generalize wr.drew = wd at HBd HBd2
      go_wp2_with (go_at_call 80; refine (HOy.out _ HBd.out).mono ?_; rintro e w3 ⟨rfl, hb3⟩)
      gi_wp2
      go_roundw
      case rel => exact ⟨m + 1, by go_num, by omega, by omega, ⟨HBd2.out.trans (hb3.mono HBd2.out.size)⟩⟩
      case measure => simp [intOf]; omega
     ·obtain rfl : m = n := by omega
      have e0 := HNZ.out rfl
      have hne : (cY x.up y.up == 0) = false := beq_eq_false_iff_ne.2 e0
      generalize cY x.up y.up = q at HOy hne
      clear HZ HNZ HO e0
      gi_wp2_with fail
      refine wpIn_wide.2 ?_
      go_still_tail 13, (by kernel_rfl)
      change wpList _ _ _ _ _ wr.drew
      clear hx0 hx1 hx2 hx3 hy0 hy1 hy2 hy3 hbi1 hbi2 HBi
      generalize wr.drew = wd at HBd HBd2
      go_wp2_with (go_at_call 80; refine (HOy.out _ HBd.out).mono ?_; rintro e w3 ⟨rfl, hb3⟩)
      have hBX : Below wo.heap.size wo w3 := HBd2.out.trans (hb3.mono HBd2.out.size)
      have HJ3 : J pre w3 := HJ.out _ _ _ HJ0.out (dP.of_below hBX _)
      obtain ⟨k', hk'⟩ : ∃ k', k = k' + 1 := ⟨k - 1, by omega⟩
      obtain ⟨A2, hA2⟩ : ∃ A2, (if c' = m then some ad else (some ad).map (·.add (m * 4))) = A2 := ⟨_, rfl⟩
      have hL2 : L = pre ++ (some ad, c', rest.take m) :: eW (fun x y : UpR w0 => cY x.up y.up) 4 k' A2 (c' - m) (rest.drop m) := by
       have h := HL.out
       rw [hk', HX.out] at h
       unfold eW at h
       rw [HGG.out, ← HX.out, hA2] at h
       exact h
      obtain ⟨fn, tmps, assign, body, hy, hR⟩ := HY.out pre (some ad, c', rest.take m) _ w3 hL2 HJ3
      have hln : (rest.take m).length = m := by rw [List.length_take]; omega
      have hld : (rest.drop m).length = rest.length - m := List.length_drop
      have HC2 : Kd.C (kUR w0) wo A2 (rest.drop m).length (rest.drop m) := by rw [← hA2]; exact Kd.C_drop HC.out hgr hc'
      have HXA2 : (∀ ad, A2 = some ad → ¬ Y ad.block) ∧ ∀ ad, A2 = some ad → ad.block ≠ b1 := by
       have hb : ∀ a2, A2 = some a2 → a2.block = ad.block := by
        intro a2 h2
        rw [← hA2] at h2
        split at h2
        ·injection h2 with h2; rw [← h2]
        ·simp only [Option.map_some] at h2
         injection h2 with h2
         rw [← h2]
         unfold Addr.add
         split <;> rfl
       exact ⟨fun a2 h2 => by rw [hb a2 h2]; exact HXA.out.1 ad rfl, fun a2 h2 => by rw [hb a2 h2]; exact HXA.out.2 ad rfl⟩
      obtain ⟨i0, hi0, hi1⟩ := Option.map_eq_some_iff.1 mH
      have hsz0 : i0.size = 4 := by simp only [Prod.mk.injEq] at hi1; exact hi1.2.1
      have hcut := qZ 22 61 .i64 Tryz.underlying22 hi0 (some ad) rest.length c' m hgr hc'
      have hcutd := rA 22 61 .i64 Tryz.underlying22 hi0 4 hsz0 (some ad) rest.length c' m hgr hc'
      rw [hA2] at hcutd
      dsimp only [oL] at hy
      rw [hln] at hy
      have hbx3 := (H1.out.below hBX).cell
      have HL2 := aA.mk hL2
      have HC2' := aA.mk HC2
      have HXA2' := aA.mk HXA2
      have HLD := aA.mk hld
      have H13 := aA.mk (H1.out.below hBX)
      have H23 := aA.mk (H2.out.below hBX)
      have HBX3 := aA.mk hBX
      have HK' := aA.mk hk'
      clear hL2 HC2 HXA2 hld hln hA2 hk' hi1 hi0 hsz0 HJ3
      gi_wp2
      refine hR.mono ?_
      rintro e W' (⟨rfl, hJ', hst⟩ | ⟨rfl, hJx'⟩)
      ·have H14 := aA.mk (H13.out.step hst HX1.out.1)
       have H24 := aA.mk (H23.out.step hst HX1.out.2.1)
       have hbx4 := H14.out.cell
       have hfx4 := H14.out.frozen
       have HST := aA.mk hst
       have HJ4 := aA.mk hJ'
       clear hJ' hst hR hy hcut
       gi_wp2
       go_roundg (rest.length - m)
       case measure => have := HKQ.out; omega
       case rel =>
        have hst2 : dP (fun k => Y k ∨ k = b1) wo _ := ((dP.of_below HBX3.out _).trans (HST.out.mono fun _ _ h => .inl h)).trans (dP.setCell W' ⟨b1, 0, none⟩ (.slice A2 (rest.length - m) (c' - m)) (.inr rfl))
        refine ⟨_, rest.drop m, A2, c' - m, k', HLD.out, ?_, ?_, ?_, ⟨by rw [HL2.out]; simp⟩, ⟨mI (fun h => h) HC2'.out hst2 (fun a2 h2 hx => hx.elim (HXA2'.out.1 a2 h2) (HXA2'.out.2 a2 h2))⟩, HXA2', ?_, ⟨H24.out.far hn.symm _⟩, ⟨HJ.out _ _ _ HJ4.out (dP.setCell _ _ _ rfl)⟩, ⟨HB.out.trans (hst2.below HB.out.size (fun k hk => hk.elim (HX1.out.2.2.1 k) (fun e => e ▸ HX1.out.2.2.2)))⟩⟩
        ·rw [HLD.out]; have := HK'.out; omega
        ·rw [HLD.out]; omega
        ·rw [HLD.out]; omega
        ·rw [HLD.out]; exact ⟨H14.out.set _⟩
      ·gi_wp2
       refine bodyPost_ret (results_none rfl _ _ _) rfl ?_
       exact ⟨⟨_, rfl⟩, .inr ⟨pre, _, _, HL2.out, hJx'⟩⟩
    ·obtain rfl : m = n := by omega
     have hc1 : decide ((m : Int) < (rest.length : Int)) = false := decide_eq_false (by omega)
     have hc2 : decide (m < rest.length) = false := decide_eq_false hlm
     clear HO HXC
     gi_wp2_with fail
     refine wpIn_wide.2 ?_
     go_quiet (fail)
     have hBX0 : Below wo.heap.size wo (wr.drewN nq) := pw_below_drewN HBi.out nq
     clear hbi1 hbi2 HBi
     generalize wr.drewN nq = wd at hBX0
     have hBX := hBX0
     have HJ3 : J pre wd := HJ.out _ _ _ HJ0.out (dP.of_below hBX _)
     obtain ⟨k', hk'⟩ : ∃ k', k = k' + 1 := ⟨k - 1, by omega⟩
     obtain ⟨A2, hA2⟩ : ∃ A2, (if c' = m then some ad else (some ad).map (·.add (m * 4))) = A2 := ⟨_, rfl⟩
     have hL2 : L = pre ++ (some ad, c', rest.take m) :: eW (fun x y : UpR w0 => cY x.up y.up) 4 k' A2 (c' - m) (rest.drop m) := by
      have h := HL.out
      rw [hk', HX.out] at h
      unfold eW at h
      rw [HGG.out, ← HX.out, hA2] at h
      exact h
     obtain ⟨fn, tmps, assign, body, hy, hR⟩ := HY.out pre (some ad, c', rest.take m) _ wd hL2 HJ3
     have hln : (rest.take m).length = m := by rw [List.length_take]; omega
     have hld : (rest.drop m).length = rest.length - m := List.length_drop
     have HC2 : Kd.C (kUR w0) wo A2 (rest.drop m).length (rest.drop m) := by rw [← hA2]; exact Kd.C_drop HC.out hgr hc'
     have HXA2 : (∀ ad, A2 = some ad → ¬ Y ad.block) ∧ ∀ ad, A2 = some ad → ad.block ≠ b1 := by
      have hb : ∀ a2, A2 = some a2 → a2.block = ad.block := by
       intro a2 h2
       rw [← hA2] at h2
       split at h2
       ·injection h2 with h2; rw [← h2]
       ·simp only [Option.map_some] at h2
        injection h2 with h2
        rw [← h2]
        unfold Addr.add
        split <;> rfl
      exact ⟨fun a2 h2 => by rw [hb a2 h2]; exact HXA.out.1 ad rfl, fun a2 h2 => by rw [hb a2 h2]; exact HXA.out.2 ad rfl⟩
     obtain ⟨i0, hi0, hi1⟩ := Option.map_eq_some_iff.1 mH
     have hsz0 : i0.size = 4 := by simp only [Prod.mk.injEq] at hi1; exact hi1.2.1
     have hcut := qZ 22 61 .i64 Tryz.underlying22 hi0 (some ad) rest.length c' m hgr hc'
     have hcutd := rA 22 61 .i64 Tryz.underlying22 hi0 4 hsz0 (some ad) rest.length c' m hgr hc'
     rw [hA2] at hcutd
     dsimp only [oL] at hy
     rw [hln] at hy
     have hbx3 := (H1.out.below hBX).cell
     have HL2 := aA.mk hL2
     have HC2' := aA.mk HC2
     have HXA2' := aA.mk HXA2
     have HLD := aA.mk hld
     have H13 := aA.mk (H1.out.below hBX)
     have H23 := aA.mk (H2.out.below hBX)
     have HBX3 := aA.mk hBX
     have HK' := aA.mk hk'
     clear hL2 HC2 HXA2 hld hln hA2 hk' hi1 hi0 hsz0 HJ3
     gi_wp2
     refine hR.mono ?_
     rintro e W' (⟨rfl, hJ', hst⟩ | ⟨rfl, hJx'⟩)
     ·have H14 := aA.mk (H13.out.step hst HX1.out.1)
      have H24 := aA.mk (H23.out.step hst HX1.out.2.1)
      have hbx4 := H14.out.cell
      have hfx4 := H14.out.frozen
      have HST := aA.mk hst
      have HJ4 := aA.mk hJ'
      clear hJ' hst hR hy hcut
      gi_wp2
      go_roundg (rest.length - m)
      case measure => have := HKQ.out; omega
      case rel =>
       have hst2 : dP (fun k => Y k ∨ k = b1) wo _ := ((dP.of_below HBX3.out _).trans (HST.out.mono fun _ _ h => .inl h)).trans (dP.setCell W' ⟨b1, 0, none⟩ (.slice A2 (rest.length - m) (c' - m)) (.inr rfl))
       refine ⟨_, rest.drop m, A2, c' - m, k', HLD.out, ?_, ?_, ?_, ⟨by rw [HL2.out]; simp⟩, ⟨mI (fun h => h) HC2'.out hst2 (fun a2 h2 hx => hx.elim (HXA2'.out.1 a2 h2) (HXA2'.out.2 a2 h2))⟩, HXA2', ?_, ⟨H24.out.far hn.symm _⟩, ⟨HJ.out _ _ _ HJ4.out (dP.setCell _ _ _ rfl)⟩, ⟨HB.out.trans (hst2.below HB.out.size (fun k hk => hk.elim (HX1.out.2.2.1 k) (fun e => e ▸ HX1.out.2.2.2)))⟩⟩
       ·rw [HLD.out]; have := HK'.out; omega
       ·rw [HLD.out]; omega
       ·rw [HLD.out]; omega
       ·rw [HLD.out]; exact ⟨H14.out.set _⟩
     ·gi_wp2
      refine bodyPost_ret (results_none rfl _ _ _) rfl ?_
      exact ⟨⟨_, rfl⟩, .inr ⟨pre, _, _, HL2.out, hJx'⟩⟩
  ·obtain rfl : rest = [] := by
    cases rest with
    | nil => rfl
    | cons a b => simp at hlt
   have hbx2 : wo.cell? ⟨b1, 0, none⟩ = some (.slice A' 0 c') := hbx1
   clear hbx1
   have hrn : eW (fun x y : UpR w0 => cY x.up y.up) 4 k A' c' [] = [] := by cases k <;> rfl
   have HLp : aA (L = pre) := ⟨by have := HL.out; rw [hrn, List.append_nil] at this; exact this⟩
   clear hrn
   gi_wp2
   go_end0
   exact ⟨⟨_, rfl⟩, .inl (by rw [HLp.out]; exact HJ0.out)⟩
end Go.Proofs.YtpflmgbpjhbmnaaGreat.B
end
