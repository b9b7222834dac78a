/- Add2. -/
import Derived.Test.YtpflmgbpjhbmnaaGreatQBm17
section
namespace Go.Proofs.YtpflmgbpjhbmnaaGreat.B
open Go Go.RowKit Go.Proofs Go.Proofs.YtpflmgbpjhbmnaaGreatW.PrintWords Go.Proofs.YtpflmgbpjhbmnaaGreatW.PrintLast Go.Proofs.YtpflmgbpjhbmnaaGreatW.PrintMore Go.Proofs.YtpflmgbpjhbmnaaGreat.Rg
set_option linter.unusedVariables false
set_option linter.unusedSimpArgs false
set_option maxRecDepth 100000
set_option maxHeartbeats 100000000 in
theorem xE (p N : Nat) (b : Bt) (A A5 : Option Addr) (c c5 : Nat) (u : S61) (w wc : World) (hv : Vd b) (hl : b.times.length < 1099511627776) (kr rr : List S85) (HKR : aA (kr = u.f0.take b.key.toNat ∧ rr = u.f0.drop b.key.toNat)) (L2 : Nat → Nat) (v2 v3 v4 v5 v6 v7 v8 : Value)
  (HI : aA (jP w wc N p L2 u A c b.key b.weight ((if dY b.keys kr = true then lP b kr else b).rws v2 v3 v4 v5 v6 v7 v8))) (HR : aA (Kd.R k85 85 wc N (fun k => L2 k = 10) (.slice A5 rr.length c5) rr))
  (y1 y2 y4 y6 y8 y9 y10 y11 y12 y13 y14 y15 y16 y17 y18 y19 y20 y21 y22 y23 y24 y25 y26 y27 y28 y29 y30 y31 y32 y33 y34 y35 y36 y37 y38 y39 y40 y41 y42 y43 y44 y45 y46 y47 y48 y49 y50 y51 y52 y53 y54 y55 y56 y57 y58 y59 y60 y61 y62 y63 y64 y65 y66 y67 y68 y69 y70 y71 y72 y73 y74 y75 y76 y77 y78 y79 y80 y81 y82 y83 y84 y85 y86 y87 y88 y89 y90 y91 y92 y93 y94 y95 y96 y97 y98 y99 y100 y101 y102 y103 y104 y105 y106 y107 y108 y109 y110 y111 y112 y113 y114 y115 y116 y117 y118 y119 y120 y121 y122 y123 y124 y125 y126 y127 y128 y129 y130 y131 y132 y133 y134 y135 y136 y137 y138 y139 y140 y141 y142 y143 y144 y145 y146 y147 y148 y149 y150 y151 y152 y153 y154 y155 y156 y157 y158 : Value) : Code.wp Tryz.prog (gM 4 jR) (bodyPost Tryz.prog Tryz.f56 (fun e w' => e = .returned (.tuple #[]) ∧ dU w' N p (jC b u) ∧ Below N w w')) { tmps := #[(.pointer (some ⟨p, 0, none⟩)), y1, y2, (.pointer (some ⟨w.heap.size, 0, none⟩)), y4, (.slice A5 rr.length c5), y6, (.bool (dY b.keys kr)), y8, y9, y10, y11, y12, y13, y14, y15, y16, y17, y18, y19, y20, y21, y22, y23, y24, y25, y26, y27, y28, y29, y30, y31, y32, y33, y34, y35, y36, y37, y38, y39, y40, y41, y42, y43, y44, y45, y46, y47, y48, y49, y50, y51, y52, y53, y54, y55, y56, y57, y58, y59, y60, y61, y62, y63, y64, y65, y66, y67, y68, y69, y70, y71, y72, y73, y74, y75, y76, y77, y78, y79, y80, y81, y82, y83, y84, y85, y86, y87, y88, y89, y90, y91, y92, y93, y94, y95, y96, y97, y98, y99, y100, y101, y102, y103, y104, y105, y106, y107, y108, y109, y110, y111, y112, y113, y114, y115, y116, y117, y118, y119, y120, y121, y122, y123, y124, y125, y126, y127, y128, y129, y130, y131, y132, y133, y134, y135, y136, y137, y138, y139, y140, y141, y142, y143, y144, y145, y146, y147, y148, y149, y150, y151, y152, y153, y154, y155, y156, y157, y158], defers := [] } wc := by
 have key : ∀ cd, gM 4 jR = cd → Code.wp Tryz.prog cd (bodyPost Tryz.prog Tryz.f56 (fun e w' => e = .returned (.tuple #[]) ∧ dU w' N p (jC b u) ∧ Below N w w')) { tmps := #[(.pointer (some ⟨p, 0, none⟩)), y1, y2, (.pointer (some ⟨w.heap.size, 0, none⟩)), y4, (.slice A5 rr.length c5), y6, (.bool (dY b.keys kr)), y8, y9, y10, y11, y12, y13, y14, y15, y16, y17, y18, y19, y20, y21, y22, y23, y24, y25, y26, y27, y28, y29, y30, y31, y32, y33, y34, y35, y36, y37, y38, y39, y40, y41, y42, y43, y44, y45, y46, y47, y48, y49, y50, y51, y52, y53, y54, y55, y56, y57, y58, y59, y60, y61, y62, y63, y64, y65, y66, y67, y68, y69, y70, y71, y72, y73, y74, y75, y76, y77, y78, y79, y80, y81, y82, y83, y84, y85, y86, y87, y88, y89, y90, y91, y92, y93, y94, y95, y96, y97, y98, y99, y100, y101, y102, y103, y104, y105, y106, y107, y108, y109, y110, y111, y112, y113, y114, y115, y116, y117, y118, y119, y120, y121, y122, y123, y124, y125, y126, y127, y128, y129, y130, y131, y132, y133, y134, y135, y136, y137, y138, y139, y140, y141, y142, y143, y144, y145, y146, y147, y148, y149, y150, y151, y152, y153, y154, y155, y156, y157, y158], defers := [] } wc := by
  intro cd hcd
  unfold jR Tryz.f56 at hcd
  dsimp only [gM] at hcd
  subst hcd
  dsimp only
  have HF := aA.mk (uJ b kr hv hl)
  obtain ⟨b2, hb2⟩ : ∃ b2, b2 = (if dY b.keys kr = true then lP b kr else b) := ⟨_, rfl⟩
  obtain ⟨nw, hnw⟩ : ∃ nw, nw = (if dY b.keys kr = true then true else dY b.rests rr) := ⟨_, rfl⟩
  rw [← hb2] at HI HF
  have HE := aA.mk (And.intro hb2 hnw)
  clear hb2
  go_upto_region 6 with (fail)
  go_cut [7, 84] (fun x7 x84 we => x84 = .bool nw ∧ aA (jP w we N p L2 u A c b.key b.weight (b2.rws v2 v3 v4 v5 v6 v7 v8)) ∧ aA (Kd.R k85 85 we N (fun k => L2 k = 10) (.slice A5 rr.length c5) rr))
  case first =>
   cases hf : dY b.keys kr with
   | true =>
    have hn : nw = true := by rw [hnw, hf]; rfl
    clear hnw hf
    go_quiet (fail)
    go_wp2
    go_meet
    case rel => exact ⟨by rw [hn], ⟨HI.out.below (pw_below_drewN (Below.refl _ _) _)⟩, ⟨Kd.R_drewN HR.out _⟩⟩
   | false =>
    have hn : nw = dY b.rests rr := by rw [hnw, hf]; rfl
    have hk9 : b.keys.length ≠ 0 := fun e => by
     unfold dY at hf
     rw [if_pos e] at hf
     cases hf
    obtain ⟨m, hm⟩ : ∃ m, b.rests.length = m + 1 := ⟨b.rests.length - 1, by have := hv.kr; omega⟩
    obtain ⟨A3, c3, e3, hl3, hC3⟩ := Kd.R_reads (HI.out.S.rows 3 _ rfl)
    have hc3 : wc.cell? ⟨p, 5, none⟩ = some v5 := HI.out.S.cell 3 _ rfl
    dsimp only at e3 hl3 hC3
    rw [HF.out.rests] at e3 hl3 hC3
    subst e3
    have hkb := HF.out.rl
    obtain ⟨ad, A', c', eA, hx, hl', hC'⟩ := jL hC3 (m : Int) (by omega) (by omega)
    subst eA
    rw [Int.toNat_natCast] at hx
    have hq : dY b.rests rr = !dK (dH b.rests (m : Int)) rr := by
     unfold dY
     rw [if_neg (by omega)]
     simp [dH, hm]
    rw [hm] at hc3
    have hb1 : decide (((m + 1 : Nat) : Int) = 0) = false := decide_eq_false (by omega)
    have hi1 : (m : Int) < ((m + 1 : Nat) : Int) := by omega
    have hi0 : (0 : Int) ≤ (m : Int) := by omega
    have hw1 : IntKind.i64.wrap (((m + 1 : Nat) : Int) - 1) = (m : Int) := by rw [IntWalk.i64_in _ (by omega)]; omega
    have hw2 : IntKind.i64.wrap ((m : Int) + 1 - 1) = (m : Int) := by rw [IntWalk.i64_in _ (by omega)]; omega
    have hw3 : IntKind.i64.wrap (m : Int) = (m : Int) := by rw [IntWalk.i64_in _ (by omega)]
    have hi2 : (m : Int) < (m : Int) + 1 := by omega
    have hi3 : m < m + 1 := by omega
    obtain ⟨rd, hrd⟩ : ∃ rd, rd = dH b.rests (m : Int) := ⟨_, rfl⟩
    rw [← hrd] at hx hl' hC' hq
    have HSame : aA (∀ W, Below wc.heap.size wc W → Calls Tryz.prog 83 #[.slice A' rd.length c', .slice A5 rr.length c5] W fun e w' => e = .returned (.bool (dK rd rr)) ∧ aA (Below W.heap.size W w')) := ⟨fun W hW => by
     obtain ⟨_, _, e4, hl4, hC4⟩ := Kd.R_reads HR.out
     cases e4
     exact (kH.calls A' c' rd A5 c5 rr (dK rd rr) W (Kd.C_below hC' hW) hl' (Kd.C_below hC4 hW) hl4 rfl).mono fun e w' ⟨h1, h2⟩ => ⟨h1, ⟨h2⟩⟩⟩
    have HZ := aA.mk (And.intro hm (And.intro hq hrd))
    have HN := aA.mk hn
    clear hm hq hrd hC' hC3 hl' hn hnw hf hk9 hkb
    go_region_held3 (fun w' => w'.cell? ⟨p, 5, none⟩ = some (.slice (some ad) (m + 1) c3) ∧ w'.cell? (ad.add m) = some (.slice A' rd.length c')) (first | go_keep | (exact ⟨aH HB3.out (by assumption), aH HB3.out (by assumption)⟩)) ((go_at_call 83; refine (HSame.out _ (by repeat (first | exact Below.refl _ _ | apply aC | apply pw_below_drewN | apply aD))).mono ?_; rintro e w3 ⟨rfl, HB3⟩))
    go_wp2
    go_meet
    case rel =>
     have hbx : Below wc.heap.size wc w3 := Below.trans (by repeat (first | exact Below.refl _ _ | apply aC | apply pw_below_drewN | apply cG)) (HB3.out.mono (Nat.le_refl _))
     refine ⟨?_, ⟨HI.out.below hbx⟩, ⟨Kd.R_below HR.out hbx⟩⟩
     rw [HN.out, HZ.out.2.1]
  case rest =>
   clear HI HR
   obtain ⟨rfl, HI, HR⟩ := hcut
   clear hnw
   obtain ⟨b3, hb3⟩ : ∃ b3, b3 = (if nw = true then iM b2 rr else b2) := ⟨_, rfl⟩
   have HE3 := aA.mk hb3
   clear hb3
   go_upto_if 84 with (fail)
   go_cut [84] (fun x84 we => ∃ (L3 : Nat → Nat) (v4 v5 v6 : Value), aA (jP w we N p L3 u A c b.key b.weight (b3.rws v2 v3 v4 v5 v6 v7 v8)))
   case first =>
    cases nw with
    | false =>
     go_wp2
     go_meet
     case rel => exact ⟨L2, v4, v5, v6, by rw [HE3.out]; exact HI⟩
    | true =>
     obtain ⟨A3, c3, e3, hl3, hC3⟩ := Kd.R_reads (HI.out.S.rows 3 _ rfl)
     obtain ⟨A6', c6', e6, hl6, hC6⟩ := Kd.R_reads (HI.out.S.rows 4 _ rfl)
     obtain ⟨A7', c7', e7, hl7, hC7⟩ := Kd.R_reads (HI.out.S.rows 5 _ rfl)
     dsimp only at e3 e6 e7
     subst e3 e6 e7
     clear hl3 hC3 hl6 hC6 hl7 hC7
     have R3 : aA (Kd.R kV 45 wc N (fun k => L2 k = 5) (.slice A3 b2.rests.length c3) b2.rests) := ⟨HI.out.S.rows 3 _ rfl⟩
     have hc3 : wc.cell? ⟨p, 5, none⟩ = some (.slice A3 b2.rests.length c3) := HI.out.S.cell 3 _ rfl
     have hsz : p < wc.heap.size := HI.out.S.lt
     have HP2 : aA (b2.rests.length < 1099511627776 ∧ b2.ends.length < 1099511627776 ∧ b2.times.length < 1099511627776) := ⟨by rw [HF.out.rests]; exact HF.out.rl, by rw [HF.out.ends, HF.out.el]; exact HF.out.rl, by rw [HF.out.times]; exact HF.out.tl⟩
     go_upto_region 8 with (first
      | ((with_reducible refine cI (b := .append) (xs := #[.tmp 89, .tmp 91]) rfl ?_); at_builtin; (
        refine Kd.R_append kV (w0 := w) N rfl (.tmp 89) (.tmp 91) 37 45 (.slice none 0 0) 24 rfl Tryz.underlying37 oD rfl (Nat.succ_pos _) (by omega) (.slice A3 b2.rests.length c3) b2.rests rr [.slice A5 rr.length c5] (fun k => fD L2 wc.heap.size 10 5 k = 5) (fun k => L2 k = 10) rfl rfl ⟨_, rfl, HR.out⟩ (fun k hk => pT R3.out (by decide) k hk) (fun k hk => lE hk) (uI R3.out) HI.out.B (Nat.le_trans HI.out.S.hN (Nat.le_of_lt HI.out.S.lt)) (by have := HP2.out; omega) ?_
        intro v3' w4 ho hb hg hat
        obtain ⟨A3', c3', e3⟩ := Kd.R_slice ho
        rw [List.length_append, List.length_singleton] at e3
        subst e3
        have hgr := HI.out.S.grown 3 _ rfl (fun _ _ => rfl) (Nat.le_refl _) hg
        have hcp := jQ (hgr p hsz (by rw [HI.out.S.hp]; decide)) 5
        have hfp := gC (hgr p hsz (by rw [HI.out.S.hp]; decide)) 5
        rw [HI.out.S.frozen 5] at hfp
        rw [hc3] at hcp
        have HJ := aA.mk (HI.out.put 3 ⟨_, kV, 45, _, b2.rests ++ [rr]⟩ 10 (by show 3 < 7; decide) (by show 7 + 2 ≤ 10; decide) (by decide) (by decide) hb hgr ho)
        clear ho hb hg hat hgr)))
     obtain ⟨W5, hW5⟩ : ∃ W5, W5 = w4.setCell ⟨p, 5, none⟩ (.slice A3' (b2.rests.length + 1) c3') := ⟨_, rfl⟩
     obtain ⟨L5, hL5⟩ : ∃ L5, L5 = fD L2 wc.heap.size 10 5 := ⟨_, rfl⟩
     have HJ5 : aA (jP w W5 N p L5 u A c b.key b.weight (Bt.rws { b2 with rests := b2.rests ++ [rr] } v2 v3 v4 (.slice A3' (b2.rests.length + 1) c3') (.slice A6' b2.ends.length c6') (.slice A7' b2.times.length c7') v8)) := ⟨by rw [hW5, hL5]; exact HJ.out⟩
     rw [← hW5]
     clear HJ hfp hcp hW5 hL5 R3 HR HI hc3 hsz
     clear w4
     go_cut [94] (fun x94 we => ∃ (L6 : Nat → Nat) (v6 : Value), aA (jP w we N p L6 u A c b.key b.weight (Bt.rws { b2 with rests := b2.rests ++ [rr], ends := b2.ends ++ [(b2.times.length : Int)] } v2 v3 v4 (.slice A3' (b2.rests.length + 1) c3') v6 (.slice A7' b2.times.length c7') v8)))
     case first =>
      have hsz : p < W5.heap.size := HJ5.out.S.lt
      have hc56 : W5.cell? ⟨p, 6, none⟩ = some (.slice A6' b2.ends.length c6') := HJ5.out.S.cell 4 _ rfl
      have hc57 : W5.cell? ⟨p, 7, none⟩ = some (.slice A7' b2.times.length c7') := HJ5.out.S.cell 5 _ rfl
      have HAPP := HJ5.out.app (P := Tryz.prog) 4 kI 3 (.slice A6' b2.ends.length c6') b2.ends rfl 13 (by show 7 + 2 ≤ 13; decide) (by decide) (by decide) (b2.times.length : Int) [.int .i64 (b2.times.length : Int)] (by rfl) (.tmp 99) (.tmp 105) 91 (.int .i64 0) 8 Tryz.underlying91 pU rfl (Nat.succ_pos _) (by omega) (by have := HP2.out; omega)
      go_region_law ((refine HAPP.out _ _ _ _ _ _ (by rfl) (by rfl) (by rfl) (by rfl) ?_; intro g4 c4n w5 hgr5 hgr6 HJ6; have hc54' := (jQ hgr5.out 6).trans hc56; have hf54' := (gC hgr5.out 6).trans (HJ5.out.S.frozen 6)))
      all_goals
       go_wp2
       go_meet
       case rel => exact ⟨fD L5 W5.heap.size 13 6, .slice (some ⟨g4, 0, none⟩) (b2.ends.length + 1) c4n, ⟨HJ6.out⟩⟩
     case rest =>
      clear HJ5
      obtain ⟨L6, v6, HI⟩ := hcut
      obtain ⟨m, hm⟩ : ∃ m, b2.kend.length = m + 1 := ⟨b2.kend.length - 1, by have := HF.out.kn; omega⟩
      obtain ⟨g, cap, e4, _, _, _⟩ := Kd.R_form (HI.out.S.rows 2 _ rfl) (by show 0 < b2.kend.length; omega)
      dsimp only at e4
      rw [hm] at e4
      subst e4
      have hc94 : wc.cell? ⟨p, 4, none⟩ = some (.slice (some ⟨g, 0, none⟩) (m + 1) cap) := HI.out.S.cell 2 _ rfl
      have hlk := HF.out.lk
      have hm9 : b2.kend.length - 1 = m := by omega
      rw [hm9] at hlk
      obtain ⟨hx, hfx⟩ := HI.out.bump_cell 2 g (m + 1) cap b2.kend rfl m (by omega)
      rw [hlk] at hx
      have hkb := HF.out.rl
      have hkb2 := HF.out.kl
      have hb9 : m + 1 ≤ 1099511627776 := by omega
      have hi1 : (m : Int) < ((m + 1 : Nat) : Int) := by omega
      have hi0 : (0 : Int) ≤ (m : Int) := by omega
      have hw1 : IntKind.i64.wrap (((m + 1 : Nat) : Int) - 1) = (m : Int) := by rw [IntWalk.i64_in _ (by omega)]; omega
      have hw2 : IntKind.i64.wrap ((m : Int) + 1 - 1) = (m : Int) := by rw [IntWalk.i64_in _ (by omega)]; omega
      have hw3 : IntKind.i64.wrap (m : Int) = (m : Int) := by rw [IntWalk.i64_in _ (by omega)]
      have hi2 : (m : Int) < (m : Int) + 1 := by omega
      have hi3 : m < m + 1 := by omega
      have HB := aA.mk (HI.out.bump 2 g (m + 1) cap b2.kend rfl m (by omega) (by decide) ((b.rests.length : Int) + 1))
      have hw5 : IntKind.i64.wrap ((b.rests.length : Int) + 1) = (b.rests.length : Int) + 1 := by rw [IntWalk.i64_in _ (by omega)]
      have HM := aA.mk (And.intro hm (And.intro hm9 hlk))
      clear hm hm9 hlk hkb hkb2
      go_wp2_with fail
      go_still_tail 14, (by kernel_rfl)
      change wpList _ _ _ _ _ wc.drew
      have hfx2 : wc.drew.frozen? ⟨g, m, none⟩ = false := hfx
      have hx2 : wc.drew.cell? ⟨g, m, none⟩ = some (.int .i64 (b.rests.length : Int)) := hx
      go_wp2
      go_meet
      case rel =>
       refine ⟨L6, .slice (some ⟨g, 0, none⟩) (m + 1) cap, .slice A3' (b2.rests.length + 1) c3', v6, ⟨?_⟩⟩
       have hbm : bump b2.kend = b2.kend.set m ((b.rests.length : Int) + 1) := by
        unfold bump
        rw [HM.out.2.1, HM.out.2.2]
       have h9 := HB.out.below (cG (Below.refl _ _))
       rw [HE3.out, if_pos trivial]
       unfold iM
       rw [hbm]
       exact h9
   case rest =>
    clear HI HR
    obtain ⟨L3, v4, v5, v6, HI⟩ := hcut
    have HG := aA.mk (sE b b2 b3 u kr rr nw hv hl HKR.out.1 HKR.out.2 HE.out.1 HE.out.2 HE3.out)
    apply_assumption
    exact uK p N b b3 A c u w _ HG L3 v2 v3 v4 v5 v6 v7 v8 HI _ _ _ _ _ _ _ _ _ _ _ _ _ _ _ _ _ _ _ _ _ _ _ _ _ _ _ _ _ _ _ _ _ _ _ _ _ _ _ _ _ _ _ _ _ _ _ _ _ _ _ _ _ _ _ _ _ _ _ _ _ _ _ _ _ _ _ _ _ _ _ _ _ _ _ _ _ _ _ _ _ _ _ _ _ _ _ _ _ _ _ _ _ _ _ _ _ _ _ _ _ _ _ _ _ _ _ _ _ _ _ _ _ _ _ _ _ _ _ _ _ _ _ _ _ _ _ _ _ _ _ _ _ _ _ _ _ _ _ _ _ _ _ _ _ _ _ _ _ _ _ _ _ _ _ _ _
 exact key _ rfl
end Go.Proofs.YtpflmgbpjhbmnaaGreat.B
end
