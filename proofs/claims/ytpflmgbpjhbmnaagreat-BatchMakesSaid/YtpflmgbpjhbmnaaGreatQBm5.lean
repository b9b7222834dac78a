/- Bx51, Bx52, Bx54, Bx55, Bx65, Bx140, Bx29, Bx1, Bx30. -/
import Derived.Test.YtpflmgbpjhbmnaaGreatQBm4
import Derived.Test.YtpflmgbpjhbmnaaGreatQBm2
import Derived.Test.YtpflmgbpjhbmnaaGreatQBm3
section
namespace Go.Proofs.YtpflmgbpjhbmnaaGreat.B
open Go.RowKit Go.Proofs.YtpflmgbpjhbmnaaGreatW.PrintWords Go.Proofs.YtpflmgbpjhbmnaaGreatW.PrintLast Go.Proofs.YtpflmgbpjhbmnaaGreatW.PrintMore
attribute [local go_sem] Go.Proofs.YtpflmgbpjhbmnaaGreat.str_gtr bZ cA cJ cK bT bU cB cC   -- for this text's walks alone
set_option linter.unusedVariables false
set_option linter.unusedSimpArgs false
def gA.f (l0_0 : List (S85)) (a0_1 : Int) (a0_2 : Int) (a0_3 : Int) (l1_0 : List (S85)) (a1_1 : Int) (a1_2 : Int) (a1_3 : Int) : Option (Int) := (dX.f l0_0 l1_0).bind fun t166 => (if t166 = 0 then ((dS.f a0_1 a0_2 a1_1 a1_2).bind fun t167 => (some t167)) else (some t166))
set_option maxHeartbeats 8000000 in
set_option maxRecDepth 100000 in
theorem gA.calls (A0_0 : Option Addr) (c0_0 : Nat) (l0_0 : List (S85)) (a0_1 : Int) (a0_2 : Int) (a0_3 : Int) (A1_0 : Option Addr) (c1_0 : Nat) (l1_0 : List (S85)) (a1_1 : Int) (a1_2 : Int) (a1_3 : Int) (r : Int) (w : World) (hr0_0 : Kd.C k85 w A0_0 l0_0.length l0_0) (hc0_0 : l0_0.length ≤ c0_0) (hr1_0 : Kd.C k85 w A1_0 l1_0.length l1_0) (hc1_0 : l1_0.length ≤ c1_0) (h : gA.f l0_0 a0_1 a0_2 a0_3 l1_0 a1_1 a1_2 a1_3 = some r) :
  Calls Tryz.prog 80 #[.agg #[.slice A0_0 l0_0.length c0_0, .int .i64 a0_1, .int .i64 a0_2, .int .i64 a0_3], .agg #[.slice A1_0 l1_0.length c1_0, .int .i64 a1_1, .int .i64 a1_2, .int .i64 a1_3]] w fun e w' => e = .returned (.int .i64 r) ∧ Below w.heap.size w w' := by
 have hu61 := Tryz.underlying61
 have hu59 := Tryz.underlying59
 have HR0_0 := aA.mk hr0_0
 have HC0_0 := aA.mk hc0_0
 clear hr0_0 hc0_0
 have HR1_0 := aA.mk hr1_0
 have HC1_0 := aA.mk hc1_0
 clear hr1_0 hc1_0
 have HB := aA.mk (Below.refl w.heap.size w)
 have H : ((dX.f l0_0 l1_0).bind fun t166 => (if t166 = 0 then ((dS.f a0_1 a0_2 a1_1 a1_2).bind fun t167 => (some t167)) else (some t166))) = some r := h
 clear h
 replace H := Option.bind_eq_some_iff.mp H
 obtain ⟨t166, A30, H⟩ := H
 replace H : (if t166 = 0 then ((dS.f a0_1 a0_2 a1_1 a1_2).bind fun t167 => (some t167)) else (some t166)) = some r := H
 have A3 := aA.mk A30
 clear A30
 by_cases c4 : t166 = 0
 ·rw [if_pos c4] at H
  have c4b0 : (t166 == 0) = true := beq_iff_eq.mpr c4
  have c4b1 : (t166 != 0) = false := bne_eq_false_iff_eq.mpr c4
  clear c4
  replace H := Option.bind_eq_some_iff.mp H
  obtain ⟨t167, A50, H⟩ := H
  replace H : (some t167) = some r := H
  have A5 := aA.mk A50
  clear A50
  obtain rfl := Option.some.inj H
  go_enter Tryz.func80, Tryz.ntmps80
  go_wp2_with (first | ((with_reducible refine bK (N := 2) rfl ?_); refine bG ?hg (N := 2) ?hd (cs := #[.slice A0_0 l0_0.length c0_0, .int .i64 a0_1, .int .i64 a0_2, .int .i64 a0_3]) (t := 61) ?hr ?_; (case hd => rfl); (case hg => rfl); (case hr => first | (go_simp; done) | (go_simp; rfl)); intro gb164 hg w6 hbox hb; have n0_ := aA.mk (aV (by repeat (first | (with_reducible first | exact HB.out | apply aC | apply pw_below_drewN | apply aD) | exact HB.out)) hb); have n1_ := aA.mk (hbox); have n2_ := aA.mk ((by rw [hg]; exact (aM (by repeat (first | (with_reducible first | exact HB.out | apply aC | apply pw_below_drewN | apply aD) | exact HB.out))) : w.heap.size ≤ gb164)); have n3_ := aA.mk ((by rw [hg]; exact (aM (by repeat (first | (with_reducible first | exact HB.out | apply aC | apply pw_below_drewN | apply aD) | exact HB.out))) : w.heap.size ≤ gb164)); clear HB; have HB := n0_; have BK164 := n1_; have GW164 := n2_; have GE164 := n3_; clear n0_ n1_ n2_ n3_; clear hb hbox hg) | ((with_reducible refine bK (N := 3) rfl ?_); refine bG ?hg (N := 3) ?hd (cs := #[.slice A1_0 l1_0.length c1_0, .int .i64 a1_1, .int .i64 a1_2, .int .i64 a1_3]) (t := 61) ?hr ?_; (case hd => rfl); (case hg => rfl); (case hr => first | (go_simp; done) | (go_simp; rfl)); intro gb165 hg w7 hbox hb; have n0_ := aA.mk (bD (g := gb164) (o := .cells #[.slice A0_0 l0_0.length c0_0, .int .i64 a0_1, .int .i64 a0_2, .int .i64 a0_3] 61 (0, 0)) (by (with_reducible repeat (first | refine aJ ?_ _ | refine aK ?_ | refine aI ?_ _)); exact BK164.out) hb); have n1_ := aA.mk (aV (by repeat (first | (with_reducible first | exact HB.out | apply aC | apply pw_below_drewN | apply aD | refine aG ?_ GE164.out) | exact HB.out)) hb); have n2_ := aA.mk (hbox); have n3_ := aA.mk ((by rw [hg]; exact (aM (by repeat (first | (with_reducible first | exact HB.out | apply aC | apply pw_below_drewN | apply aD | refine aG ?_ GE164.out) | exact HB.out))) : w.heap.size ≤ gb165)); have n4_ := aA.mk ((by rw [hg]; exact (aM (by repeat (first | (with_reducible first | exact HB.out | apply aC | apply pw_below_drewN | apply aD | refine aG ?_ GE164.out) | exact HB.out))) : w.heap.size ≤ gb165)); have n5_ := aA.mk ((by rw [hg]; exact Nat.ne_of_lt (blk_lt (g := gb164) (o := .cells #[.slice A0_0 l0_0.length c0_0, .int .i64 a0_1, .int .i64 a0_2, .int .i64 a0_3] 61 (0, 0)) (by (with_reducible repeat (first | refine aJ ?_ _ | refine aK ?_ | refine aI ?_ _)); exact BK164.out)) : gb164 ≠ gb165)); have n6_ := aA.mk ((by rw [hg]; exact Nat.ne_of_gt (blk_lt (g := gb164) (o := .cells #[.slice A0_0 l0_0.length c0_0, .int .i64 a0_1, .int .i64 a0_2, .int .i64 a0_3] 61 (0, 0)) (by (with_reducible repeat (first | refine aJ ?_ _ | refine aK ?_ | refine aI ?_ _)); exact BK164.out)) : gb165 ≠ gb164)); clear BK164; clear HB; have BK164 := n0_; have HB := n1_; have BK165 := n2_; have GW165 := n3_; have GE165 := n4_; have NB164_165 := n5_; have NB165_164 := n6_; clear n0_ n1_ n2_ n3_ n4_ n5_ n6_; clear hb hbox hg; have hnb8 := NB164_165.out; have hnc8 := NB165_164.out; have hcz9_0 : w7.cell? ⟨gb164, 0, none⟩ = some (.slice A0_0 l0_0.length c0_0) := (aE BK164.out 0).trans rfl; have hcz9_1 : w7.cell? ⟨gb164, 1, none⟩ = some (.int .i64 a0_1) := (aE BK164.out 1).trans rfl; have hcz9_2 : w7.cell? ⟨gb164, 2, none⟩ = some (.int .i64 a0_2) := (aE BK164.out 2).trans rfl; have hcz9_3 : w7.cell? ⟨gb164, 3, none⟩ = some (.int .i64 a0_3) := (aE BK164.out 3).trans rfl; have hfz9_0 := blk_frozen BK164.out 0; have hfz9_1 := blk_frozen BK164.out 1; have hfz9_2 := blk_frozen BK164.out 2; have hfz9_3 := blk_frozen BK164.out 3; have hcz10_0 : w7.cell? ⟨gb165, 0, none⟩ = some (.slice A1_0 l1_0.length c1_0) := (aE BK165.out 0).trans rfl; have hcz10_1 : w7.cell? ⟨gb165, 1, none⟩ = some (.int .i64 a1_1) := (aE BK165.out 1).trans rfl; have hcz10_2 : w7.cell? ⟨gb165, 2, none⟩ = some (.int .i64 a1_2) := (aE BK165.out 2).trans rfl; have hcz10_3 : w7.cell? ⟨gb165, 3, none⟩ = some (.int .i64 a1_3) := (aE BK165.out 3).trans rfl; have hfz10_0 := blk_frozen BK165.out 0; have hfz10_1 := blk_frozen BK165.out 1; have hfz10_2 := blk_frozen BK165.out 2; have hfz10_3 := blk_frozen BK165.out 3) | ((with_reducible refine aZ (f := 90) rfl ?_); refine cH (some 10) rfl rfl Tryz.func90 (by kernel_rfl) rfl #[.slice A0_0 l0_0.length c0_0, .slice A1_0 l1_0.length c1_0] rfl (by (try simp only [List.map_toArray, List.map_cons, List.map_nil]); first | done | rfl | (simp only [List.length_drop, List.length_take]; rfl)) ?_; (with_reducible refine (dX.calls _ _ l0_0 _ _ l1_0 t166 _ ?side1 ?side2 ?side3 ?side4 A3.out).mono ?_); (case side1 => repeat (first | exact (Kd.C_below HR0_0.out HB.out) | (with_reducible refine Kd.C_alloc ?_ _) | (with_reducible refine Kd.C_drewN ?_ _) | (with_reducible refine Kd.C_drew ?_))); (case side2 => exact HC0_0.out); (case side3 => repeat (first | exact (Kd.C_below HR1_0.out HB.out) | (with_reducible refine Kd.C_alloc ?_ _) | (with_reducible refine Kd.C_drewN ?_ _) | (with_reducible refine Kd.C_drew ?_))); (case side4 => exact HC1_0.out); rintro e w11 ⟨rfl, hb⟩; refine ⟨_, rfl, ?_⟩; have n0_ := aA.mk (bD (g := gb164) (o := .cells #[.slice A0_0 l0_0.length c0_0, .int .i64 a0_1, .int .i64 a0_2, .int .i64 a0_3] 61 (0, 0)) (by (with_reducible repeat (first | refine aJ ?_ _ | refine aK ?_ | refine aI ?_ _)); exact BK164.out) hb); have n1_ := aA.mk (bD (g := gb165) (o := .cells #[.slice A1_0 l1_0.length c1_0, .int .i64 a1_1, .int .i64 a1_2, .int .i64 a1_3] 61 (0, 0)) (by (with_reducible repeat (first | refine aJ ?_ _ | refine aK ?_ | refine aI ?_ _)); exact BK165.out) hb); have n2_ := aA.mk (aV (by repeat (first | (with_reducible first | exact HB.out | apply aC | apply pw_below_drewN | apply aD | refine aG ?_ GE164.out | refine aG ?_ GE165.out) | exact HB.out)) hb); clear BK164; clear BK165; clear HB; have BK164 := n0_; have BK165 := n1_; have HB := n2_; clear n0_ n1_ n2_; (try clear hb); (try clear hb2); (try clear hk); (try clear hi); have hcz12_0 : w11.cell? ⟨gb164, 0, none⟩ = some (.slice A0_0 l0_0.length c0_0) := (aE BK164.out 0).trans rfl; have hcz12_1 : w11.cell? ⟨gb164, 1, none⟩ = some (.int .i64 a0_1) := (aE BK164.out 1).trans rfl; have hcz12_2 : w11.cell? ⟨gb164, 2, none⟩ = some (.int .i64 a0_2) := (aE BK164.out 2).trans rfl; have hcz12_3 : w11.cell? ⟨gb164, 3, none⟩ = some (.int .i64 a0_3) := (aE BK164.out 3).trans rfl; have hfz12_0 := blk_frozen BK164.out 0; have hfz12_1 := blk_frozen BK164.out 1; have hfz12_2 := blk_frozen BK164.out 2; have hfz12_3 := blk_frozen BK164.out 3; have hcz13_0 : w11.cell? ⟨gb165, 0, none⟩ = some (.slice A1_0 l1_0.length c1_0) := (aE BK165.out 0).trans rfl; have hcz13_1 : w11.cell? ⟨gb165, 1, none⟩ = some (.int .i64 a1_1) := (aE BK165.out 1).trans rfl; have hcz13_2 : w11.cell? ⟨gb165, 2, none⟩ = some (.int .i64 a1_2) := (aE BK165.out 2).trans rfl; have hcz13_3 : w11.cell? ⟨gb165, 3, none⟩ = some (.int .i64 a1_3) := (aE BK165.out 3).trans rfl; have hfz13_0 := blk_frozen BK165.out 0; have hfz13_1 := blk_frozen BK165.out 1; have hfz13_2 := blk_frozen BK165.out 2; have hfz13_3 := blk_frozen BK165.out 3) | ((with_reducible refine aZ (f := 99) rfl ?_); refine cH (some 18) rfl rfl Tryz.func99 (by kernel_rfl) rfl #[.agg #[.int .i64 a0_1, .int .i64 a0_2], .agg #[.int .i64 a1_1, .int .i64 a1_2]] rfl (by (try simp only [List.map_toArray, List.map_cons, List.map_nil]); first | done | rfl | (simp only [List.length_drop, List.length_take]; rfl)) ?_; (with_reducible refine (dS.calls a0_1 a0_2 a1_1 a1_2 t167 _ A5.out).mono ?_); rintro e w14 ⟨rfl, hb⟩; refine ⟨_, rfl, ?_⟩; have n0_ := aA.mk (bD (g := gb164) (o := .cells #[.slice A0_0 l0_0.length c0_0, .int .i64 a0_1, .int .i64 a0_2, .int .i64 a0_3] 61 (0, 0)) (by (with_reducible repeat (first | refine aJ ?_ _ | refine aK ?_ | refine aI ?_ _)); exact BK164.out) hb); have n1_ := aA.mk (bD (g := gb165) (o := .cells #[.slice A1_0 l1_0.length c1_0, .int .i64 a1_1, .int .i64 a1_2, .int .i64 a1_3] 61 (0, 0)) (by (with_reducible repeat (first | refine aJ ?_ _ | refine aK ?_ | refine aI ?_ _)); exact BK165.out) hb); have n2_ := aA.mk (aV (by repeat (first | (with_reducible first | exact HB.out | apply aC | apply pw_below_drewN | apply aD | refine aG ?_ GE164.out | refine aG ?_ GE165.out) | exact HB.out)) hb); clear BK164; clear BK165; clear HB; have BK164 := n0_; have BK165 := n1_; have HB := n2_; clear n0_ n1_ n2_; (try clear hb); (try clear hb2); (try clear hk); (try clear hi)))
  go_ret
  exact ⟨by first | rfl | (simp [aN, aQ] <;> rfl) | (simp [*, aN, aQ] <;> rfl), by repeat (first | (with_reducible first | exact HB.out | apply aC | apply pw_below_drewN | apply aD | refine aG ?_ GE164.out | refine aG ?_ GE165.out) | exact HB.out)⟩
 ·rw [if_neg c4] at H
  have c4b0 : (t166 == 0) = false := beq_eq_false_iff_ne.mpr c4
  have c4b1 : (t166 != 0) = true := bne_iff_ne.mpr c4
  obtain rfl := Option.some.inj H
  go_enter Tryz.func80, Tryz.ntmps80
  go_wp2_with (first | ((with_reducible refine bK (N := 2) rfl ?_); refine bG ?hg (N := 2) ?hd (cs := #[.slice A0_0 l0_0.length c0_0, .int .i64 a0_1, .int .i64 a0_2, .int .i64 a0_3]) (t := 61) ?hr ?_; (case hd => rfl); (case hg => rfl); (case hr => first | (go_simp; done) | (go_simp; rfl)); intro gb164 hg w15 hbox hb; have n0_ := aA.mk (aV (by repeat (first | (with_reducible first | exact HB.out | apply aC | apply pw_below_drewN | apply aD) | exact HB.out)) hb); have n1_ := aA.mk (hbox); have n2_ := aA.mk ((by rw [hg]; exact (aM (by repeat (first | (with_reducible first | exact HB.out | apply aC | apply pw_below_drewN | apply aD) | exact HB.out))) : w.heap.size ≤ gb164)); have n3_ := aA.mk ((by rw [hg]; exact (aM (by repeat (first | (with_reducible first | exact HB.out | apply aC | apply pw_below_drewN | apply aD) | exact HB.out))) : w.heap.size ≤ gb164)); clear HB; have HB := n0_; have BK164 := n1_; have GW164 := n2_; have GE164 := n3_; clear n0_ n1_ n2_ n3_; clear hb hbox hg) | ((with_reducible refine bK (N := 3) rfl ?_); refine bG ?hg (N := 3) ?hd (cs := #[.slice A1_0 l1_0.length c1_0, .int .i64 a1_1, .int .i64 a1_2, .int .i64 a1_3]) (t := 61) ?hr ?_; (case hd => rfl); (case hg => rfl); (case hr => first | (go_simp; done) | (go_simp; rfl)); intro gb165 hg w16 hbox hb; have n0_ := aA.mk (bD (g := gb164) (o := .cells #[.slice A0_0 l0_0.length c0_0, .int .i64 a0_1, .int .i64 a0_2, .int .i64 a0_3] 61 (0, 0)) (by (with_reducible repeat (first | refine aJ ?_ _ | refine aK ?_ | refine aI ?_ _)); exact BK164.out) hb); have n1_ := aA.mk (aV (by repeat (first | (with_reducible first | exact HB.out | apply aC | apply pw_below_drewN | apply aD | refine aG ?_ GE164.out) | exact HB.out)) hb); have n2_ := aA.mk (hbox); have n3_ := aA.mk ((by rw [hg]; exact (aM (by repeat (first | (with_reducible first | exact HB.out | apply aC | apply pw_below_drewN | apply aD | refine aG ?_ GE164.out) | exact HB.out))) : w.heap.size ≤ gb165)); have n4_ := aA.mk ((by rw [hg]; exact (aM (by repeat (first | (with_reducible first | exact HB.out | apply aC | apply pw_below_drewN | apply aD | refine aG ?_ GE164.out) | exact HB.out))) : w.heap.size ≤ gb165)); have n5_ := aA.mk ((by rw [hg]; exact Nat.ne_of_lt (blk_lt (g := gb164) (o := .cells #[.slice A0_0 l0_0.length c0_0, .int .i64 a0_1, .int .i64 a0_2, .int .i64 a0_3] 61 (0, 0)) (by (with_reducible repeat (first | refine aJ ?_ _ | refine aK ?_ | refine aI ?_ _)); exact BK164.out)) : gb164 ≠ gb165)); have n6_ := aA.mk ((by rw [hg]; exact Nat.ne_of_gt (blk_lt (g := gb164) (o := .cells #[.slice A0_0 l0_0.length c0_0, .int .i64 a0_1, .int .i64 a0_2, .int .i64 a0_3] 61 (0, 0)) (by (with_reducible repeat (first | refine aJ ?_ _ | refine aK ?_ | refine aI ?_ _)); exact BK164.out)) : gb165 ≠ gb164)); clear BK164; clear HB; have BK164 := n0_; have HB := n1_; have BK165 := n2_; have GW165 := n3_; have GE165 := n4_; have NB164_165 := n5_; have NB165_164 := n6_; clear n0_ n1_ n2_ n3_ n4_ n5_ n6_; clear hb hbox hg; have hnb17 := NB164_165.out; have hnc17 := NB165_164.out; have hcz18_0 : w16.cell? ⟨gb164, 0, none⟩ = some (.slice A0_0 l0_0.length c0_0) := (aE BK164.out 0).trans rfl; have hcz18_1 : w16.cell? ⟨gb164, 1, none⟩ = some (.int .i64 a0_1) := (aE BK164.out 1).trans rfl; have hcz18_2 : w16.cell? ⟨gb164, 2, none⟩ = some (.int .i64 a0_2) := (aE BK164.out 2).trans rfl; have hcz18_3 : w16.cell? ⟨gb164, 3, none⟩ = some (.int .i64 a0_3) := (aE BK164.out 3).trans rfl; have hfz18_0 := blk_frozen BK164.out 0; have hfz18_1 := blk_frozen BK164.out 1; have hfz18_2 := blk_frozen BK164.out 2; have hfz18_3 := blk_frozen BK164.out 3; have hcz19_0 : w16.cell? ⟨gb165, 0, none⟩ = some (.slice A1_0 l1_0.length c1_0) := (aE BK165.out 0).trans rfl; have hcz19_1 : w16.cell? ⟨gb165, 1, none⟩ = some (.int .i64 a1_1) := (aE BK165.out 1).trans rfl; have hcz19_2 : w16.cell? ⟨gb165, 2, none⟩ = some (.int .i64 a1_2) := (aE BK165.out 2).trans rfl; have hcz19_3 : w16.cell? ⟨gb165, 3, none⟩ = some (.int .i64 a1_3) := (aE BK165.out 3).trans rfl; have hfz19_0 := blk_frozen BK165.out 0; have hfz19_1 := blk_frozen BK165.out 1; have hfz19_2 := blk_frozen BK165.out 2; have hfz19_3 := blk_frozen BK165.out 3) | ((with_reducible refine aZ (f := 90) rfl ?_); refine cH (some 10) rfl rfl Tryz.func90 (by kernel_rfl) rfl #[.slice A0_0 l0_0.length c0_0, .slice A1_0 l1_0.length c1_0] rfl (by (try simp only [List.map_toArray, List.map_cons, List.map_nil]); first | done | rfl | (simp only [List.length_drop, List.length_take]; rfl)) ?_; (with_reducible refine (dX.calls _ _ l0_0 _ _ l1_0 t166 _ ?side1 ?side2 ?side3 ?side4 A3.out).mono ?_); (case side1 => repeat (first | exact (Kd.C_below HR0_0.out HB.out) | (with_reducible refine Kd.C_alloc ?_ _) | (with_reducible refine Kd.C_drewN ?_ _) | (with_reducible refine Kd.C_drew ?_))); (case side2 => exact HC0_0.out); (case side3 => repeat (first | exact (Kd.C_below HR1_0.out HB.out) | (with_reducible refine Kd.C_alloc ?_ _) | (with_reducible refine Kd.C_drewN ?_ _) | (with_reducible refine Kd.C_drew ?_))); (case side4 => exact HC1_0.out); rintro e w20 ⟨rfl, hb⟩; refine ⟨_, rfl, ?_⟩; have n0_ := aA.mk (bD (g := gb164) (o := .cells #[.slice A0_0 l0_0.length c0_0, .int .i64 a0_1, .int .i64 a0_2, .int .i64 a0_3] 61 (0, 0)) (by (with_reducible repeat (first | refine aJ ?_ _ | refine aK ?_ | refine aI ?_ _)); exact BK164.out) hb); have n1_ := aA.mk (bD (g := gb165) (o := .cells #[.slice A1_0 l1_0.length c1_0, .int .i64 a1_1, .int .i64 a1_2, .int .i64 a1_3] 61 (0, 0)) (by (with_reducible repeat (first | refine aJ ?_ _ | refine aK ?_ | refine aI ?_ _)); exact BK165.out) hb); have n2_ := aA.mk (aV (by repeat (first | (with_reducible first | exact HB.out | apply aC | apply pw_below_drewN | apply aD | refine aG ?_ GE164.out | refine aG ?_ GE165.out) | exact HB.out)) hb); clear BK164; clear BK165; clear HB; have BK164 := n0_; have BK165 := n1_; have HB := n2_; clear n0_ n1_ n2_; (try clear hb); (try clear hb2); (try clear hk); (try clear hi)))
  go_ret
  exact ⟨by first | rfl | (simp [aN, aQ] <;> rfl) | (simp [*, aN, aQ] <;> rfl), by repeat (first | (with_reducible first | exact HB.out | apply aC | apply pw_below_drewN | apply aD | refine aG ?_ GE164.out | refine aG ?_ GE165.out) | exact HB.out)⟩
end Go.Proofs.YtpflmgbpjhbmnaaGreat.B
end
section
namespace Go.Proofs.YtpflmgbpjhbmnaaGreat.B
open Go.RowKit Go.Proofs.YtpflmgbpjhbmnaaGreatW.PrintWords Go.Proofs.YtpflmgbpjhbmnaaGreatW.PrintLast Go.Proofs.YtpflmgbpjhbmnaaGreatW.PrintMore
attribute [local go_sem] Go.Proofs.YtpflmgbpjhbmnaaGreat.str_gtr bZ cA cJ cK bT bU cB cC   -- for this text's walks alone
set_option linter.unusedVariables false
set_option linter.unusedSimpArgs false
def fC.f (a0 : Int) (a1 : Int) : Option (Int × Int) := if a1 > 0 then (if a0 > (wrap64 (9223372036854775807 - a1)) then (some (0, 60)) else (if a1 < 0 then (if a0 < (wrap64 ((-9223372036854775808) - a1)) then (some (0, 60)) else (some (wrap64 (a0 + a1), 0))) else (some (wrap64 (a0 + a1), 0)))) else (if a1 < 0 then (if a0 < (wrap64 ((-9223372036854775808) - a1)) then (some (0, 60)) else (some (wrap64 (a0 + a1), 0))) else (some (wrap64 (a0 + a1), 0)))
set_option maxHeartbeats 8000000 in
set_option maxRecDepth 100000 in
theorem fC.calls (a0 : Int) (a1 : Int) (r1 : Int) (r2 : Int) (w : World) (h : fC.f a0 a1 = some (r1, r2)) :
  Calls Tryz.prog 81 #[.int .i64 a0, .int .i64 a1] w fun e w' => e = .returned (.tuple #[.int .i64 r1, .int .i64 r2]) ∧ bQ w w' := by
 have H : (if a1 > 0 then (if a0 > (wrap64 (9223372036854775807 - a1)) then (some (0, 60)) else (if a1 < 0 then (if a0 < (wrap64 ((-9223372036854775808) - a1)) then (some (0, 60)) else (some (wrap64 (a0 + a1), 0))) else (some (wrap64 (a0 + a1), 0)))) else (if a1 < 0 then (if a0 < (wrap64 ((-9223372036854775808) - a1)) then (some (0, 60)) else (some (wrap64 (a0 + a1), 0))) else (some (wrap64 (a0 + a1), 0)))) = some (r1, r2) := h
 clear h
 by_cases c3 : a1 > 0
 ·rw [if_pos c3] at H
  have c3b0 : decide (0 < a1) = true := decide_eq_true c3
  clear c3
  by_cases c4 : a0 > (wrap64 (9223372036854775807 - a1))
  ·rw [if_pos c4] at H
   have c4b0 : decide ((wrap64 (9223372036854775807 - a1)) < a0) = true := decide_eq_true c4
   clear c4
   simp only [Option.some.injEq, Prod.mk.injEq] at H
   obtain ⟨rfl, rfl⟩ := H
   go_enter Tryz.func81, Tryz.ntmps81
   go_wp2
   go_ret2
   exact ⟨by first | rfl | (simp; done) | (simp [*]; done), by repeat (first | exact bQ.refl _ | apply bQ.step)⟩
  ·rw [if_neg c4] at H
   have c4b0 : decide ((wrap64 (9223372036854775807 - a1)) < a0) = false := decide_eq_false c4
   clear c4
   by_cases c5 : a1 < 0
   ·rw [if_pos c5] at H
    have c5b0 : decide (a1 < 0) = true := decide_eq_true c5
    clear c5
    by_cases c6 : a0 < (wrap64 ((-9223372036854775808) - a1))
    ·rw [if_pos c6] at H
     have c6b0 : decide (a0 < (wrap64 ((-9223372036854775808) - a1))) = true := decide_eq_true c6
     clear c6
     simp only [Option.some.injEq, Prod.mk.injEq] at H
     obtain ⟨rfl, rfl⟩ := H
     go_enter Tryz.func81, Tryz.ntmps81
     go_wp2
     go_ret2
     exact ⟨by first | rfl | (simp; done) | (simp [*]; done), by repeat (first | exact bQ.refl _ | apply bQ.step)⟩
    ·rw [if_neg c6] at H
     have c6b0 : decide (a0 < (wrap64 ((-9223372036854775808) - a1))) = false := decide_eq_false c6
     clear c6
     simp only [Option.some.injEq, Prod.mk.injEq] at H
     obtain ⟨rfl, rfl⟩ := H
     go_enter Tryz.func81, Tryz.ntmps81
     go_wp2
     go_ret2
     exact ⟨by first | rfl | (simp; done) | (simp [*]; done), by repeat (first | exact bQ.refl _ | apply bQ.step)⟩
   ·rw [if_neg c5] at H
    have c5b0 : decide (a1 < 0) = false := decide_eq_false c5
    clear c5
    simp only [Option.some.injEq, Prod.mk.injEq] at H
    obtain ⟨rfl, rfl⟩ := H
    go_enter Tryz.func81, Tryz.ntmps81
    go_wp2
    go_ret2
    exact ⟨by first | rfl | (simp; done) | (simp [*]; done), by repeat (first | exact bQ.refl _ | apply bQ.step)⟩
 ·rw [if_neg c3] at H
  have c3b0 : decide (0 < a1) = false := decide_eq_false c3
  clear c3
  by_cases c7 : a1 < 0
  ·rw [if_pos c7] at H
   have c7b0 : decide (a1 < 0) = true := decide_eq_true c7
   clear c7
   by_cases c8 : a0 < (wrap64 ((-9223372036854775808) - a1))
   ·rw [if_pos c8] at H
    have c8b0 : decide (a0 < (wrap64 ((-9223372036854775808) - a1))) = true := decide_eq_true c8
    clear c8
    simp only [Option.some.injEq, Prod.mk.injEq] at H
    obtain ⟨rfl, rfl⟩ := H
    go_enter Tryz.func81, Tryz.ntmps81
    go_wp2
    go_ret2
    exact ⟨by first | rfl | (simp; done) | (simp [*]; done), by repeat (first | exact bQ.refl _ | apply bQ.step)⟩
   ·rw [if_neg c8] at H
    have c8b0 : decide (a0 < (wrap64 ((-9223372036854775808) - a1))) = false := decide_eq_false c8
    clear c8
    simp only [Option.some.injEq, Prod.mk.injEq] at H
    obtain ⟨rfl, rfl⟩ := H
    go_enter Tryz.func81, Tryz.ntmps81
    go_wp2
    go_ret2
    exact ⟨by first | rfl | (simp; done) | (simp [*]; done), by repeat (first | exact bQ.refl _ | apply bQ.step)⟩
  ·rw [if_neg c7] at H
   have c7b0 : decide (a1 < 0) = false := decide_eq_false c7
   clear c7
   simp only [Option.some.injEq, Prod.mk.injEq] at H
   obtain ⟨rfl, rfl⟩ := H
   go_enter Tryz.func81, Tryz.ntmps81
   go_wp2
   go_ret2
   exact ⟨by first | rfl | (simp; done) | (simp [*]; done), by repeat (first | exact bQ.refl _ | apply bQ.step)⟩
end Go.Proofs.YtpflmgbpjhbmnaaGreat.B
end
section
namespace Go.Proofs.YtpflmgbpjhbmnaaGreat.B
open Go.RowKit Go.Proofs.YtpflmgbpjhbmnaaGreatW.PrintWords Go.Proofs.YtpflmgbpjhbmnaaGreatW.PrintLast Go.Proofs.YtpflmgbpjhbmnaaGreatW.PrintMore
attribute [local go_sem] Go.Proofs.YtpflmgbpjhbmnaaGreat.str_gtr bZ cA cJ cK bT bU cB cC   -- for this text's walks alone
set_option linter.unusedVariables false
set_option linter.unusedSimpArgs false
def cS.j0 : Nat → List (S85) → Int → Bool → Option ((List (S85)) × (List (S85)) × Int)
 | 0, _, _, _ => none
 | k + 1, x0, x1, x14 => if x14 = true then (some (([] : List (S85)), ([] : List (S85)), 9)) else (if 0 ≤ x1 then (if x1 ≤ (x0.length : Int) then ((bP.f (x0.take (x1 : Int).toNat)).bind fun t172 => ((bP.f (x0.drop (x1 : Int).toNat)).bind fun t179 => (some (t172, t179, 0)))) else (none)) else (none))
def cS.f (k : Nat) (l0 : List (S85)) (a1 : Int) : Option ((List (S85)) × (List (S85)) × Int) := if a1 < 0 then (cS.j0 k l0 a1 true) else (cS.j0 k l0 a1 (decide (a1 > (l0.length : Int))))
theorem cS.mono_l : ∀ k, (∀ y0 y1 y2, LeO (cS.j0 k y0 y1 y2) (cS.j0 (k + 1) y0 y1 y2))
 | 0 => fun _ _ _ r h => by simp [cS.j0] at h
 | k + 1 => by
  have ih0 := cS.mono_l k
  ·intro y0 y1 y2
   unfold cS.j0
   repeat' first
   | (with_reducible exact ih0 _ _ _)
   | (with_reducible exact LeO.refl _)
   | (with_reducible exact LeO.none _)
   | (with_reducible refine LeO.ite ?_ ?_)
   | (with_reducible refine LeO.bind ?_ (fun _ => ?_))
   | exact ih0 _ _ _
   | exact LeO.none _
   | refine LeO.ite ?_ ?_
   | refine LeO.bind ?_ (fun _ => ?_)
theorem cS.mono : ∀ a0 a1 k, LeO (cS.f k a0 a1) (cS.f (k + 1) a0 a1) := by
 intro a0 a1 k
 have ih0 := cS.mono_l k
 unfold cS.f
 repeat' first
   | (with_reducible exact ih0 _ _ _)
   | (with_reducible exact LeO.refl _)
   | (with_reducible exact LeO.none _)
   | (with_reducible refine LeO.ite ?_ ?_)
   | (with_reducible refine LeO.bind ?_ (fun _ => ?_))
   | exact ih0 _ _ _
   | exact LeO.none _
   | refine LeO.ite ?_ ?_
   | refine LeO.bind ?_ (fun _ => ?_)
def cS.T3 : Bool × List (List Nat × List Nat) := (true, [([], []), ([], []), ([0, 1], [0, 1]), ([2], [2]), ([], []), ([], []), ([4, 5], [4, 5]), ([6, 3], [6]), ([3, 7, 0, 1, 2, 3], [3]), ([7, 8, 0, 1, 2, 3, 4, 5, 6, 7, 8], [7]), ([9, 0, 1, 2, 3, 4, 5, 6, 7, 8, 9], [])])
def cS.B3 : List Nat := [0, 0, 3, 7, 0, 0, 48, 127, 255, 511, 1023]
theorem cS.tab3 : rtab .any (wJ Tryz.f82 3) = cS.T3 := by kernel_rfl
theorem cS.bits3 : gV cS.T3.2 cS.B3 = true := by kernel_rfl
set_option maxHeartbeats 8000000 in
set_option maxRecDepth 100000 in
theorem cS.calls (k : Nat) (A0 : Option Addr) (c0 : Nat) (l0 : List (S85)) (a1 : Int) (r1 : List (S85)) (r2 : List (S85)) (r3 : Int) (w : World) (hr0 : Kd.C k85 w A0 l0.length l0) (hc0 : l0.length ≤ c0) (h : cS.f k l0 a1 = some (r1, r2, r3)) :
  Calls Tryz.prog 82 #[.slice A0 l0.length c0, .int .i64 a1] w fun e w' => ∃ v0_ v1_ : Value, e = .returned (.tuple #[v0_, v1_, .int .i64 r3]) ∧ Kd.R k85 85 w' w.heap.size (fun k_ => some k_ ≠ (v1_ : Value).ownBlock) v0_ r1 ∧ Kd.R k85 85 w' w.heap.size (fun k_ => some k_ ≠ (v0_ : Value).ownBlock) v1_ r2 ∧ Below w.heap.size w w' := by
 have HR0 := aA.mk hr0
 have HC0 := aA.mk hc0
 clear hr0 hc0
 have HB := aA.mk (Below.refl w.heap.size w)
 have H : (if a1 < 0 then (cS.j0 k l0 a1 true) else (cS.j0 k l0 a1 (decide (a1 > (l0.length : Int))))) = some (r1, r2, r3) := h
 clear h
 have HC3 := aA.mk H
 clear H
 go_enter Tryz.func82, Tryz.ntmps82
 go_upto_region 1 with (fail)
 go_cut [14] (fun v14 wc => ∃ (kq : Nat) (x14_2 : Bool), v14 = .bool x14_2 ∧ aA (cS.j0 kq l0 a1 x14_2 = some (r1, r2, r3)) ∧ aA (kq ≤ k) ∧ aA (Below w.heap.size w wc))
 case first =>
  have H := HC3.out
  clear HC3
  by_cases c4 : a1 < 0
  ·rw [if_pos c4] at H
   have c4b0 : decide (a1 < 0) = true := decide_eq_true c4
   clear c4
   (first | rw [c4b0] | (simp only [cN, cO]; rw [c4b0]) | skip)
   have H' := aA.mk H
   clear H
   go_wp2
   go_meet
   case rel => exact ⟨_, (true), (by first | rfl | (simp; done) | (simp [*]; done)), H', ⟨by first | omega | exact Nat.le_refl _⟩, ⟨by repeat (first | (with_reducible first | exact HB.out | apply aC | apply pw_below_drewN | apply aD) | exact HB.out)⟩⟩
  ·rw [if_neg c4] at H
   have c4b0 : decide (a1 < 0) = false := decide_eq_false c4
   clear c4
   (first | rw [c4b0] | (simp only [cN, cO]; rw [c4b0]) | skip)
   have H' := aA.mk H
   clear H
   go_wp2
   go_meet
   case rel => exact ⟨_, (decide (a1 > (l0.length : Int))), (by first | rfl | (simp; done) | (simp [*]; done)), H', ⟨by first | omega | exact Nat.le_refl _⟩, ⟨by repeat (first | (with_reducible first | exact HB.out | apply aC | apply pw_below_drewN | apply aD) | exact HB.out)⟩⟩
 case rest =>
  clear HC3
  try clear p2
  try clear c4
  try clear c4b0
  obtain ⟨kq, x14_2, rfl, HA, HJ2, HB⟩ := hcut
  cases kq with
  | zero => exact absurd HA.out (by simp [cS.j0])
  | succ kj2 =>
   have H := HA.out
   clear HA
   simp only [cS.j0] at H
   by_cases c5 : x14_2 = true
   ·subst c5
    have H1 : (some (([] : List (S85)), ([] : List (S85)), 9)) = some (r1, r2, r3) := by rw [if_pos rfl] at H; exact H
    clear H
    have H := H1
    clear H1
    simp only [Option.some.injEq, Prod.mk.injEq] at H
    obtain ⟨rfl, rfl, rfl⟩ := H
    go_wp2
    go_ret3
    exact ⟨_, _, by first | rfl | (simp [aN, aQ] <;> rfl) | (simp [*, aN, aQ] <;> rfl), by first | exact Kd.R_nil _ _ _ _ _ | exact Kd.N_nil _ _ _ _ _ | exact Kd.V_nil _ _ _ _ _ | exact Kd.Q_nil _ _ _ _ _ | exact Kd.S_nil _ _ _ _ _, by first | exact Kd.R_nil _ _ _ _ _ | exact Kd.N_nil _ _ _ _ _ | exact Kd.V_nil _ _ _ _ _ | exact Kd.Q_nil _ _ _ _ _ | exact Kd.S_nil _ _ _ _ _, by repeat (first | (with_reducible first | exact HB.out | apply aC | apply pw_below_drewN | apply aD) | exact HB.out)⟩
   ·replace c5 := Bool.eq_false_iff.mpr c5
    subst c5
    have H1 : (if 0 ≤ a1 then (if a1 ≤ (l0.length : Int) then ((bP.f (l0.take (a1 : Int).toNat)).bind fun t172 => ((bP.f (l0.drop (a1 : Int).toNat)).bind fun t179 => (some (t172, t179, 0)))) else (none)) else (none)) = some (r1, r2, r3) := by rw [if_neg (show ¬ (false = true) by decide)] at H; exact H
    clear H
    have H := H1
    clear H1
    by_cases c6 : 0 ≤ a1
    ·rw [if_pos c6] at H
     have c6b0 := eq_true c6
     have c6b1 : decide (0 ≤ a1) = true := decide_eq_true c6
     clear c6
     by_cases c7 : a1 ≤ (l0.length : Int)
     ·rw [if_pos c7] at H
      have c7b0 := eq_true c7
      have c7b1 : decide (a1 ≤ (l0.length : Int)) = true := decide_eq_true c7
      clear c7
      obtain ⟨y168, hy168⟩ : ∃ y_ : List (S85), y_ = (l0.take (a1 : Int).toNat) := ⟨_, rfl⟩
      replace H : ((bP.f y168).bind fun t172 => ((bP.f (l0.drop (a1 : Int).toNat)).bind fun t179 => (some (t172, t179, 0)))) = some (r1, r2, r3) := by first | (rw [hy168]; with_reducible exact H) | (have H2_ := (Option.bind_some _ _).symm.trans H; rw [hy168]; with_reducible exact H2_) | (have H2_ := (Option.bind_some _ _).symm.trans H; with_reducible exact H2_) | with_reducible exact H | (rw [hy168]; exact H) | exact H
      have Ny168 := aA.mk hy168
      clear hy168
      replace H := Option.bind_eq_some_iff.mp H
      obtain ⟨t172, A80, H⟩ := H
      replace H : ((bP.f (l0.drop (a1 : Int).toNat)).bind fun t179 => (some (t172, t179, 0))) = some (r1, r2, r3) := H
      have A8 := aA.mk A80
      clear A80
      have c9b0 := eq_true (of_decide_eq_true (by first | (with_reducible assumption) | assumption) : 0 ≤ a1)
      have c10b0 := eq_true (of_decide_eq_true (by first | (with_reducible assumption) | assumption) : a1 ≤ (l0.length : Int))
      obtain ⟨y175, hy175⟩ : ∃ y_ : List (S85), y_ = (l0.drop (a1 : Int).toNat) := ⟨_, rfl⟩
      replace H : ((bP.f y175).bind fun t179 => (some (t172, t179, 0))) = some (r1, r2, r3) := by first | (rw [hy175]; with_reducible exact H) | (have H2_ := (Option.bind_some _ _).symm.trans H; rw [hy175]; with_reducible exact H2_) | (have H2_ := (Option.bind_some _ _).symm.trans H; with_reducible exact H2_) | with_reducible exact H | (rw [hy175]; exact H) | exact H
      have Ny175 := aA.mk hy175
      clear hy175
      replace H := Option.bind_eq_some_iff.mp H
      obtain ⟨t179, A110, H⟩ := H
      replace H : (some (t172, t179, 0)) = some (r1, r2, r3) := H
      have A11 := aA.mk A110
      clear A110
      simp only [Option.some.injEq, Prod.mk.injEq] at H
      obtain ⟨rfl, rfl, rfl⟩ := H
      try go_wp2
      have n0_ := aA.mk (aD HB.out)
      clear HB
      have HB := n0_
      clear n0_
      have q13 : (a1 : Int) ≤ ((l0.length : Int) : Int) := of_decide_eq_true (by first | (with_reducible assumption) | assumption)
      obtain ⟨i013, hi013, _, hsz13, _⟩ := info_parts gQ
      have hroom13 : l0.length ≤ c0 := HC0.out
      have hC13 : Kd.C k85 _ A0 l0.length l0 := HR0.out
      have hcut13 := kO (P := Tryz.prog) 45 85 .i64 Tryz.underlying45 hi013 A0 l0.length c0 a1 (of_decide_eq_true (by first | (with_reducible assumption) | assumption)) q13 hroom13
      have hr13 := Kd.C_take (m := (a1 : Int).toNat) hC13 (by omega)
      have hy13 : y168.length = (a1 : Int).toNat := (by rw [Ny168.out, List.length_take]; omega)
      rw [← Ny168.out] at hr13
      rw [← hy13] at hcut13
      have HR171 := aA.mk hr13
      have HC171 := aA.mk (show y168.length ≤ c0 from by omega)
      clear hr13 hC13 hroom13 hi013 hsz13
      have KY13 := aA.mk hy13
      clear hy13
      replace q13 := eq_true q13
      have q14 : (a1 : Int) ≤ ((l0.length : Int) : Int) := of_decide_eq_true (by first | (with_reducible assumption) | assumption)
      obtain ⟨i014, hi014, _, hsz14, _⟩ := info_parts gQ
      have hroom14 : l0.length ≤ c0 := HC0.out
      have hC14 : Kd.C k85 _ A0 l0.length l0 := HR0.out
      have q014 : (0 : Int) ≤ (a1 : Int) := of_decide_eq_true (by first | (with_reducible assumption) | assumption)
      have hcut14 := iD (P := Tryz.prog) 45 85 .i64 Tryz.underlying45 hi014 3 hsz14 A0 l0.length c0 a1 q014 q14
      have hr14 := Kd.C_drop (m := (a1 : Int).toNat) (c := c0) hC14 (by omega) hroom14
      obtain ⟨A14, hA14⟩ : ∃ A1, A1 = (if c0 = (a1 : Int).toNat then A0 else (A0 : Option Addr).map (·.add ((a1 : Int).toNat * 3))) := ⟨_, rfl⟩
      obtain ⟨c14, hc14⟩ : ∃ c1, c1 = c0 - (a1 : Int).toNat := ⟨_, rfl⟩
      have hy14 : y175.length = l0.length - (a1 : Int).toNat := (by rw [Ny175.out, List.length_drop] <;> omega)
      rw [show (l0).drop (a1 : Int).toNat = y175 from Ny175.out.symm] at hr14
      replace hr14 : Kd.C k85 _ A14 y175.length y175 := (by rw [hA14]; exact hr14)
      rw [← hy14, ← hA14, ← hc14] at hcut14
      have HR178 := aA.mk hr14
      have HC178 := aA.mk (show y175.length ≤ c14 from by rw [hy14, hc14]; exact Nat.sub_le_sub_right hroom14 _)
      clear hr14 hC14 hroom14 hi014 hsz14 hc14
      have KY14 := aA.mk hy14
      have KA14 := aA.mk hA14
      clear hy14 hA14
      replace q14 := eq_true q14
      refine jX (n := 11) (S := fun w' => True) (ds := []) #[false, false, false, false, false, false, false, false, false, false, false] (by kernel_rfl) rfl rfl trivial (fun hHeld => ?_); refine fY cS.tab3 cS.bits3 (fun HT_ HW_ => ?_)
      generalize wc.drew = w12 at HB HR171 HR178 hHeld ⊢
      refine dJ (i := 0) (N := some 15) (v := ?_) (a' := ?_) #[true, false, false, false, false, false, false, false, false, false, false] rfl rfl (cV HT_.out (by kernel_rfl)) (fun _ _ _ h => h) (Or.inl ⟨by rfl, ?_⟩) ?_ ?_
      rotate_left
      ·intro w'
       go_simp
       with_reducible rfl
      rotate_left
      ·simp only [Act.put, List.setIfInBounds_toArray, List.set_cons_zero, List.set_cons_succ, cN, cO]
       rfl
      refine dJ (i := 1) (N := some 16) (v := ?_) (a' := ?_) #[true, true, false, false, false, false, false, false, false, false, false] rfl rfl (cV HT_.out (by kernel_rfl)) (fun _ _ _ h => h) (Or.inl ⟨by rfl, ?_⟩) ?_ ?_
      rotate_left
      ·intro w'
       go_simp
       with_reducible rfl
      rotate_left
      ·simp only [Act.put, List.setIfInBounds_toArray, List.set_cons_zero, List.set_cons_succ, cN, cO]
       rfl
      refine dJ (i := 2) (N := some 17) (v := ?_) (a' := ?_) #[true, true, true, false, false, false, false, false, false, false, false] rfl rfl (cV HT_.out (by kernel_rfl)) (fun _ _ _ h => h) (Or.inl ⟨by rfl, ?_⟩) ?_ ?_
      rotate_left
      ·intro w'
       go_simp
       with_reducible rfl
      rotate_left
      ·simp only [Act.put, List.setIfInBounds_toArray, List.set_cons_zero, List.set_cons_succ, cN, cO]
       rfl
      refine dJ (i := 4) (N := some 19) (v := ?_) (a' := ?_) #[true, true, true, false, true, false, false, false, false, false, false] rfl rfl (cV HT_.out (by kernel_rfl)) (fun _ _ _ h => h) (Or.inl ⟨by rfl, ?_⟩) ?_ ?_
      rotate_left
      ·intro w'
       go_simp
       with_reducible rfl
      rotate_left
      ·simp only [Act.put, List.setIfInBounds_toArray, List.set_cons_zero, List.set_cons_succ, cN, cO]
       rfl
      refine dJ (i := 5) (N := some 20) (v := ?_) (a' := ?_) #[true, true, true, false, true, true, false, false, false, false, false] rfl rfl (cV HT_.out (by kernel_rfl)) (fun _ _ _ h => h) (Or.inl ⟨by rfl, ?_⟩) ?_ ?_
      rotate_left
      ·intro w'
       go_simp
       with_reducible rfl
      rotate_left
      ·simp only [Act.put, List.setIfInBounds_toArray, List.set_cons_zero, List.set_cons_succ, cN, cO]
       rfl
      refine dJ (i := 6) (N := some 21) (v := ?_) (a' := ?_) #[true, true, true, false, true, true, true, false, false, false, false] rfl rfl (cV HT_.out (by kernel_rfl)) (fun _ _ _ h => h) (Or.inl ⟨by rfl, ?_⟩) ?_ ?_
      rotate_left
      ·intro w'
       go_simp
       with_reducible rfl
      rotate_left
      ·simp only [Act.put, List.setIfInBounds_toArray, List.set_cons_zero, List.set_cons_succ, cN, cO]
       rfl
      refine pL (i := 3) (N := some 18) #[true, true, true, true, true, true, true, false, false, false, false] rfl rfl (iI HT_.out (by kernel_rfl)) (by decide) (fun K hK => ?_)
      refine kB Tryz.func68 (by kernel_rfl) rfl #[.slice A0 y168.length c0] (by rfl) rfl rfl (by (try simp only [List.map_toArray, List.map_cons, List.map_nil]); first | done | rfl | (simp only [List.length_drop, List.length_take]; rfl)) ?_
      with_reducible refine (bP.calls _ _ y168 t172 _ ?side1 ?side2 A8.out).mono ?_
      (case side1 => repeat (first | exact (Kd.C_below HR171.out HB.out) | (with_reducible refine Kd.C_alloc ?_ _) | (with_reducible refine Kd.C_drewN ?_ _) | (with_reducible refine Kd.C_drew ?_)))
      (case side2 => exact HC171.out)
      rintro e w15 ⟨v173, rfl, ho0, hb⟩
      refine ⟨_, rfl, ?_⟩
      have n0_ := aA.mk (Kd.R_lower ho0 (aM (by repeat (first | (with_reducible first | exact HB.out | apply aC | apply pw_below_drewN | apply aD) | exact HB.out))))
      have n1_ := aA.mk (aV (by repeat (first | (with_reducible first | exact HB.out | apply aC | apply pw_below_drewN | apply aD) | exact HB.out)) hb)
      clear HB
      have HO174 := n0_
      have HB := n1_
      clear n0_ n1_
      (try clear hb)
      (try clear hb2)
      (try clear hk)
      (try clear hi)
      (try clear ho0)
      refine hK.out _ _ trivial (fun hHeld => ?_)
      clear hK K
      refine gG (a' := ?_) ?_ ?_
      rotate_left
      ·show Act.put _ (some 18) _ = _
       simp only [Act.put, List.setIfInBounds_toArray, List.set_cons_zero, List.set_cons_succ, cN, cO]
       rfl
      refine pL (i := 7) (N := some 22) #[true, true, true, true, true, true, true, true, false, false, false] rfl rfl (iI HT_.out (by kernel_rfl)) (by decide) (fun K hK => ?_)
      refine kB Tryz.func68 (by kernel_rfl) rfl #[.slice A14 y175.length c14] (by rfl) rfl rfl (by (try simp only [List.map_toArray, List.map_cons, List.map_nil]); first | done | rfl | (simp only [List.length_drop, List.length_take]; rfl)) ?_
      with_reducible refine (bP.calls _ _ y175 t179 _ ?side1 ?side2 A11.out).mono ?_
      (case side1 => repeat (first | exact (Kd.C_below HR178.out HB.out) | (with_reducible refine Kd.C_alloc ?_ _) | (with_reducible refine Kd.C_drewN ?_ _) | (with_reducible refine Kd.C_drew ?_)))
      (case side2 => exact HC178.out)
      rintro e w16 ⟨v180, rfl, ho0, hb⟩
      refine ⟨_, rfl, ?_⟩
      have n0_ := aA.mk (Kd.R_elder' (by (with_reducible repeat (first | apply Kd.R_alloc | apply Kd.R_drewN | apply Kd.R_drew)); exact HO174.out) (Kd.R_base ho0) hb)
      have n1_ := aA.mk (Kd.R_lower (Kd.R_new' ho0 (Kd.R_lt (by (with_reducible repeat (first | apply Kd.R_alloc | apply Kd.R_drewN | apply Kd.R_drew)); exact HO174.out))) (aM (by repeat (first | (with_reducible first | exact HB.out | apply aC | apply pw_below_drewN | apply aD) | exact HB.out))))
      have n2_ := aA.mk (aV (by repeat (first | (with_reducible first | exact HB.out | apply aC | apply pw_below_drewN | apply aD) | exact HB.out)) hb)
      clear HO174
      clear HB
      have HO174 := n0_
      have HO181 := n1_
      have HB := n2_
      clear n0_ n1_ n2_
      (try clear hb)
      (try clear hb2)
      (try clear hk)
      (try clear hi)
      (try clear ho0)
      refine hK.out _ _ trivial (fun hHeld => ?_)
      clear hK K
      refine gG (a' := ?_) ?_ ?_
      rotate_left
      ·show Act.put _ (some 22) _ = _
       simp only [Act.put, List.setIfInBounds_toArray, List.set_cons_zero, List.set_cons_succ, cN, cO]
       rfl
      refine dJ (i := 8) (N := some 4) (v := ?_) (a' := ?_) #[true, true, true, true, true, true, true, true, true, false, false] rfl rfl (cV HT_.out (by kernel_rfl)) (fun _ _ _ h => h) (Or.inl ⟨by rfl, ?_⟩) ?_ ?_
      rotate_left
      ·intro w'
       go_simp
       with_reducible rfl
      rotate_left
      ·simp only [Act.put, List.setIfInBounds_toArray, List.set_cons_zero, List.set_cons_succ, cN, cO]
       rfl
      refine dJ (i := 9) (N := some 5) (v := ?_) (a' := ?_) #[true, true, true, true, true, true, true, true, true, true, false] rfl rfl (cV HT_.out (by kernel_rfl)) (fun _ _ _ h => h) (Or.inl ⟨by rfl, ?_⟩) ?_ ?_
      rotate_left
      ·intro w'
       go_simp
       with_reducible rfl
      rotate_left
      ·simp only [Act.put, List.setIfInBounds_toArray, List.set_cons_zero, List.set_cons_succ, cN, cO]
       rfl
      refine dJ (i := 10) (N := some 6) (v := ?_) (a' := ?_) #[true, true, true, true, true, true, true, true, true, true, true] rfl rfl (cV HT_.out (by kernel_rfl)) (fun _ _ _ h => h) (Or.inl ⟨by rfl, ?_⟩) ?_ ?_
      rotate_left
      ·intro w'
       go_simp
       with_reducible rfl
      rotate_left
      ·simp only [Act.put, List.setIfInBounds_toArray, List.set_cons_zero, List.set_cons_succ, cN, cO]
       rfl
      refine oA (jJ HT_.out (by kernel_rfl)) ?_
      try go_wp2
      go_ret3
      exact ⟨_, _, by first | rfl | (simp [aN, aQ] <;> rfl) | (simp [*, aN, aQ] <;> rfl), by (with_reducible repeat (first | apply Kd.R_alloc | apply Kd.R_drewN | apply Kd.R_drew)); exact Kd.R_mono HO174.out (fun _ hk => hk.2), by (with_reducible repeat (first | apply Kd.R_alloc | apply Kd.R_drewN | apply Kd.R_drew)); exact Kd.R_mono HO181.out (fun _ hk => hk.2), by repeat (first | (with_reducible first | exact HB.out | apply aC | apply pw_below_drewN | apply aD) | exact HB.out)⟩
     ·rw [if_neg c7] at H
      exact absurd H (by simp)
    ·rw [if_neg c6] at H
     exact absurd H (by simp)
end Go.Proofs.YtpflmgbpjhbmnaaGreat.B
end
section
namespace Go.Proofs.YtpflmgbpjhbmnaaGreat.B
open Go.RowKit Go.Proofs.YtpflmgbpjhbmnaaGreatW.PrintWords Go.Proofs.YtpflmgbpjhbmnaaGreatW.PrintLast Go.Proofs.YtpflmgbpjhbmnaaGreatW.PrintMore
attribute [local go_sem] Go.Proofs.YtpflmgbpjhbmnaaGreat.str_gtr bZ cA cJ cK bT bU cB cC   -- for this text's walks alone
set_option linter.unusedVariables false
set_option linter.unusedSimpArgs false
def kH.f (l0 : List (S85)) (l1 : List (S85)) : Option (Bool) := (dX.f l0 l1).bind fun t182 => (some (t182 == 0))
set_option maxHeartbeats 8000000 in
set_option maxRecDepth 100000 in
theorem kH.calls (A0 : Option Addr) (c0 : Nat) (l0 : List (S85)) (A1 : Option Addr) (c1 : Nat) (l1 : List (S85)) (r : Bool) (w : World) (hr0 : Kd.C k85 w A0 l0.length l0) (hc0 : l0.length ≤ c0) (hr1 : Kd.C k85 w A1 l1.length l1) (hc1 : l1.length ≤ c1) (h : kH.f l0 l1 = some r) :
  Calls Tryz.prog 83 #[.slice A0 l0.length c0, .slice A1 l1.length c1] w fun e w' => e = .returned (.bool r) ∧ Below w.heap.size w w' := by
 have HR0 := aA.mk hr0
 have HC0 := aA.mk hc0
 clear hr0 hc0
 have HR1 := aA.mk hr1
 have HC1 := aA.mk hc1
 clear hr1 hc1
 have HB := aA.mk (Below.refl w.heap.size w)
 have H : ((dX.f l0 l1).bind fun t182 => (some (t182 == 0))) = some r := h
 clear h
 replace H := Option.bind_eq_some_iff.mp H
 obtain ⟨t182, A30, H⟩ := H
 replace H : (some (t182 == 0)) = some r := H
 have A3 := aA.mk A30
 clear A30
 obtain rfl := Option.some.inj H
 go_enter Tryz.func83, Tryz.ntmps83
 go_wp2_with (first | ((with_reducible refine aZ (f := 90) rfl ?_); refine cH (some 7) rfl rfl Tryz.func90 (by kernel_rfl) rfl #[.slice A0 l0.length c0, .slice A1 l1.length c1] rfl (by (try simp only [List.map_toArray, List.map_cons, List.map_nil]); first | done | rfl | (simp only [List.length_drop, List.length_take]; rfl)) ?_; (with_reducible refine (dX.calls _ _ l0 _ _ l1 t182 _ ?side1 ?side2 ?side3 ?side4 A3.out).mono ?_); (case side1 => repeat (first | exact HR0.out | (with_reducible refine Kd.C_alloc ?_ _) | (with_reducible refine Kd.C_drewN ?_ _) | (with_reducible refine Kd.C_drew ?_))); (case side2 => exact HC0.out); (case side3 => repeat (first | exact HR1.out | (with_reducible refine Kd.C_alloc ?_ _) | (with_reducible refine Kd.C_drewN ?_ _) | (with_reducible refine Kd.C_drew ?_))); (case side4 => exact HC1.out); rintro e w4 ⟨rfl, hb⟩; refine ⟨_, rfl, ?_⟩; have n0_ := aA.mk (aV (by repeat (first | (with_reducible first | exact HB.out | apply aC | apply pw_below_drewN | apply aD) | exact HB.out)) hb); clear HB; have HB := n0_; clear n0_; (try clear hb); (try clear hb2); (try clear hk); (try clear hi)))
 go_ret
 exact ⟨by first | rfl | (simp [aN, aQ] <;> rfl) | (simp [*, aN, aQ] <;> rfl), by repeat (first | (with_reducible first | exact HB.out | apply aC | apply pw_below_drewN | apply aD) | exact HB.out)⟩
end Go.Proofs.YtpflmgbpjhbmnaaGreat.B
end
section
namespace Go.Proofs.YtpflmgbpjhbmnaaGreat.B
open Go.RowKit Go.Proofs.YtpflmgbpjhbmnaaGreatW.PrintWords Go.Proofs.YtpflmgbpjhbmnaaGreatW.PrintLast Go.Proofs.YtpflmgbpjhbmnaaGreatW.PrintMore
attribute [local go_sem] Go.Proofs.YtpflmgbpjhbmnaaGreat.str_gtr bZ cA cJ cK bT bU cB cC   -- for this text's walks alone
set_option linter.unusedVariables false
set_option linter.unusedSimpArgs false
def eZ.f (l0 : List Int) (a1 : Int) : Option (Int × Int) := if a1 > 0 then (if 0 ≤ (wrap64 (a1 - 1)) then (if (wrap64 (a1 - 1)) < (l0.length : Int) then (if 0 ≤ a1 then (if a1 < (l0.length : Int) then (some (rd l0 (wrap64 (a1 - 1)), rd l0 a1)) else (none)) else (none)) else (none)) else (none)) else (if 0 ≤ a1 then (if a1 < (l0.length : Int) then (some (0, rd l0 a1)) else (none)) else (none))
set_option maxHeartbeats 8000000 in
set_option maxRecDepth 100000 in
theorem eZ.calls (A0 : Option Addr) (c0 : Nat) (l0 : List Int) (a1 : Int) (r1 : Int) (r2 : Int) (w : World) (hr0 : Kd.C (Kd.int .i64) w A0 l0.length l0) (hc0 : l0.length ≤ c0) (h : eZ.f l0 a1 = some (r1, r2)) :
  Calls Tryz.prog 64 #[.slice A0 l0.length c0, .int .i64 a1] w fun e w' => e = .returned (.tuple #[.int .i64 r1, .int .i64 r2]) ∧ bQ w w' := by
 have HR0 := aA.mk hr0
 have HC0 := aA.mk hc0
 clear hr0 hc0
 have H : (if a1 > 0 then (if 0 ≤ (wrap64 (a1 - 1)) then (if (wrap64 (a1 - 1)) < (l0.length : Int) then (if 0 ≤ a1 then (if a1 < (l0.length : Int) then (some (rd l0 (wrap64 (a1 - 1)), rd l0 a1)) else (none)) else (none)) else (none)) else (none)) else (if 0 ≤ a1 then (if a1 < (l0.length : Int) then (some (0, rd l0 a1)) else (none)) else (none))) = some (r1, r2) := h
 clear h
 by_cases c3 : a1 > 0
 ·rw [if_pos c3] at H
  have c3b0 : decide (0 < a1) = true := decide_eq_true c3
  clear c3
  obtain ⟨ji4, hji4⟩ : ∃ j_ : Int, (wrap64 (a1 - 1)) = j_ := ⟨_, rfl⟩
  replace H : (if 0 ≤ (ji4) then (if (ji4) < (l0.length : Int) then (if 0 ≤ a1 then (if a1 < (l0.length : Int) then (some (rd l0 (ji4), rd l0 a1)) else (none)) else (none)) else (none)) else (none)) = some (r1, r2) := by first | (rw [hji4] at H; exact H) | (simp only [hji4] at H ⊢; exact H)
  have hji4w : (IntKind.i64.wrap (a1 - 1)) = ji4 := (cN _).trans hji4
  by_cases c5 : 0 ≤ (ji4)
  ·rw [if_pos c5] at H
   have c5b0 : decide (0 ≤ (ji4)) = true := decide_eq_true c5
   clear c5
   by_cases c6 : (ji4) < (l0.length : Int)
   ·rw [if_pos c6] at H
    have c6b0 : decide ((ji4) < (l0.length : Int)) = true := decide_eq_true c6
    clear c6
    by_cases c7 : 0 ≤ a1
    ·rw [if_pos c7] at H
     have c7b0 : decide (0 ≤ a1) = true := decide_eq_true c7
     clear c7
     by_cases c8 : a1 < (l0.length : Int)
     ·rw [if_pos c8] at H
      have c8b0 : decide (a1 < (l0.length : Int)) = true := decide_eq_true c8
      clear c8
      simp only [Option.some.injEq, Prod.mk.injEq] at H
      obtain ⟨rfl, rfl⟩ := H
      have p202 : 0 ≤ ((ji4) : Int) := of_decide_eq_true (by first | (with_reducible assumption) | assumption)
      have q202 : (ji4) < (l0.length : Int) := of_decide_eq_true (by first | (with_reducible assumption) | assumption)
      obtain ⟨ad202, e202, hx202_0⟩ := Kd.at_int HR0.out (ji4) p202 q202
      cases e202
      replace p202 := eq_true p202
      replace q202 := eq_true q202
      have p203 : 0 ≤ (a1 : Int) := of_decide_eq_true (by first | (with_reducible assumption) | assumption)
      have q203 : a1 < (l0.length : Int) := of_decide_eq_true (by first | (with_reducible assumption) | assumption)
      obtain ⟨ad203, e203, hx203_0⟩ := Kd.at_int HR0.out a1 p203 q203
      obtain rfl : ad202 = ad203 := (by injection e203)
      replace p203 := eq_true p203
      replace q203 := eq_true q203
      go_enter Tryz.func64, Tryz.ntmps64
      go_wp2
      repeat (go_quiet (fail); try go_wp2)
      go_ret2
      exact ⟨by first | rfl | (simp; done) | (simp only [← hji4] <;> (first | rfl | simp)) | (simp [*]; done), by repeat (first | exact bQ.refl _ | apply bQ.step)⟩
     ·rw [if_neg c8] at H
      exact absurd H (by simp)
    ·rw [if_neg c7] at H
     exact absurd H (by simp)
   ·rw [if_neg c6] at H
    exact absurd H (by simp)
  ·rw [if_neg c5] at H
   exact absurd H (by simp)
 ·rw [if_neg c3] at H
  have c3b0 : decide (0 < a1) = false := decide_eq_false c3
  clear c3
  by_cases c9 : 0 ≤ a1
  ·rw [if_pos c9] at H
   have c9b0 : decide (0 ≤ a1) = true := decide_eq_true c9
   clear c9
   by_cases c10 : a1 < (l0.length : Int)
   ·rw [if_pos c10] at H
    have c10b0 : decide (a1 < (l0.length : Int)) = true := decide_eq_true c10
    clear c10
    simp only [Option.some.injEq, Prod.mk.injEq] at H
    obtain ⟨rfl, rfl⟩ := H
    have p204 : 0 ≤ (a1 : Int) := of_decide_eq_true (by first | (with_reducible assumption) | assumption)
    have q204 : a1 < (l0.length : Int) := of_decide_eq_true (by first | (with_reducible assumption) | assumption)
    obtain ⟨ad204, e204, hx204_0⟩ := Kd.at_int HR0.out a1 p204 q204
    cases e204
    replace p204 := eq_true p204
    replace q204 := eq_true q204
    go_enter Tryz.func64, Tryz.ntmps64
    go_wp2
    repeat (go_quiet (fail); try go_wp2)
    go_ret2
    exact ⟨by first | rfl | (simp; done) | (simp [*]; done), by repeat (first | exact bQ.refl _ | apply bQ.step)⟩
   ·rw [if_neg c10] at H
    exact absurd H (by simp)
  ·rw [if_neg c9] at H
   exact absurd H (by simp)
end Go.Proofs.YtpflmgbpjhbmnaaGreat.B
end
section
namespace Go.Proofs.YtpflmgbpjhbmnaaGreat.B
open Go.RowKit Go.Proofs.YtpflmgbpjhbmnaaGreatW.PrintWords Go.Proofs.YtpflmgbpjhbmnaaGreatW.PrintLast Go.Proofs.YtpflmgbpjhbmnaaGreatW.PrintMore
attribute [local go_sem] Go.Proofs.YtpflmgbpjhbmnaaGreat.str_gtr bZ cA cJ cK bT bU cB cC   -- for this text's walks alone
set_option linter.unusedVariables false
set_option linter.unusedSimpArgs false
def bE.l0 : Nat → List (S59) → Int → Int → Int → Int → Option (Bool)
 | 0, _, _, _, _, _ => none
 | k + 1, x7, x8, x9, x509000, x509001 => if x9 < x8 then (if 0 ≤ x9 then (if x9 < (x7.length : Int) then (if ((bN x7 x9).f0) > x509000 then (some false) else (if ((bN x7 x9).f1) ≤ x509001 then (some true) else (bE.l0 k x7 x8 (wrap64 (x9 + 1)) x509000 x509001))) else (none)) else (none)) else (some false)
def bE.f (k : Nat) (l0 : List (S59)) (a1_0 : Int) (a1_1 : Int) : Option (Bool) := bE.l0 k l0 (l0.length : Int) 0 a1_0 a1_1
theorem bE.mono_l : ∀ k, (∀ y0 y1 y2 y3 y4, LeO (bE.l0 k y0 y1 y2 y3 y4) (bE.l0 (k + 1) y0 y1 y2 y3 y4))
 | 0 => fun _ _ _ _ _ r h => by simp [bE.l0] at h
 | k + 1 => by
  have ih0 := bE.mono_l k
  ·intro y0 y1 y2 y3 y4
   unfold bE.l0
   repeat' first
   | (with_reducible exact ih0 _ _ _ _ _)
   | (with_reducible exact LeO.refl _)
   | (with_reducible exact LeO.none _)
   | (with_reducible refine LeO.ite ?_ ?_)
   | (with_reducible refine LeO.bind ?_ (fun _ => ?_))
   | exact ih0 _ _ _ _ _
   | exact LeO.none _
   | refine LeO.ite ?_ ?_
   | refine LeO.bind ?_ (fun _ => ?_)
theorem bE.mono : ∀ a0 a1 a2 k, LeO (bE.f k a0 a1 a2) (bE.f (k + 1) a0 a1 a2) := by
 intro a0 a1 a2 k
 have ih0 := bE.mono_l k
 unfold bE.f
 repeat' first
   | (with_reducible exact ih0 _ _ _ _ _)
   | (with_reducible exact LeO.refl _)
   | (with_reducible exact LeO.none _)
   | (with_reducible refine LeO.ite ?_ ?_)
   | (with_reducible refine LeO.bind ?_ (fun _ => ?_))
   | exact ih0 _ _ _ _ _
   | exact LeO.none _
   | refine LeO.ite ?_ ?_
   | refine LeO.bind ?_ (fun _ => ?_)
set_option maxHeartbeats 8000000 in
set_option maxRecDepth 100000 in
theorem bE.calls (k : Nat) (A0 : Option Addr) (c0 : Nat) (l0 : List (S59)) (a1_0 : Int) (a1_1 : Int) (r : Bool) (w : World) (hr0 : Kd.C k59 w A0 l0.length l0) (hc0 : l0.length ≤ c0) (h : bE.f k l0 a1_0 a1_1 = some r) :
  Calls Tryz.prog 100 #[.slice A0 l0.length c0, .agg #[.int .i64 a1_0, .int .i64 a1_1]] w fun e w' => e = .returned (.bool r) ∧ Below w.heap.size w w' := by
 have hu59 := Tryz.underlying59
 have HR0 := aA.mk hr0
 have HC0 := aA.mk hc0
 clear hr0 hc0
 have HB := aA.mk (Below.refl w.heap.size w)
 have H : (bE.l0 k l0 (l0.length : Int) 0 a1_0 a1_1) = some r := h
 clear h
 have H' := aA.mk H
 clear H
 go_enter Tryz.func100, Tryz.ntmps100
 go_wp2_with (first | ((with_reducible refine bK (N := 3) rfl ?_); refine bG ?hg (N := 3) ?hd (cs := #[.int .i64 a1_0, .int .i64 a1_1]) (t := 59) ?hr ?_; (case hd => rfl); (case hg => rfl); (case hr => first | (go_simp; done) | (go_simp; rfl)); intro gb508 hg w3 hbox hb; have n0_ := aA.mk (aV (by repeat (first | (with_reducible first | exact HB.out | apply aC | apply pw_below_drewN | apply aD) | exact HB.out)) hb); have n1_ := aA.mk (hbox); have n2_ := aA.mk ((by rw [hg]; exact (aM (by repeat (first | (with_reducible first | exact HB.out | apply aC | apply pw_below_drewN | apply aD) | exact HB.out))) : w.heap.size ≤ gb508)); have n3_ := aA.mk ((by rw [hg]; exact (aM (by repeat (first | (with_reducible first | exact HB.out | apply aC | apply pw_below_drewN | apply aD) | exact HB.out))) : w.heap.size ≤ gb508)); clear HB; have HB := n0_; have BK508 := n1_; have GW508 := n2_; have GE508 := n3_; clear n0_ n1_ n2_ n3_; clear hb hbox hg))
 go_loopg [9] k (fun kq v9 w' => ∃ (x9_1 : Int), v9 = .int .i64 x9_1 ∧ aA (bE.l0 kq l0 (l0.length : Int) x9_1 a1_0 a1_1 = some r) ∧ aA (kq ≤ k) ∧ aA (w'.heap[gb508]? = some (.cells #[.int .i64 a1_0, .int .i64 a1_1] 59 (0, 0))) ∧ aA (Below w.heap.size w w'))
 case atStart => exact ⟨(0), (by first | rfl | (simp; done) | (simp [*]; done)), H', ⟨Nat.le_refl _⟩, ⟨by (with_reducible repeat (first | refine aJ ?_ _ | refine aK ?_ | refine aI ?_ _)); exact BK508.out⟩, ⟨by repeat (first | (with_reducible first | exact HB.out | apply aC | apply pw_below_drewN | apply aD | refine aG ?_ GE508.out) | exact HB.out)⟩⟩
 case round =>
  clear H'
  try clear c1
  try clear p2
  obtain ⟨x9_1, rfl, HA, HK1, BK508, HB⟩ := hrel
  cases gk with
  | zero => exact absurd HA.out (by simp [bE.l0])
  | succ k1 =>
   have H := HA.out
   clear HA
   simp only [bE.l0] at H
   by_cases c4 : x9_1 < (l0.length : Int)
   ·rw [if_pos c4] at H
    have c4b0 : decide (x9_1 < (l0.length : Int)) = true := decide_eq_true c4
    clear c4
    by_cases c5 : 0 ≤ x9_1
    ·rw [if_pos c5] at H
     have c5b0 : decide (0 ≤ x9_1) = true := decide_eq_true c5
     clear c5
     by_cases c6 : x9_1 < (l0.length : Int)
     ·rw [if_pos c6] at H
      have c6b0 : decide (x9_1 < (l0.length : Int)) = true := decide_eq_true c6
      clear c6
      by_cases c7 : ((bN l0 x9_1).f0) > a1_0
      ·rw [if_pos c7] at H
       have c7b0 : decide (a1_0 < ((bN l0 x9_1).f0)) = true := decide_eq_true c7
       clear c7
       obtain rfl := Option.some.inj H
       have p509 : 0 ≤ (x9_1 : Int) := of_decide_eq_true (by first | (with_reducible assumption) | assumption)
       have q509 : x9_1 < (l0.length : Int) := of_decide_eq_true (by first | (with_reducible assumption) | assumption)
       obtain ⟨ad509, e509, hx509_0, hx509_1⟩ := dW HR0.out x9_1 p509 q509
       cases e509
       replace hx509_0 := (HB.out.cell (World.block_lt_of_cell? w _ hx509_0)).trans hx509_0
       replace hx509_1 := (HB.out.cell (World.block_lt_of_cell? w _ hx509_1)).trans hx509_1
       replace p509 := eq_true p509
       replace q509 := eq_true q509
       go_wp2_with (first | ((with_reducible refine bK (N := 6) rfl ?_); refine bG ?hg (N := 6) ?hd (cs := #[.int .i64 0, .int .i64 0]) (t := 59) ?hr ?_; (case hd => rfl); (case hg => rfl); (case hr => first | (go_simp; done) | (go_simp; rfl)); intro gb510 hg w8 hbox hb; have n0_ := aA.mk (bD (g := gb508) (o := .cells #[.int .i64 a1_0, .int .i64 a1_1] 59 (0, 0)) (by (with_reducible repeat (first | refine aJ ?_ _ | refine aK ?_ | refine aI ?_ _)); exact BK508.out) hb); have n1_ := aA.mk (aV (by repeat (first | (with_reducible first | exact HB.out | apply aC | apply pw_below_drewN | apply aD | refine aG ?_ GE508.out) | exact HB.out)) hb); have n2_ := aA.mk (hbox); have n3_ := aA.mk ((by rw [hg]; exact (aM (by repeat (first | (with_reducible first | exact HB.out | apply aC | apply pw_below_drewN | apply aD | refine aG ?_ GE508.out) | exact HB.out))) : w.heap.size ≤ gb510)); have n4_ := aA.mk ((by rw [hg]; exact (aM (by repeat (first | (with_reducible first | exact HB.out | apply aC | apply pw_below_drewN | apply aD | refine aG ?_ GE508.out) | exact HB.out))) : w.heap.size ≤ gb510)); have n5_ := aA.mk ((by rw [hg]; exact Nat.ne_of_lt (blk_lt (g := gb508) (o := .cells #[.int .i64 a1_0, .int .i64 a1_1] 59 (0, 0)) (by (with_reducible repeat (first | refine aJ ?_ _ | refine aK ?_ | refine aI ?_ _)); exact BK508.out)) : gb508 ≠ gb510)); have n6_ := aA.mk ((by rw [hg]; exact Nat.ne_of_gt (blk_lt (g := gb508) (o := .cells #[.int .i64 a1_0, .int .i64 a1_1] 59 (0, 0)) (by (with_reducible repeat (first | refine aJ ?_ _ | refine aK ?_ | refine aI ?_ _)); exact BK508.out)) : gb510 ≠ gb508)); clear BK508; clear HB; have BK508 := n0_; have HB := n1_; have BK510 := n2_; have GW510 := n3_; have GE510 := n4_; have NB508_510 := n5_; have NB510_508 := n6_; clear n0_ n1_ n2_ n3_ n4_ n5_ n6_; clear hb hbox hg; have hnb9 := NB510_508.out; have hnc9 := NB508_510.out; have hcz10_0 : w8.cell? ⟨gb510, 0, none⟩ = some (.int .i64 0) := (aE BK510.out 0).trans rfl; have hcz10_1 : w8.cell? ⟨gb510, 1, none⟩ = some (.int .i64 0) := (aE BK510.out 1).trans rfl; have hfz10_0 := blk_frozen BK510.out 0; have hfz10_1 := blk_frozen BK510.out 1; have hcz11_0 : w8.cell? ⟨gb508, 0, none⟩ = some (.int .i64 a1_0) := (aE BK508.out 0).trans rfl; have hcz11_1 : w8.cell? ⟨gb508, 1, none⟩ = some (.int .i64 a1_1) := (aE BK508.out 1).trans rfl; have hfz11_0 := blk_frozen BK508.out 0; have hfz11_1 := blk_frozen BK508.out 1))
       go_ret
       exact ⟨by first | rfl | (simp [aN, aQ] <;> rfl) | (simp [*, aN, aQ] <;> rfl), by repeat (first | (with_reducible first | exact HB.out | apply aC | apply pw_below_drewN | apply aD | refine aG ?_ GE508.out | refine aG ?_ GE510.out) | exact HB.out)⟩
      ·rw [if_neg c7] at H
       have c7b0 : decide (a1_0 < ((bN l0 x9_1).f0)) = false := decide_eq_false c7
       clear c7
       by_cases c12 : ((bN l0 x9_1).f1) ≤ a1_1
       ·rw [if_pos c12] at H
        have c12b0 : decide (((bN l0 x9_1).f1) ≤ a1_1) = true := decide_eq_true c12
        clear c12
        obtain rfl := Option.some.inj H
        have p509 : 0 ≤ (x9_1 : Int) := of_decide_eq_true (by first | (with_reducible assumption) | assumption)
        have q509 : x9_1 < (l0.length : Int) := of_decide_eq_true (by first | (with_reducible assumption) | assumption)
        obtain ⟨ad509, e509, hx509_0, hx509_1⟩ := dW HR0.out x9_1 p509 q509
        cases e509
        replace hx509_0 := (HB.out.cell (World.block_lt_of_cell? w _ hx509_0)).trans hx509_0
        replace hx509_1 := (HB.out.cell (World.block_lt_of_cell? w _ hx509_1)).trans hx509_1
        replace p509 := eq_true p509
        replace q509 := eq_true q509
        go_wp2_with (first | ((with_reducible refine bK (N := 6) rfl ?_); refine bG ?hg (N := 6) ?hd (cs := #[.int .i64 0, .int .i64 0]) (t := 59) ?hr ?_; (case hd => rfl); (case hg => rfl); (case hr => first | (go_simp; done) | (go_simp; rfl)); intro gb510 hg w13 hbox hb; have n0_ := aA.mk (bD (g := gb508) (o := .cells #[.int .i64 a1_0, .int .i64 a1_1] 59 (0, 0)) (by (with_reducible repeat (first | refine aJ ?_ _ | refine aK ?_ | refine aI ?_ _)); exact BK508.out) hb); have n1_ := aA.mk (aV (by repeat (first | (with_reducible first | exact HB.out | apply aC | apply pw_below_drewN | apply aD | refine aG ?_ GE508.out) | exact HB.out)) hb); have n2_ := aA.mk (hbox); have n3_ := aA.mk ((by rw [hg]; exact (aM (by repeat (first | (with_reducible first | exact HB.out | apply aC | apply pw_below_drewN | apply aD | refine aG ?_ GE508.out) | exact HB.out))) : w.heap.size ≤ gb510)); have n4_ := aA.mk ((by rw [hg]; exact (aM (by repeat (first | (with_reducible first | exact HB.out | apply aC | apply pw_below_drewN | apply aD | refine aG ?_ GE508.out) | exact HB.out))) : w.heap.size ≤ gb510)); have n5_ := aA.mk ((by rw [hg]; exact Nat.ne_of_lt (blk_lt (g := gb508) (o := .cells #[.int .i64 a1_0, .int .i64 a1_1] 59 (0, 0)) (by (with_reducible repeat (first | refine aJ ?_ _ | refine aK ?_ | refine aI ?_ _)); exact BK508.out)) : gb508 ≠ gb510)); have n6_ := aA.mk ((by rw [hg]; exact Nat.ne_of_gt (blk_lt (g := gb508) (o := .cells #[.int .i64 a1_0, .int .i64 a1_1] 59 (0, 0)) (by (with_reducible repeat (first | refine aJ ?_ _ | refine aK ?_ | refine aI ?_ _)); exact BK508.out)) : gb510 ≠ gb508)); clear BK508; clear HB; have BK508 := n0_; have HB := n1_; have BK510 := n2_; have GW510 := n3_; have GE510 := n4_; have NB508_510 := n5_; have NB510_508 := n6_; clear n0_ n1_ n2_ n3_ n4_ n5_ n6_; clear hb hbox hg; have hnb14 := NB510_508.out; have hnc14 := NB508_510.out; have hcz15_0 : w13.cell? ⟨gb510, 0, none⟩ = some (.int .i64 0) := (aE BK510.out 0).trans rfl; have hcz15_1 : w13.cell? ⟨gb510, 1, none⟩ = some (.int .i64 0) := (aE BK510.out 1).trans rfl; have hfz15_0 := blk_frozen BK510.out 0; have hfz15_1 := blk_frozen BK510.out 1; have hcz16_0 : w13.cell? ⟨gb508, 0, none⟩ = some (.int .i64 a1_0) := (aE BK508.out 0).trans rfl; have hcz16_1 : w13.cell? ⟨gb508, 1, none⟩ = some (.int .i64 a1_1) := (aE BK508.out 1).trans rfl; have hfz16_0 := blk_frozen BK508.out 0; have hfz16_1 := blk_frozen BK508.out 1))
        go_ret
        exact ⟨by first | rfl | (simp [aN, aQ] <;> rfl) | (simp [*, aN, aQ] <;> rfl), by repeat (first | (with_reducible first | exact HB.out | apply aC | apply pw_below_drewN | apply aD | refine aG ?_ GE508.out | refine aG ?_ GE510.out) | exact HB.out)⟩
       ·rw [if_neg c12] at H
        have c12b0 : decide (((bN l0 x9_1).f1) ≤ a1_1) = false := decide_eq_false c12
        clear c12
        have H' := aA.mk H
        clear H
        have p509 : 0 ≤ (x9_1 : Int) := of_decide_eq_true (by first | (with_reducible assumption) | assumption)
        have q509 : x9_1 < (l0.length : Int) := of_decide_eq_true (by first | (with_reducible assumption) | assumption)
        obtain ⟨ad509, e509, hx509_0, hx509_1⟩ := dW HR0.out x9_1 p509 q509
        cases e509
        replace hx509_0 := (HB.out.cell (World.block_lt_of_cell? w _ hx509_0)).trans hx509_0
        replace hx509_1 := (HB.out.cell (World.block_lt_of_cell? w _ hx509_1)).trans hx509_1
        replace p509 := eq_true p509
        replace q509 := eq_true q509
        go_wp2_with (first | ((with_reducible refine bK (N := 6) rfl ?_); refine bG ?hg (N := 6) ?hd (cs := #[.int .i64 0, .int .i64 0]) (t := 59) ?hr ?_; (case hd => rfl); (case hg => rfl); (case hr => first | (go_simp; done) | (go_simp; rfl)); intro gb510 hg w17 hbox hb; have n0_ := aA.mk (bD (g := gb508) (o := .cells #[.int .i64 a1_0, .int .i64 a1_1] 59 (0, 0)) (by (with_reducible repeat (first | refine aJ ?_ _ | refine aK ?_ | refine aI ?_ _)); exact BK508.out) hb); have n1_ := aA.mk (aV (by repeat (first | (with_reducible first | exact HB.out | apply aC | apply pw_below_drewN | apply aD | refine aG ?_ GE508.out) | exact HB.out)) hb); have n2_ := aA.mk (hbox); have n3_ := aA.mk ((by rw [hg]; exact (aM (by repeat (first | (with_reducible first | exact HB.out | apply aC | apply pw_below_drewN | apply aD | refine aG ?_ GE508.out) | exact HB.out))) : w.heap.size ≤ gb510)); have n4_ := aA.mk ((by rw [hg]; exact (aM (by repeat (first | (with_reducible first | exact HB.out | apply aC | apply pw_below_drewN | apply aD | refine aG ?_ GE508.out) | exact HB.out))) : w.heap.size ≤ gb510)); have n5_ := aA.mk ((by rw [hg]; exact Nat.ne_of_lt (blk_lt (g := gb508) (o := .cells #[.int .i64 a1_0, .int .i64 a1_1] 59 (0, 0)) (by (with_reducible repeat (first | refine aJ ?_ _ | refine aK ?_ | refine aI ?_ _)); exact BK508.out)) : gb508 ≠ gb510)); have n6_ := aA.mk ((by rw [hg]; exact Nat.ne_of_gt (blk_lt (g := gb508) (o := .cells #[.int .i64 a1_0, .int .i64 a1_1] 59 (0, 0)) (by (with_reducible repeat (first | refine aJ ?_ _ | refine aK ?_ | refine aI ?_ _)); exact BK508.out)) : gb510 ≠ gb508)); clear BK508; clear HB; have BK508 := n0_; have HB := n1_; have BK510 := n2_; have GW510 := n3_; have GE510 := n4_; have NB508_510 := n5_; have NB510_508 := n6_; clear n0_ n1_ n2_ n3_ n4_ n5_ n6_; clear hb hbox hg; have hnb18 := NB510_508.out; have hnc18 := NB508_510.out; have hcz19_0 : w17.cell? ⟨gb510, 0, none⟩ = some (.int .i64 0) := (aE BK510.out 0).trans rfl; have hcz19_1 : w17.cell? ⟨gb510, 1, none⟩ = some (.int .i64 0) := (aE BK510.out 1).trans rfl; have hfz19_0 := blk_frozen BK510.out 0; have hfz19_1 := blk_frozen BK510.out 1; have hcz20_0 : w17.cell? ⟨gb508, 0, none⟩ = some (.int .i64 a1_0) := (aE BK508.out 0).trans rfl; have hcz20_1 : w17.cell? ⟨gb508, 1, none⟩ = some (.int .i64 a1_1) := (aE BK508.out 1).trans rfl; have hfz20_0 := blk_frozen BK508.out 0; have hfz20_1 := blk_frozen BK508.out 1))
        go_roundg k1
        case measure => have := HK1.out; omega
        case rel => exact ⟨(wrap64 (x9_1 + 1)), (by first | rfl | (simp; done) | (simp [*]; done)), H', ⟨by have := HK1.out; omega⟩, ⟨by (with_reducible repeat (first | refine aJ ?_ _ | refine aK ?_ | refine aI ?_ _)); refine cZ ?_ NB508_510.out _; (with_reducible repeat (first | refine aJ ?_ _ | refine aK ?_ | refine aI ?_ _)); refine cZ ?_ NB508_510.out _; (with_reducible repeat (first | refine aJ ?_ _ | refine aK ?_ | refine aI ?_ _)); exact BK508.out⟩, ⟨by repeat (first | (with_reducible first | exact HB.out | apply aC | apply pw_below_drewN | apply aD | refine aG ?_ GE508.out | refine aG ?_ GE510.out) | exact HB.out)⟩⟩
     ·rw [if_neg c6] at H
      exact absurd H (by simp)
    ·rw [if_neg c5] at H
     exact absurd H (by simp)
   ·rw [if_neg c4] at H
    have c4b0 : decide (x9_1 < (l0.length : Int)) = false := decide_eq_false c4
    clear c4
    obtain rfl := Option.some.inj H
    go_wp2
    go_ret
    exact ⟨by first | rfl | (simp [aN, aQ] <;> rfl) | (simp [*, aN, aQ] <;> rfl), by repeat (first | (with_reducible first | exact HB.out | apply aC | apply pw_below_drewN | apply aD | refine aG ?_ GE508.out) | exact HB.out)⟩
end Go.Proofs.YtpflmgbpjhbmnaaGreat.B
end
section
namespace Go.Proofs.YtpflmgbpjhbmnaaGreat.B
open Go.RowKit Go.Proofs.YtpflmgbpjhbmnaaGreatW.PrintWords Go.Proofs.YtpflmgbpjhbmnaaGreatW.PrintLast Go.Proofs.YtpflmgbpjhbmnaaGreatW.PrintMore
attribute [local go_sem] Go.Proofs.YtpflmgbpjhbmnaaGreat.str_gtr bZ cA cJ cK bT bU cB cC   -- for this text's walks alone
set_option linter.unusedVariables false
set_option linter.unusedSimpArgs false
def eH.f (a0_0 : Int) (a0_1 : Int) : Option (Int) := if (mn a0_0 a0_1) < 0 then (some 7) else (if (mx a0_0 a0_1) > 1099511627776 then (some 7) else (some 0))
set_option maxHeartbeats 8000000 in
set_option maxRecDepth 100000 in
theorem eH.calls (a0_0 : Int) (a0_1 : Int) (r : Int) (w : World) (h : eH.f a0_0 a0_1 = some r) :
  Calls Tryz.prog 75 #[.agg #[.int .i64 a0_0, .int .i64 a0_1]] w fun e w' => e = .returned (.int .i64 r) ∧ Below w.heap.size w w' := by
 have hu59 := Tryz.underlying59
 have HB := aA.mk (Below.refl w.heap.size w)
 have H : (if (mn a0_0 a0_1) < 0 then (some 7) else (if (mx a0_0 a0_1) > 1099511627776 then (some 7) else (some 0))) = some r := h
 clear h
 obtain ⟨ji2, hji2⟩ : ∃ j_ : Int, (mn a0_0 a0_1) = j_ := ⟨_, rfl⟩
 replace H : (if (ji2) < 0 then (some 7) else (if (mx a0_0 a0_1) > 1099511627776 then (some 7) else (some 0))) = some r := by first | (rw [hji2] at H; exact H) | (simp only [hji2] at H ⊢; exact H)
 have hji2_ : (if a0_1 < a0_0 then a0_1 else a0_0) = ji2 := hji2
 by_cases c3 : (ji2) < 0
 ·rw [if_pos c3] at H
  have c3b0 : decide ((ji2) < 0) = true := decide_eq_true c3
  clear c3
  obtain rfl := Option.some.inj H
  go_enter Tryz.func75, Tryz.ntmps75
  go_wp2_with (first | ((with_reducible refine bK (N := 1) rfl ?_); (try (refine jK (by rfl) ?_; dsimp only)); refine bG ?hg (N := 1) ?hd (cs := #[.int .i64 a0_0, .int .i64 a0_1]) (t := 59) ?hr ?_; (case hd => rfl); (case hg => rfl); (case hr => first | (go_simp; done) | (go_simp; rfl)); intro gb115 hg w4 hbox hb; have n0_ := aA.mk (aV (by repeat (first | (with_reducible first | exact HB.out | apply aC | apply pw_below_drewN | apply aD) | exact HB.out)) hb); have n1_ := aA.mk (hbox); have n2_ := aA.mk ((by rw [hg]; exact (aM (by repeat (first | (with_reducible first | exact HB.out | apply aC | apply pw_below_drewN | apply aD) | exact HB.out))) : w.heap.size ≤ gb115)); have n3_ := aA.mk ((by rw [hg]; exact (aM (by repeat (first | (with_reducible first | exact HB.out | apply aC | apply pw_below_drewN | apply aD) | exact HB.out))) : w.heap.size ≤ gb115)); clear HB; have HB := n0_; have BK115 := n1_; have GW115 := n2_; have GE115 := n3_; clear n0_ n1_ n2_ n3_; clear hb hbox hg; have hcz5_0 : w4.cell? ⟨gb115, 0, none⟩ = some (.int .i64 a0_0) := (aE BK115.out 0).trans rfl; have hcz5_1 : w4.cell? ⟨gb115, 1, none⟩ = some (.int .i64 a0_1) := (aE BK115.out 1).trans rfl; have hfz5_0 := blk_frozen BK115.out 0; have hfz5_1 := blk_frozen BK115.out 1))
  go_ret
  exact ⟨by first | rfl | (simp [aN, aQ] <;> rfl) | (simp only [← hji2]; first | rfl | (simp [aN, aQ] <;> rfl)) | (simp [*, aN, aQ] <;> rfl), by repeat (first | (with_reducible first | exact HB.out | apply aC | apply pw_below_drewN | apply aD | refine aG ?_ GE115.out) | exact HB.out)⟩
 ·rw [if_neg c3] at H
  have c3b0 : decide ((ji2) < 0) = false := decide_eq_false c3
  clear c3
  obtain ⟨ji6, hji6⟩ : ∃ j_ : Int, (mx a0_0 a0_1) = j_ := ⟨_, rfl⟩
  replace H : (if (ji6) > 1099511627776 then (some 7) else (some 0)) = some r := by first | (rw [hji6] at H; exact H) | (simp only [hji6] at H ⊢; exact H)
  have hji6_ : (if a0_0 < a0_1 then a0_1 else a0_0) = ji6 := hji6
  by_cases c7 : (ji6) > 1099511627776
  ·rw [if_pos c7] at H
   have c7b0 : decide (1099511627776 < (ji6)) = true := decide_eq_true c7
   clear c7
   obtain rfl := Option.some.inj H
   go_enter Tryz.func75, Tryz.ntmps75
   go_wp2_with (first | ((with_reducible refine bK (N := 1) rfl ?_); (try (refine jK (by rfl) ?_; dsimp only)); refine bG ?hg (N := 1) ?hd (cs := #[.int .i64 a0_0, .int .i64 a0_1]) (t := 59) ?hr ?_; (case hd => rfl); (case hg => rfl); (case hr => first | (go_simp; done) | (go_simp; rfl)); intro gb115 hg w8 hbox hb; have n0_ := aA.mk (aV (by repeat (first | (with_reducible first | exact HB.out | apply aC | apply pw_below_drewN | apply aD) | exact HB.out)) hb); have n1_ := aA.mk (hbox); have n2_ := aA.mk ((by rw [hg]; exact (aM (by repeat (first | (with_reducible first | exact HB.out | apply aC | apply pw_below_drewN | apply aD) | exact HB.out))) : w.heap.size ≤ gb115)); have n3_ := aA.mk ((by rw [hg]; exact (aM (by repeat (first | (with_reducible first | exact HB.out | apply aC | apply pw_below_drewN | apply aD) | exact HB.out))) : w.heap.size ≤ gb115)); clear HB; have HB := n0_; have BK115 := n1_; have GW115 := n2_; have GE115 := n3_; clear n0_ n1_ n2_ n3_; clear hb hbox hg; have hcz9_0 : w8.cell? ⟨gb115, 0, none⟩ = some (.int .i64 a0_0) := (aE BK115.out 0).trans rfl; have hcz9_1 : w8.cell? ⟨gb115, 1, none⟩ = some (.int .i64 a0_1) := (aE BK115.out 1).trans rfl; have hfz9_0 := blk_frozen BK115.out 0; have hfz9_1 := blk_frozen BK115.out 1))
   go_ret
   exact ⟨by first | rfl | (simp [aN, aQ] <;> rfl) | (simp only [← hji2, ← hji6]; first | rfl | (simp [aN, aQ] <;> rfl)) | (simp [*, aN, aQ] <;> rfl), by repeat (first | (with_reducible first | exact HB.out | apply aC | apply pw_below_drewN | apply aD | refine aG ?_ GE115.out) | exact HB.out)⟩
  ·rw [if_neg c7] at H
   have c7b0 : decide (1099511627776 < (ji6)) = false := decide_eq_false c7
   clear c7
   obtain rfl := Option.some.inj H
   go_enter Tryz.func75, Tryz.ntmps75
   go_wp2_with (first | ((with_reducible refine bK (N := 1) rfl ?_); (try (refine jK (by rfl) ?_; dsimp only)); refine bG ?hg (N := 1) ?hd (cs := #[.int .i64 a0_0, .int .i64 a0_1]) (t := 59) ?hr ?_; (case hd => rfl); (case hg => rfl); (case hr => first | (go_simp; done) | (go_simp; rfl)); intro gb115 hg w10 hbox hb; have n0_ := aA.mk (aV (by repeat (first | (with_reducible first | exact HB.out | apply aC | apply pw_below_drewN | apply aD) | exact HB.out)) hb); have n1_ := aA.mk (hbox); have n2_ := aA.mk ((by rw [hg]; exact (aM (by repeat (first | (with_reducible first | exact HB.out | apply aC | apply pw_below_drewN | apply aD) | exact HB.out))) : w.heap.size ≤ gb115)); have n3_ := aA.mk ((by rw [hg]; exact (aM (by repeat (first | (with_reducible first | exact HB.out | apply aC | apply pw_below_drewN | apply aD) | exact HB.out))) : w.heap.size ≤ gb115)); clear HB; have HB := n0_; have BK115 := n1_; have GW115 := n2_; have GE115 := n3_; clear n0_ n1_ n2_ n3_; clear hb hbox hg; have hcz11_0 : w10.cell? ⟨gb115, 0, none⟩ = some (.int .i64 a0_0) := (aE BK115.out 0).trans rfl; have hcz11_1 : w10.cell? ⟨gb115, 1, none⟩ = some (.int .i64 a0_1) := (aE BK115.out 1).trans rfl; have hfz11_0 := blk_frozen BK115.out 0; have hfz11_1 := blk_frozen BK115.out 1))
   go_ret
   exact ⟨by first | rfl | (simp [aN, aQ] <;> rfl) | (simp only [← hji2, ← hji6]; first | rfl | (simp [aN, aQ] <;> rfl)) | (simp [*, aN, aQ] <;> rfl), by repeat (first | (with_reducible first | exact HB.out | apply aC | apply pw_below_drewN | apply aD | refine aG ?_ GE115.out) | exact HB.out)⟩
end Go.Proofs.YtpflmgbpjhbmnaaGreat.B
end
section
namespace Go.Proofs.YtpflmgbpjhbmnaaGreat.B
open Go.RowKit Go.Proofs.YtpflmgbpjhbmnaaGreatW.PrintWords Go.Proofs.YtpflmgbpjhbmnaaGreatW.PrintLast Go.Proofs.YtpflmgbpjhbmnaaGreatW.PrintMore
attribute [local go_sem] Go.Proofs.YtpflmgbpjhbmnaaGreat.str_gtr bZ cA cJ cK bT bU cB cC   -- for this text's walks alone
set_option linter.unusedVariables false
set_option linter.unusedSimpArgs false
theorem uO (d : Nat) (w : World) (x0 y0 : Int) (x1 y1 : Int) :
  (Op.equalIn (d + 2) 59 (.agg #[.int .i64 x0, .int .i64 x1]) (.agg #[.int .i64 y0, .int .i64 y1])).run Tryz.prog w = .ok (x0 == y0 && (x1 == y1)) w := by
 refine BK Tryz.underlying59 (by kernel_rfl) ?_
 refine wN (by rfl) (by go_simp; rfl) (by go_simp; rfl) (by go_simp) ?_
 exact wM (by rfl) (by go_simp; rfl) (by go_simp; rfl) (by go_simp)
end Go.Proofs.YtpflmgbpjhbmnaaGreat.B
end
section
namespace Go.Proofs.YtpflmgbpjhbmnaaGreat.B
open Go.RowKit Go.Proofs.YtpflmgbpjhbmnaaGreatW.PrintWords Go.Proofs.YtpflmgbpjhbmnaaGreatW.PrintLast Go.Proofs.YtpflmgbpjhbmnaaGreatW.PrintMore
attribute [local go_sem] Go.Proofs.YtpflmgbpjhbmnaaGreat.str_gtr bZ cA cJ cK bT bU cB cC   -- for this text's walks alone
set_option linter.unusedVariables false
set_option linter.unusedSimpArgs false
attribute [local go_sem high] uO
def bC.l0 : Nat → List (S59) → List (S59) → Int → Int → Option (Bool)
 | 0, _, _, _, _ => none
 | k + 1, x0, x1, x12, x13 => if x13 < x12 then (if 0 ≤ x13 then (if x13 < (x0.length : Int) then (if x13 < (x1.length : Int) then (if (!(((bN x0 x13).f0) == ((bN x1 x13).f0)) || (!(((bN x0 x13).f1) == ((bN x1 x13).f1)))) = true then (some false) else (bC.l0 k x0 x1 x12 (wrap64 (x13 + 1)))) else (none)) else (none)) else (none)) else (some true)
def bC.f (k : Nat) (l0 : List (S59)) (l1 : List (S59)) : Option (Bool) := if (l0.length : Int) = (l1.length : Int) then (bC.l0 k l0 l1 (l0.length : Int) 0) else (some false)
theorem bC.mono_l : ∀ k, (∀ y0 y1 y2 y3, LeO (bC.l0 k y0 y1 y2 y3) (bC.l0 (k + 1) y0 y1 y2 y3))
 | 0 => fun _ _ _ _ r h => by simp [bC.l0] at h
 | k + 1 => by
  have ih0 := bC.mono_l k
  ·intro y0 y1 y2 y3
   unfold bC.l0
   repeat' first
   | (with_reducible exact ih0 _ _ _ _)
   | (with_reducible exact LeO.refl _)
   | (with_reducible exact LeO.none _)
   | (with_reducible refine LeO.ite ?_ ?_)
   | (with_reducible refine LeO.bind ?_ (fun _ => ?_))
   | exact ih0 _ _ _ _
   | exact LeO.none _
   | refine LeO.ite ?_ ?_
   | refine LeO.bind ?_ (fun _ => ?_)
theorem bC.mono : ∀ a0 a1 k, LeO (bC.f k a0 a1) (bC.f (k + 1) a0 a1) := by
 intro a0 a1 k
 have ih0 := bC.mono_l k
 unfold bC.f
 repeat' first
   | (with_reducible exact ih0 _ _ _ _)
   | (with_reducible exact LeO.refl _)
   | (with_reducible exact LeO.none _)
   | (with_reducible refine LeO.ite ?_ ?_)
   | (with_reducible refine LeO.bind ?_ (fun _ => ?_))
   | exact ih0 _ _ _ _
   | exact LeO.none _
   | refine LeO.ite ?_ ?_
   | refine LeO.bind ?_ (fun _ => ?_)
set_option maxHeartbeats 8000000 in
set_option maxRecDepth 100000 in
theorem bC.calls (k : Nat) (A0 : Option Addr) (c0 : Nat) (l0 : List (S59)) (A1 : Option Addr) (c1 : Nat) (l1 : List (S59)) (r : Bool) (w : World) (hr0 : Kd.C k59 w A0 l0.length l0) (hc0 : l0.length ≤ c0) (hr1 : Kd.C k59 w A1 l1.length l1) (hc1 : l1.length ≤ c1) (h : bC.f k l0 l1 = some r) :
  Calls Tryz.prog 76 #[.slice A0 l0.length c0, .slice A1 l1.length c1] w fun e w' => e = .returned (.bool r) ∧ bQ w w' := by
 have hu59 := Tryz.underlying59
 have HR0 := aA.mk hr0
 have HC0 := aA.mk hc0
 clear hr0 hc0
 have HR1 := aA.mk hr1
 have HC1 := aA.mk hc1
 clear hr1 hc1
 have H : (if (l0.length : Int) = (l1.length : Int) then (bC.l0 k l0 l1 (l0.length : Int) 0) else (some false)) = some r := h
 clear h
 by_cases c3 : (l0.length : Int) = (l1.length : Int)
 ·rw [if_pos c3] at H
  have c3b0 : ((l0.length : Int) == (l1.length : Int)) = true := beq_iff_eq.mpr c3
  have c3b1 : ((l0.length : Int) != (l1.length : Int)) = false := bne_eq_false_iff_eq.mpr c3
  have c3b2 : (l0.length == l1.length) = true := by first | simpa using c3 | (simp at c3 ⊢; omega)
  clear c3
  have H' := aA.mk H
  clear H
  go_enter Tryz.func76, Tryz.ntmps76
  go_wp2
  repeat (go_quiet (fail); try go_wp2)
  go_loopg [13] k (fun kq v13 w' => ∃ (x13_1 : Int), v13 = .int .i64 x13_1 ∧ aA (bC.l0 kq l0 l1 (l0.length : Int) x13_1 = some r) ∧ aA (kq ≤ k) ∧ bQ w w')
  case atStart => exact ⟨(0), (by first | rfl | (simp; done) | (simp [*]; done)), H', ⟨Nat.le_refl _⟩, by repeat (first | exact bQ.refl _ | apply bQ.step)⟩
  case round =>
   clear H'
   try clear c1
   try clear p2
   try clear c3
   try clear c3b0
   try clear c3b1
   try clear c3b2
   obtain ⟨x13_1, rfl, HA, HK1, ⟨m1, rfl⟩⟩ := hrel
   cases gk with
   | zero => exact absurd HA.out (by simp [bC.l0])
   | succ k1 =>
    have H := HA.out
    clear HA
    simp only [bC.l0] at H
    by_cases c4 : x13_1 < (l0.length : Int)
    ·rw [if_pos c4] at H
     have c4b0 : decide (x13_1 < (l0.length : Int)) = true := decide_eq_true c4
     clear c4
     by_cases c5 : 0 ≤ x13_1
     ·rw [if_pos c5] at H
      have c5b0 : decide (0 ≤ x13_1) = true := decide_eq_true c5
      clear c5
      by_cases c6 : x13_1 < (l0.length : Int)
      ·rw [if_pos c6] at H
       have c6b0 : decide (x13_1 < (l0.length : Int)) = true := decide_eq_true c6
       clear c6
       by_cases c7 : x13_1 < (l1.length : Int)
       ·rw [if_pos c7] at H
        have c7b0 : decide (x13_1 < (l1.length : Int)) = true := decide_eq_true c7
        clear c7
        by_cases c8 : (!(((bN l0 x13_1).f0) == ((bN l1 x13_1).f0)) || (!(((bN l0 x13_1).f1) == ((bN l1 x13_1).f1)))) = true
        ·rw [if_pos c8] at H
         have c8b0 : (!(((bN l0 x13_1).f0) == ((bN l1 x13_1).f0)) || (!(((bN l0 x13_1).f1) == ((bN l1 x13_1).f1)))) = true := c8
         clear c8
         obtain rfl := Option.some.inj H
         have p116 : 0 ≤ (x13_1 : Int) := of_decide_eq_true (by first | (with_reducible assumption) | assumption)
         have q116 : x13_1 < (l0.length : Int) := of_decide_eq_true (by first | (with_reducible assumption) | assumption)
         obtain ⟨ad116, e116, hx116_0, hx116_1⟩ := dW HR0.out x13_1 p116 q116
         cases e116
         replace p116 := eq_true p116
         replace q116 := eq_true q116
         have p117 : 0 ≤ (x13_1 : Int) := of_decide_eq_true (by first | (with_reducible assumption) | assumption)
         have q117 : x13_1 < (l1.length : Int) := of_decide_eq_true (by first | (with_reducible assumption) | assumption)
         obtain ⟨ad117, e117, hx117_0, hx117_1⟩ := dW HR1.out x13_1 p117 q117
         cases e117
         replace p117 := eq_true p117
         replace q117 := eq_true q117
         go_wp2
         repeat (go_quiet (fail); try go_wp2)
         go_ret
         exact ⟨by first | rfl | (simp; done) | (simp [*]; done), by repeat (first | exact bQ.refl _ | apply bQ.step)⟩
        ·rw [if_neg c8] at H
         have c8b0 : (!(((bN l0 x13_1).f0) == ((bN l1 x13_1).f0)) || (!(((bN l0 x13_1).f1) == ((bN l1 x13_1).f1)))) = false := by simpa using c8
         clear c8
         have H' := aA.mk H
         clear H
         have p116 : 0 ≤ (x13_1 : Int) := of_decide_eq_true (by first | (with_reducible assumption) | assumption)
         have q116 : x13_1 < (l0.length : Int) := of_decide_eq_true (by first | (with_reducible assumption) | assumption)
         obtain ⟨ad116, e116, hx116_0, hx116_1⟩ := dW HR0.out x13_1 p116 q116
         cases e116
         replace p116 := eq_true p116
         replace q116 := eq_true q116
         have p117 : 0 ≤ (x13_1 : Int) := of_decide_eq_true (by first | (with_reducible assumption) | assumption)
         have q117 : x13_1 < (l1.length : Int) := of_decide_eq_true (by first | (with_reducible assumption) | assumption)
         obtain ⟨ad117, e117, hx117_0, hx117_1⟩ := dW HR1.out x13_1 p117 q117
         cases e117
         replace p117 := eq_true p117
         replace q117 := eq_true q117
         go_wp2
         repeat (go_quiet (fail); try go_wp2)
         go_roundg k1
         case measure => have := HK1.out; omega
         case rel => exact ⟨(wrap64 (x13_1 + 1)), (by first | rfl | (simp; done) | (simp [*]; done)), H', ⟨by have := HK1.out; omega⟩, by repeat (first | exact bQ.refl _ | apply bQ.step)⟩
       ·rw [if_neg c7] at H
        exact absurd H (by simp)
      ·rw [if_neg c6] at H
       exact absurd H (by simp)
     ·rw [if_neg c5] at H
      exact absurd H (by simp)
    ·rw [if_neg c4] at H
     have c4b0 : decide (x13_1 < (l0.length : Int)) = false := decide_eq_false c4
     clear c4
     obtain rfl := Option.some.inj H
     go_wp2
     repeat (go_quiet (fail); try go_wp2)
     go_ret
     exact ⟨by first | rfl | (simp; done) | (simp [*]; done), by repeat (first | exact bQ.refl _ | apply bQ.step)⟩
 ·rw [if_neg c3] at H
  have c3b0 : ((l0.length : Int) == (l1.length : Int)) = false := beq_eq_false_iff_ne.mpr c3
  have c3b1 : ((l0.length : Int) != (l1.length : Int)) = true := bne_iff_ne.mpr c3
  have c3b2 : (l0.length == l1.length) = false := by first | simpa using c3 | (simp at c3 ⊢; omega)
  obtain rfl := Option.some.inj H
  go_enter Tryz.func76, Tryz.ntmps76
  go_wp2
  repeat (go_quiet (fail); try go_wp2)
  go_ret
  exact ⟨by first | rfl | (simp; done) | (simp [*]; done), by repeat (first | exact bQ.refl _ | apply bQ.step)⟩
end Go.Proofs.YtpflmgbpjhbmnaaGreat.B
end
