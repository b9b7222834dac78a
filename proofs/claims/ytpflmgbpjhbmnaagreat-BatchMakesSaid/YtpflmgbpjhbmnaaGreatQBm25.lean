/- Bx84. -/
import Derived.Test.YtpflmgbpjhbmnaaGreatQBm2
import Derived.Test.YtpflmgbpjhbmnaaGreatQBm3
section
namespace Go.Proofs.YtpflmgbpjhbmnaaGreat.B
open Go.RowKit Go.Proofs.YtpflmgbpjhbmnaaGreatW.PrintWords Go.Proofs.YtpflmgbpjhbmnaaGreatW.PrintLast Go.Proofs.YtpflmgbpjhbmnaaGreatW.PrintMore
attribute [local go_sem] Go.Proofs.YtpflmgbpjhbmnaaGreat.str_gtr bZ cA cJ cK bT bU cB cC   -- for this text's walks alone
set_option linter.unusedVariables false
set_option linter.unusedSimpArgs false
def cR.f (a0_0 : Int) (a0_1 : Int) : Option (Int × Int) := if a0_0 < (-2147483648) then (some (0, 60)) else (if a0_0 > 2147483647 then (some (0, 60)) else (some (wrap64 ((wrap64 (a0_0 * 4294967296)) + a0_1), 0)))
set_option maxHeartbeats 8000000 in
set_option maxRecDepth 100000 in
theorem cR.calls (a0_0 : Int) (a0_1 : Int) (r1 : Int) (r2 : Int) (w : World) (h : cR.f a0_0 a0_1 = some (r1, r2)) :
  Calls Tryz.prog 111 #[.agg #[.int .i64 a0_0, .int .i64 a0_1]] w fun e w' => e = .returned (.tuple #[.int .i64 r1, .int .i64 r2]) ∧ Below w.heap.size w w' := by
 have hu150 := Tryz.underlying150
 have HB := aA.mk (Below.refl w.heap.size w)
 have H : (if a0_0 < (-2147483648) then (some (0, 60)) else (if a0_0 > 2147483647 then (some (0, 60)) else (some (wrap64 ((wrap64 (a0_0 * 4294967296)) + a0_1), 0)))) = some (r1, r2) := h
 clear h
 by_cases c2 : a0_0 < (-2147483648)
 ·rw [if_pos c2] at H
  have c2b0 : decide (a0_0 < (-2147483648)) = true := decide_eq_true c2
  clear c2
  simp only [Option.some.injEq, Prod.mk.injEq] at H
  obtain ⟨rfl, rfl⟩ := H
  go_enter Tryz.func111, Tryz.ntmps111
  go_wp2_with (first | ((with_reducible refine bK (N := 1) rfl ?_); refine bG ?hg (N := 1) ?hd (cs := #[.int .i64 a0_0, .int .i64 a0_1]) (t := 150) ?hr ?_; (case hd => rfl); (case hg => rfl); (case hr => first | (go_simp; done) | (go_simp; rfl)); intro gb308 hg w3 hbox hb; have n0_ := aA.mk (aV (by repeat (first | (with_reducible first | exact HB.out | apply aC | apply pw_below_drewN | apply aD) | exact HB.out)) hb); have n1_ := aA.mk (hbox); have n2_ := aA.mk ((by rw [hg]; exact (aM (by repeat (first | (with_reducible first | exact HB.out | apply aC | apply pw_below_drewN | apply aD) | exact HB.out))) : w.heap.size ≤ gb308)); have n3_ := aA.mk ((by rw [hg]; exact (aM (by repeat (first | (with_reducible first | exact HB.out | apply aC | apply pw_below_drewN | apply aD) | exact HB.out))) : w.heap.size ≤ gb308)); clear HB; have HB := n0_; have BK308 := n1_; have GW308 := n2_; have GE308 := n3_; clear n0_ n1_ n2_ n3_; clear hb hbox hg; have hcz4_0 : w3.cell? ⟨gb308, 0, none⟩ = some (.int .i64 a0_0) := (aE BK308.out 0).trans rfl; have hcz4_1 : w3.cell? ⟨gb308, 1, none⟩ = some (.int .i64 a0_1) := (aE BK308.out 1).trans rfl; have hfz4_0 := blk_frozen BK308.out 0; have hfz4_1 := blk_frozen BK308.out 1))
  go_ret2
  exact ⟨by first | rfl | (simp [aN, aQ] <;> rfl) | (simp [*, aN, aQ] <;> rfl), by repeat (first | (with_reducible first | exact HB.out | apply aC | apply pw_below_drewN | apply aD | refine aG ?_ GE308.out) | exact HB.out)⟩
 ·rw [if_neg c2] at H
  have c2b0 : decide (a0_0 < (-2147483648)) = false := decide_eq_false c2
  clear c2
  by_cases c5 : a0_0 > 2147483647
  ·rw [if_pos c5] at H
   have c5b0 : decide (2147483647 < a0_0) = true := decide_eq_true c5
   clear c5
   simp only [Option.some.injEq, Prod.mk.injEq] at H
   obtain ⟨rfl, rfl⟩ := H
   go_enter Tryz.func111, Tryz.ntmps111
   go_wp2_with (first | ((with_reducible refine bK (N := 1) rfl ?_); refine bG ?hg (N := 1) ?hd (cs := #[.int .i64 a0_0, .int .i64 a0_1]) (t := 150) ?hr ?_; (case hd => rfl); (case hg => rfl); (case hr => first | (go_simp; done) | (go_simp; rfl)); intro gb308 hg w6 hbox hb; have n0_ := aA.mk (aV (by repeat (first | (with_reducible first | exact HB.out | apply aC | apply pw_below_drewN | apply aD) | exact HB.out)) hb); have n1_ := aA.mk (hbox); have n2_ := aA.mk ((by rw [hg]; exact (aM (by repeat (first | (with_reducible first | exact HB.out | apply aC | apply pw_below_drewN | apply aD) | exact HB.out))) : w.heap.size ≤ gb308)); have n3_ := aA.mk ((by rw [hg]; exact (aM (by repeat (first | (with_reducible first | exact HB.out | apply aC | apply pw_below_drewN | apply aD) | exact HB.out))) : w.heap.size ≤ gb308)); clear HB; have HB := n0_; have BK308 := n1_; have GW308 := n2_; have GE308 := n3_; clear n0_ n1_ n2_ n3_; clear hb hbox hg; have hcz7_0 : w6.cell? ⟨gb308, 0, none⟩ = some (.int .i64 a0_0) := (aE BK308.out 0).trans rfl; have hcz7_1 : w6.cell? ⟨gb308, 1, none⟩ = some (.int .i64 a0_1) := (aE BK308.out 1).trans rfl; have hfz7_0 := blk_frozen BK308.out 0; have hfz7_1 := blk_frozen BK308.out 1))
   go_ret2
   exact ⟨by first | rfl | (simp [aN, aQ] <;> rfl) | (simp [*, aN, aQ] <;> rfl), by repeat (first | (with_reducible first | exact HB.out | apply aC | apply pw_below_drewN | apply aD | refine aG ?_ GE308.out) | exact HB.out)⟩
  ·rw [if_neg c5] at H
   have c5b0 : decide (2147483647 < a0_0) = false := decide_eq_false c5
   clear c5
   simp only [Option.some.injEq, Prod.mk.injEq] at H
   obtain ⟨rfl, rfl⟩ := H
   go_enter Tryz.func111, Tryz.ntmps111
   go_wp2_with (first | ((with_reducible refine bK (N := 1) rfl ?_); refine bG ?hg (N := 1) ?hd (cs := #[.int .i64 a0_0, .int .i64 a0_1]) (t := 150) ?hr ?_; (case hd => rfl); (case hg => rfl); (case hr => first | (go_simp; done) | (go_simp; rfl)); intro gb308 hg w8 hbox hb; have n0_ := aA.mk (aV (by repeat (first | (with_reducible first | exact HB.out | apply aC | apply pw_below_drewN | apply aD) | exact HB.out)) hb); have n1_ := aA.mk (hbox); have n2_ := aA.mk ((by rw [hg]; exact (aM (by repeat (first | (with_reducible first | exact HB.out | apply aC | apply pw_below_drewN | apply aD) | exact HB.out))) : w.heap.size ≤ gb308)); have n3_ := aA.mk ((by rw [hg]; exact (aM (by repeat (first | (with_reducible first | exact HB.out | apply aC | apply pw_below_drewN | apply aD) | exact HB.out))) : w.heap.size ≤ gb308)); clear HB; have HB := n0_; have BK308 := n1_; have GW308 := n2_; have GE308 := n3_; clear n0_ n1_ n2_ n3_; clear hb hbox hg; have hcz9_0 : w8.cell? ⟨gb308, 0, none⟩ = some (.int .i64 a0_0) := (aE BK308.out 0).trans rfl; have hcz9_1 : w8.cell? ⟨gb308, 1, none⟩ = some (.int .i64 a0_1) := (aE BK308.out 1).trans rfl; have hfz9_0 := blk_frozen BK308.out 0; have hfz9_1 := blk_frozen BK308.out 1))
   go_ret2
   exact ⟨by first | rfl | (simp [aN, aQ] <;> rfl) | (simp [*, aN, aQ] <;> rfl), by repeat (first | (with_reducible first | exact HB.out | apply aC | apply pw_below_drewN | apply aD | refine aG ?_ GE308.out) | exact HB.out)⟩
end Go.Proofs.YtpflmgbpjhbmnaaGreat.B
end
