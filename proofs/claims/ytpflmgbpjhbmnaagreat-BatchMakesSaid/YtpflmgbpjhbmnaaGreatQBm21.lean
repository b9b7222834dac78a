/- Bx31, Bx33, Bx34, Bx35, Bx36, Bx62, Bx90, Bx71, Bx70, Bx61, Bx69. -/
import Derived.Test.YtpflmgbpjhbmnaaGreatQBm20
import Derived.Test.YtpflmgbpjhbmnaaGreatQBm2
import Derived.Test.YtpflmgbpjhbmnaaGreatQBm3
import Derived.Test.YtpflmgbpjhbmnaaGreatQBm5
import Derived.Test.YtpflmgbpjhbmnaaGreatQBm4
section
namespace Go.Proofs.YtpflmgbpjhbmnaaGreat.B
open Go.RowKit Go.Proofs.YtpflmgbpjhbmnaaGreatW.PrintWords Go.Proofs.YtpflmgbpjhbmnaaGreatW.PrintLast Go.Proofs.YtpflmgbpjhbmnaaGreatW.PrintMore
attribute [local go_sem] Go.Proofs.YtpflmgbpjhbmnaaGreat.str_gtr bZ cA cJ cK bT bU cB cC   -- for this text's walks alone
set_option linter.unusedVariables false
set_option linter.unusedSimpArgs false
def bX.l0 : Nat → List (S59) → List (S59) → Int → Int → Option (Int)
 | 0, _, _, _, _ => none
 | k + 1, x0, x9, x10, x11 => if x11 < x10 then (if 0 ≤ x11 then (if x11 < (x9.length : Int) then ((eH.f ((bN x9 x11).f0) ((bN x9 x11).f1)).bind fun t120 => (if t120 = 0 then (bX.l0 k x0 x9 x10 (wrap64 (x11 + 1))) else (some t120))) else (none)) else (none)) else ((dZ.f x0).bind fun t121 => ((bC.f k t121 x0).bind fun t124 => (if t124 = true then (some 0) else (some 6))))
def bX.f (k : Nat) (l0 : List (S59)) : Option (Int) := if (l0.length : Int) > 1024 then (some 3) else (bX.l0 k l0 l0 (l0.length : Int) 0)
theorem bX.mono_l : ∀ k, (∀ y0 y1 y2 y3, LeO (bX.l0 k y0 y1 y2 y3) (bX.l0 (k + 1) y0 y1 y2 y3))
 | 0 => fun _ _ _ _ r h => by simp [bX.l0] at h
 | k + 1 => by
  have ih0 := bX.mono_l k
  ·intro y0 y1 y2 y3
   unfold bX.l0
   repeat' first
   | (with_reducible exact ih0 _ _ _ _)
   | (with_reducible exact bC.mono _ _ _)
   | (with_reducible exact LeO.refl _)
   | (with_reducible exact LeO.none _)
   | (with_reducible refine LeO.ite ?_ ?_)
   | (with_reducible refine LeO.bind ?_ (fun _ => ?_))
   | exact ih0 _ _ _ _
   | exact bC.mono _ _ _
   | exact LeO.none _
   | refine LeO.ite ?_ ?_
   | refine LeO.bind ?_ (fun _ => ?_)
theorem bX.mono : ∀ a0 k, LeO (bX.f k a0) (bX.f (k + 1) a0) := by
 intro a0 k
 have ih0 := bX.mono_l k
 unfold bX.f
 repeat' first
   | (with_reducible exact ih0 _ _ _ _)
   | (with_reducible exact bC.mono _ _ _)
   | (with_reducible exact LeO.refl _)
   | (with_reducible exact LeO.none _)
   | (with_reducible refine LeO.ite ?_ ?_)
   | (with_reducible refine LeO.bind ?_ (fun _ => ?_))
   | exact ih0 _ _ _ _
   | exact bC.mono _ _ _
   | exact LeO.none _
   | refine LeO.ite ?_ ?_
   | refine LeO.bind ?_ (fun _ => ?_)
set_option maxHeartbeats 8000000 in
set_option maxRecDepth 100000 in
theorem bX.calls (k : Nat) (A0 : Option Addr) (c0 : Nat) (l0 : List (S59)) (r : Int) (w : World) (hr0 : Kd.C k59 w A0 l0.length l0) (hc0 : l0.length ≤ c0) (h : bX.f k l0 = some r) :
  Calls Tryz.prog 52 #[.slice A0 l0.length c0] w fun e w' => e = .returned (.int .i64 r) ∧ Below w.heap.size w w' := by
 have hu59 := Tryz.underlying59
 have HR0 := aA.mk hr0
 have HC0 := aA.mk hc0
 clear hr0 hc0
 have HB := aA.mk (Below.refl w.heap.size w)
 have H : (if (l0.length : Int) > 1024 then (some 3) else (bX.l0 k l0 l0 (l0.length : Int) 0)) = some r := h
 clear h
 by_cases c2 : (l0.length : Int) > 1024
 ·rw [if_pos c2] at H
  have c2b0 : decide (1024 < (l0.length : Int)) = true := decide_eq_true c2
  have c2b1 : decide (1024 < l0.length) = true := decide_eq_true (by omega)
  clear c2
  obtain rfl := Option.some.inj H
  go_enter Tryz.func52, Tryz.ntmps52
  go_wp2
  go_ret
  exact ⟨by first | rfl | (simp [aN, aQ] <;> rfl) | (simp [*, aN, aQ] <;> rfl), by repeat (first | (with_reducible first | exact HB.out | apply aC | apply pw_below_drewN | apply aD) | exact HB.out)⟩
 ·rw [if_neg c2] at H
  have c2b0 : decide (1024 < (l0.length : Int)) = false := decide_eq_false c2
  have c2b1 : decide (1024 < l0.length) = false := decide_eq_false (by omega)
  clear c2
  have H' := aA.mk H
  clear H
  go_enter Tryz.func52, Tryz.ntmps52
  go_wp2
  go_loopg [11] k (fun kq v11 w' => ∃ (x11_1 : Int), v11 = .int .i64 x11_1 ∧ aA (bX.l0 kq l0 l0 (l0.length : Int) x11_1 = some r) ∧ aA (kq ≤ k) ∧ aA (Below w.heap.size w w'))
  case atStart => exact ⟨(0), (by first | rfl | (simp; done) | (simp [*]; done)), H', ⟨Nat.le_refl _⟩, ⟨by repeat (first | (with_reducible first | exact HB.out | apply aC | apply pw_below_drewN | apply aD) | exact HB.out)⟩⟩
  case round =>
   clear H'
   try clear c2
   try clear c2b0
   try clear c2b1
   try clear p2
   obtain ⟨x11_1, rfl, HA, HK1, HB⟩ := hrel
   cases gk with
   | zero => exact absurd HA.out (by simp [bX.l0])
   | succ k1 =>
    have H := HA.out
    clear HA
    simp only [bX.l0] at H
    by_cases c3 : x11_1 < (l0.length : Int)
    ·rw [if_pos c3] at H
     have c3b0 : decide (x11_1 < (l0.length : Int)) = true := decide_eq_true c3
     clear c3
     by_cases c4 : 0 ≤ x11_1
     ·rw [if_pos c4] at H
      have c4b0 : decide (0 ≤ x11_1) = true := decide_eq_true c4
      clear c4
      by_cases c5 : x11_1 < (l0.length : Int)
      ·rw [if_pos c5] at H
       have c5b0 : decide (x11_1 < (l0.length : Int)) = true := decide_eq_true c5
       clear c5
       replace H := Option.bind_eq_some_iff.mp H
       obtain ⟨t120, A60, H⟩ := H
       replace H : (if t120 = 0 then (bX.l0 k1 l0 l0 (l0.length : Int) (wrap64 (x11_1 + 1))) else (some t120)) = some r := H
       have A6 := aA.mk A60
       clear A60
       by_cases c7 : t120 = 0
       ·rw [if_pos c7] at H
        have c7b0 : (t120 == 0) = true := beq_iff_eq.mpr c7
        have c7b1 : (t120 != 0) = false := bne_eq_false_iff_eq.mpr c7
        clear c7
        have H' := aA.mk H
        clear H
        have p118 : 0 ≤ (x11_1 : Int) := of_decide_eq_true (by first | (with_reducible assumption) | assumption)
        have q118 : x11_1 < (l0.length : Int) := of_decide_eq_true (by first | (with_reducible assumption) | assumption)
        obtain ⟨ad118, e118, hx118_0, hx118_1⟩ := dW HR0.out x11_1 p118 q118
        cases e118
        replace hx118_0 := (HB.out.cell (World.block_lt_of_cell? w _ hx118_0)).trans hx118_0
        replace hx118_1 := (HB.out.cell (World.block_lt_of_cell? w _ hx118_1)).trans hx118_1
        replace p118 := eq_true p118
        replace q118 := eq_true q118
        go_wp2_with (first | ((with_reducible refine bK (N := 4) rfl ?_); refine bG ?hg (N := 4) ?hd (cs := #[.int .i64 0, .int .i64 0]) (t := 59) ?hr ?_; (case hd => rfl); (case hg => rfl); (case hr => first | (go_simp; done) | (go_simp; rfl)); intro gb119 hg w8 hbox hb; have n0_ := aA.mk (aV (by repeat (first | (with_reducible first | exact HB.out | apply aC | apply pw_below_drewN | apply aD) | exact HB.out)) hb); have n1_ := aA.mk (hbox); have n2_ := aA.mk ((by rw [hg]; exact (aM (by repeat (first | (with_reducible first | exact HB.out | apply aC | apply pw_below_drewN | apply aD) | exact HB.out))) : w.heap.size ≤ gb119)); have n3_ := aA.mk ((by rw [hg]; exact (aM (by repeat (first | (with_reducible first | exact HB.out | apply aC | apply pw_below_drewN | apply aD) | exact HB.out))) : w.heap.size ≤ gb119)); clear HB; have HB := n0_; have BK119 := n1_; have GW119 := n2_; have GE119 := n3_; clear n0_ n1_ n2_ n3_; clear hb hbox hg; have hcz9_0 : w8.cell? ⟨gb119, 0, none⟩ = some (.int .i64 0) := (aE BK119.out 0).trans rfl; have hcz9_1 : w8.cell? ⟨gb119, 1, none⟩ = some (.int .i64 0) := (aE BK119.out 1).trans rfl; have hfz9_0 := blk_frozen BK119.out 0; have hfz9_1 := blk_frozen BK119.out 1) | ((with_reducible refine aZ (f := 75) rfl ?_); refine cH (some 16) rfl rfl Tryz.func75 (by kernel_rfl) rfl #[.agg #[.int .i64 ((bN l0 x11_1).f0), .int .i64 ((bN l0 x11_1).f1)]] rfl (by (try simp only [List.map_toArray, List.map_cons, List.map_nil]); first | done | rfl | (simp only [List.length_drop, List.length_take]; rfl)) ?_; (with_reducible refine (eH.calls ((bN l0 x11_1).f0) ((bN l0 x11_1).f1) t120 _ A6.out).mono ?_); rintro e w10 ⟨rfl, hb⟩; refine ⟨_, rfl, ?_⟩; have n0_ := aA.mk (bD (g := gb119) (o := .cells #[.int .i64 ((bN l0 x11_1).f0), .int .i64 ((bN l0 x11_1).f1)] 59 (0, 0)) (by (with_reducible repeat (first | refine aJ ?_ _ | refine aK ?_ | refine aI ?_ _)); refine cW (cs := #[.int .i64 ((bN l0 x11_1).f0), .int .i64 0]) ?_ 1 _ rfl; (with_reducible repeat (first | refine aJ ?_ _ | refine aK ?_ | refine aI ?_ _)); refine cW (cs := #[.int .i64 0, .int .i64 0]) ?_ 0 _ rfl; (with_reducible repeat (first | refine aJ ?_ _ | refine aK ?_ | refine aI ?_ _)); exact BK119.out) hb); have n1_ := aA.mk (aV (by repeat (first | (with_reducible first | exact HB.out | apply aC | apply pw_below_drewN | apply aD | refine aG ?_ GE119.out) | exact HB.out)) hb); clear BK119; clear HB; have BK119 := n0_; have HB := n1_; clear n0_ n1_; (try clear hb); (try clear hb2); (try clear hk); (try clear hi)))
        go_roundg k1
        case measure => have := HK1.out; omega
        case rel => exact ⟨(wrap64 (x11_1 + 1)), (by first | rfl | (simp; done) | (simp [*]; done)), H', ⟨by have := HK1.out; omega⟩, ⟨by repeat (first | (with_reducible first | exact HB.out | apply aC | apply pw_below_drewN | apply aD | refine aG ?_ GE119.out) | exact HB.out)⟩⟩
       ·rw [if_neg c7] at H
        have c7b0 : (t120 == 0) = false := beq_eq_false_iff_ne.mpr c7
        have c7b1 : (t120 != 0) = true := bne_iff_ne.mpr c7
        obtain rfl := Option.some.inj H
        have p118 : 0 ≤ (x11_1 : Int) := of_decide_eq_true (by first | (with_reducible assumption) | assumption)
        have q118 : x11_1 < (l0.length : Int) := of_decide_eq_true (by first | (with_reducible assumption) | assumption)
        obtain ⟨ad118, e118, hx118_0, hx118_1⟩ := dW HR0.out x11_1 p118 q118
        cases e118
        replace hx118_0 := (HB.out.cell (World.block_lt_of_cell? w _ hx118_0)).trans hx118_0
        replace hx118_1 := (HB.out.cell (World.block_lt_of_cell? w _ hx118_1)).trans hx118_1
        replace p118 := eq_true p118
        replace q118 := eq_true q118
        go_wp2_with (first | ((with_reducible refine bK (N := 4) rfl ?_); refine bG ?hg (N := 4) ?hd (cs := #[.int .i64 0, .int .i64 0]) (t := 59) ?hr ?_; (case hd => rfl); (case hg => rfl); (case hr => first | (go_simp; done) | (go_simp; rfl)); intro gb119 hg w11 hbox hb; have n0_ := aA.mk (aV (by repeat (first | (with_reducible first | exact HB.out | apply aC | apply pw_below_drewN | apply aD) | exact HB.out)) hb); have n1_ := aA.mk (hbox); have n2_ := aA.mk ((by rw [hg]; exact (aM (by repeat (first | (with_reducible first | exact HB.out | apply aC | apply pw_below_drewN | apply aD) | exact HB.out))) : w.heap.size ≤ gb119)); have n3_ := aA.mk ((by rw [hg]; exact (aM (by repeat (first | (with_reducible first | exact HB.out | apply aC | apply pw_below_drewN | apply aD) | exact HB.out))) : w.heap.size ≤ gb119)); clear HB; have HB := n0_; have BK119 := n1_; have GW119 := n2_; have GE119 := n3_; clear n0_ n1_ n2_ n3_; clear hb hbox hg; have hcz12_0 : w11.cell? ⟨gb119, 0, none⟩ = some (.int .i64 0) := (aE BK119.out 0).trans rfl; have hcz12_1 : w11.cell? ⟨gb119, 1, none⟩ = some (.int .i64 0) := (aE BK119.out 1).trans rfl; have hfz12_0 := blk_frozen BK119.out 0; have hfz12_1 := blk_frozen BK119.out 1) | ((with_reducible refine aZ (f := 75) rfl ?_); refine cH (some 16) rfl rfl Tryz.func75 (by kernel_rfl) rfl #[.agg #[.int .i64 ((bN l0 x11_1).f0), .int .i64 ((bN l0 x11_1).f1)]] rfl (by (try simp only [List.map_toArray, List.map_cons, List.map_nil]); first | done | rfl | (simp only [List.length_drop, List.length_take]; rfl)) ?_; (with_reducible refine (eH.calls ((bN l0 x11_1).f0) ((bN l0 x11_1).f1) t120 _ A6.out).mono ?_); rintro e w13 ⟨rfl, hb⟩; refine ⟨_, rfl, ?_⟩; have n0_ := aA.mk (bD (g := gb119) (o := .cells #[.int .i64 ((bN l0 x11_1).f0), .int .i64 ((bN l0 x11_1).f1)] 59 (0, 0)) (by (with_reducible repeat (first | refine aJ ?_ _ | refine aK ?_ | refine aI ?_ _)); refine cW (cs := #[.int .i64 ((bN l0 x11_1).f0), .int .i64 0]) ?_ 1 _ rfl; (with_reducible repeat (first | refine aJ ?_ _ | refine aK ?_ | refine aI ?_ _)); refine cW (cs := #[.int .i64 0, .int .i64 0]) ?_ 0 _ rfl; (with_reducible repeat (first | refine aJ ?_ _ | refine aK ?_ | refine aI ?_ _)); exact BK119.out) hb); have n1_ := aA.mk (aV (by repeat (first | (with_reducible first | exact HB.out | apply aC | apply pw_below_drewN | apply aD | refine aG ?_ GE119.out) | exact HB.out)) hb); clear BK119; clear HB; have BK119 := n0_; have HB := n1_; clear n0_ n1_; (try clear hb); (try clear hb2); (try clear hk); (try clear hi)))
        go_ret
        exact ⟨by first | rfl | (simp [aN, aQ] <;> rfl) | (simp [*, aN, aQ] <;> rfl), by repeat (first | (with_reducible first | exact HB.out | apply aC | apply pw_below_drewN | apply aD | refine aG ?_ GE119.out) | exact HB.out)⟩
      ·rw [if_neg c5] at H
       exact absurd H (by simp)
     ·rw [if_neg c4] at H
      exact absurd H (by simp)
    ·rw [if_neg c3] at H
     have c3b0 : decide (x11_1 < (l0.length : Int)) = false := decide_eq_false c3
     clear c3
     replace H := Option.bind_eq_some_iff.mp H
     obtain ⟨t121, A140, H⟩ := H
     replace H : ((bC.f k1 t121 l0).bind fun t124 => (if t124 = true then (some 0) else (some 6))) = some r := H
     have A14 := aA.mk A140
     clear A140
     replace H := Option.bind_eq_some_iff.mp H
     obtain ⟨t124, A150, H⟩ := H
     replace H : (if t124 = true then (some 0) else (some 6)) = some r := H
     have A15 := aA.mk A150
     clear A150
     by_cases c16 : t124 = true
     ·subst c16
      have H1 : (some 0) = some r := by rw [if_pos rfl] at H; exact H
      clear H
      have H := H1
      clear H1
      obtain rfl := Option.some.inj H
      go_wp2_with (first | ((with_reducible refine aZ (f := 74) rfl ?_); refine cH (some 22) rfl rfl Tryz.func74 (by kernel_rfl) rfl #[.slice A0 l0.length c0] rfl (by (try simp only [List.map_toArray, List.map_cons, List.map_nil]); first | done | rfl | (simp only [List.length_drop, List.length_take]; rfl)) ?_; (with_reducible refine (dZ.calls _ _ l0 t121 _ ?side1 ?side2 A14.out).mono ?_); (case side1 => repeat (first | exact (Kd.C_below HR0.out HB.out) | (with_reducible refine Kd.C_alloc ?_ _) | (with_reducible refine Kd.C_drewN ?_ _) | (with_reducible refine Kd.C_drew ?_))); (case side2 => exact HC0.out); rintro e w17 ⟨v122, rfl, ho0, hb⟩; refine ⟨_, rfl, ?_⟩; have n0_ := aA.mk (Kd.R_lower ho0 (aM (by repeat (first | (with_reducible first | exact HB.out | apply aC | apply pw_below_drewN | apply aD) | exact HB.out)))); have n1_ := aA.mk (aV (by repeat (first | (with_reducible first | exact HB.out | apply aC | apply pw_below_drewN | apply aD) | exact HB.out)) hb); clear HB; have HO123 := n0_; have HB := n1_; clear n0_ n1_; (try clear hb); (try clear hb2); (try clear hk); (try clear hi); (try clear ho0); obtain ⟨Ao18, co18, eo18⟩ := Kd.R_slice HO123.out; subst eo18) | ((with_reducible refine aZ (f := 76) rfl ?_); refine cH (some 24) rfl rfl Tryz.func76 (by kernel_rfl) rfl #[.slice Ao18 t121.length co18, .slice A0 l0.length c0] rfl (by (try simp only [List.map_toArray, List.map_cons, List.map_nil]); first | done | rfl | (simp only [List.length_drop, List.length_take]; rfl)) ?_; (with_reducible refine (bC.calls k1 _ _ t121 _ _ l0 true _ ?side1 ?side2 ?side3 ?side4 A15.out).mono ?_); (case side1 => repeat (first | exact (Kd.R_reads' HO123.out).2.2 | (with_reducible refine Kd.C_alloc ?_ _) | (with_reducible refine Kd.C_drewN ?_ _) | (with_reducible refine Kd.C_drew ?_))); (case side2 => exact (Kd.R_reads' HO123.out).2.1); (case side3 => repeat (first | exact (Kd.C_below HR0.out HB.out) | (with_reducible refine Kd.C_alloc ?_ _) | (with_reducible refine Kd.C_drewN ?_ _) | (with_reducible refine Kd.C_drew ?_))); (case side4 => exact HC0.out); rintro e w' ⟨rfl, ⟨nd, rfl⟩⟩; refine ⟨_, rfl, ?_⟩))
      go_ret
      exact ⟨by first | rfl | (simp [aN, aQ] <;> rfl) | (simp [*, aN, aQ] <;> rfl), by repeat (first | (with_reducible first | exact HB.out | apply aC | apply pw_below_drewN | apply aD) | exact HB.out)⟩
     ·replace c16 := Bool.eq_false_iff.mpr c16
      subst c16
      have H1 : (some 6) = some r := by rw [if_neg (show ¬ (false = true) by decide)] at H; exact H
      clear H
      have H := H1
      clear H1
      obtain rfl := Option.some.inj H
      go_wp2_with (first | ((with_reducible refine aZ (f := 74) rfl ?_); refine cH (some 22) rfl rfl Tryz.func74 (by kernel_rfl) rfl #[.slice A0 l0.length c0] rfl (by (try simp only [List.map_toArray, List.map_cons, List.map_nil]); first | done | rfl | (simp only [List.length_drop, List.length_take]; rfl)) ?_; (with_reducible refine (dZ.calls _ _ l0 t121 _ ?side1 ?side2 A14.out).mono ?_); (case side1 => repeat (first | exact (Kd.C_below HR0.out HB.out) | (with_reducible refine Kd.C_alloc ?_ _) | (with_reducible refine Kd.C_drewN ?_ _) | (with_reducible refine Kd.C_drew ?_))); (case side2 => exact HC0.out); rintro e w19 ⟨v122, rfl, ho0, hb⟩; refine ⟨_, rfl, ?_⟩; have n0_ := aA.mk (Kd.R_lower ho0 (aM (by repeat (first | (with_reducible first | exact HB.out | apply aC | apply pw_below_drewN | apply aD) | exact HB.out)))); have n1_ := aA.mk (aV (by repeat (first | (with_reducible first | exact HB.out | apply aC | apply pw_below_drewN | apply aD) | exact HB.out)) hb); clear HB; have HO123 := n0_; have HB := n1_; clear n0_ n1_; (try clear hb); (try clear hb2); (try clear hk); (try clear hi); (try clear ho0); obtain ⟨Ao20, co20, eo20⟩ := Kd.R_slice HO123.out; subst eo20) | ((with_reducible refine aZ (f := 76) rfl ?_); refine cH (some 24) rfl rfl Tryz.func76 (by kernel_rfl) rfl #[.slice Ao20 t121.length co20, .slice A0 l0.length c0] rfl (by (try simp only [List.map_toArray, List.map_cons, List.map_nil]); first | done | rfl | (simp only [List.length_drop, List.length_take]; rfl)) ?_; (with_reducible refine (bC.calls k1 _ _ t121 _ _ l0 false _ ?side1 ?side2 ?side3 ?side4 A15.out).mono ?_); (case side1 => repeat (first | exact (Kd.R_reads' HO123.out).2.2 | (with_reducible refine Kd.C_alloc ?_ _) | (with_reducible refine Kd.C_drewN ?_ _) | (with_reducible refine Kd.C_drew ?_))); (case side2 => exact (Kd.R_reads' HO123.out).2.1); (case side3 => repeat (first | exact (Kd.C_below HR0.out HB.out) | (with_reducible refine Kd.C_alloc ?_ _) | (with_reducible refine Kd.C_drewN ?_ _) | (with_reducible refine Kd.C_drew ?_))); (case side4 => exact HC0.out); rintro e w' ⟨rfl, ⟨nd, rfl⟩⟩; refine ⟨_, rfl, ?_⟩))
      go_ret
      exact ⟨by first | rfl | (simp [aN, aQ] <;> rfl) | (simp [*, aN, aQ] <;> rfl), by repeat (first | (with_reducible first | exact HB.out | apply aC | apply pw_below_drewN | apply aD) | exact HB.out)⟩
end Go.Proofs.YtpflmgbpjhbmnaaGreat.B
end
section
namespace Go.Proofs.YtpflmgbpjhbmnaaGreat.B
open Go.RowKit Go.Proofs.YtpflmgbpjhbmnaaGreatW.PrintWords Go.Proofs.YtpflmgbpjhbmnaaGreatW.PrintLast Go.Proofs.YtpflmgbpjhbmnaaGreatW.PrintMore
attribute [local go_sem] Go.Proofs.YtpflmgbpjhbmnaaGreat.str_gtr bZ cA cJ cK bT bU cB cC   -- for this text's walks alone
set_option linter.unusedVariables false
set_option linter.unusedSimpArgs false
def dM.f (a0_0 : Int) (a0_1 : Int) (a1_0 : Int) (a1_1 : Int) : Option (Int × Int) := some (mx a0_0 a1_0, mx a0_1 a1_1)
set_option maxHeartbeats 8000000 in
set_option maxRecDepth 100000 in
theorem dM.calls (a0_0 : Int) (a0_1 : Int) (a1_0 : Int) (a1_1 : Int) (r1 : Int) (r2 : Int) (w : World) (h : dM.f a0_0 a0_1 a1_0 a1_1 = some (r1, r2)) :
  Calls Tryz.prog 101 #[.agg #[.int .i64 a0_0, .int .i64 a0_1], .agg #[.int .i64 a1_0, .int .i64 a1_1]] w fun e w' => e = .returned (.agg #[.int .i64 r1, .int .i64 r2]) ∧ Below w.heap.size w w' := by
 have hu59 := Tryz.underlying59
 have HB := aA.mk (Below.refl w.heap.size w)
 have H : (some (mx a0_0 a1_0, mx a0_1 a1_1)) = some (r1, r2) := h
 clear h
 obtain ⟨ji3, hji3⟩ : ∃ j_ : Int, (mx a0_0 a1_0) = j_ := ⟨_, rfl⟩
 replace H : (some (ji3, mx a0_1 a1_1)) = some (r1, r2) := by first | (rw [hji3] at H; exact H) | (simp only [hji3] at H ⊢; exact H)
 have hji3_ : (if a0_0 < a1_0 then a1_0 else a0_0) = ji3 := hji3
 obtain ⟨ji4, hji4⟩ : ∃ j_ : Int, (mx a0_1 a1_1) = j_ := ⟨_, rfl⟩
 replace H : (some (ji3, ji4)) = some (r1, r2) := by first | (rw [hji4] at H; exact H) | (simp only [hji4] at H ⊢; exact H)
 have hji4_ : (if a0_1 < a1_1 then a1_1 else a0_1) = ji4 := hji4
 simp only [Option.some.injEq, Prod.mk.injEq] at H
 obtain ⟨rfl, rfl⟩ := H
 go_enter Tryz.func101, Tryz.ntmps101
 go_wp2_with (first | ((with_reducible refine bK (N := 2) rfl ?_); refine bG ?hg (N := 2) ?hd (cs := #[.int .i64 a0_0, .int .i64 a0_1]) (t := 59) ?hr ?_; (case hd => rfl); (case hg => rfl); (case hr => first | (go_simp; done) | (go_simp; rfl)); intro gb125 hg w5 hbox hb; have n0_ := aA.mk (aV (by repeat (first | (with_reducible first | exact HB.out | apply aC | apply pw_below_drewN | apply aD) | exact HB.out)) hb); have n1_ := aA.mk (hbox); have n2_ := aA.mk ((by rw [hg]; exact (aM (by repeat (first | (with_reducible first | exact HB.out | apply aC | apply pw_below_drewN | apply aD) | exact HB.out))) : w.heap.size ≤ gb125)); have n3_ := aA.mk ((by rw [hg]; exact (aM (by repeat (first | (with_reducible first | exact HB.out | apply aC | apply pw_below_drewN | apply aD) | exact HB.out))) : w.heap.size ≤ gb125)); clear HB; have HB := n0_; have BK125 := n1_; have GW125 := n2_; have GE125 := n3_; clear n0_ n1_ n2_ n3_; clear hb hbox hg) | ((with_reducible refine bK (N := 3) rfl ?_); refine bG ?hg (N := 3) ?hd (cs := #[.int .i64 a1_0, .int .i64 a1_1]) (t := 59) ?hr ?_; (case hd => rfl); (case hg => rfl); (case hr => first | (go_simp; done) | (go_simp; rfl)); intro gb126 hg w6 hbox hb; have n0_ := aA.mk (bD (g := gb125) (o := .cells #[.int .i64 a0_0, .int .i64 a0_1] 59 (0, 0)) (by (with_reducible repeat (first | refine aJ ?_ _ | refine aK ?_ | refine aI ?_ _)); exact BK125.out) hb); have n1_ := aA.mk (aV (by repeat (first | (with_reducible first | exact HB.out | apply aC | apply pw_below_drewN | apply aD | refine aG ?_ GE125.out) | exact HB.out)) hb); have n2_ := aA.mk (hbox); have n3_ := aA.mk ((by rw [hg]; exact (aM (by repeat (first | (with_reducible first | exact HB.out | apply aC | apply pw_below_drewN | apply aD | refine aG ?_ GE125.out) | exact HB.out))) : w.heap.size ≤ gb126)); have n4_ := aA.mk ((by rw [hg]; exact (aM (by repeat (first | (with_reducible first | exact HB.out | apply aC | apply pw_below_drewN | apply aD | refine aG ?_ GE125.out) | exact HB.out))) : w.heap.size ≤ gb126)); have n5_ := aA.mk ((by rw [hg]; exact Nat.ne_of_lt (blk_lt (g := gb125) (o := .cells #[.int .i64 a0_0, .int .i64 a0_1] 59 (0, 0)) (by (with_reducible repeat (first | refine aJ ?_ _ | refine aK ?_ | refine aI ?_ _)); exact BK125.out)) : gb125 ≠ gb126)); have n6_ := aA.mk ((by rw [hg]; exact Nat.ne_of_gt (blk_lt (g := gb125) (o := .cells #[.int .i64 a0_0, .int .i64 a0_1] 59 (0, 0)) (by (with_reducible repeat (first | refine aJ ?_ _ | refine aK ?_ | refine aI ?_ _)); exact BK125.out)) : gb126 ≠ gb125)); clear BK125; clear HB; have BK125 := n0_; have HB := n1_; have BK126 := n2_; have GW126 := n3_; have GE126 := n4_; have NB125_126 := n5_; have NB126_125 := n6_; clear n0_ n1_ n2_ n3_ n4_ n5_ n6_; clear hb hbox hg) | ((with_reducible refine bK (N := 4) rfl ?_); refine bG ?hg (N := 4) ?hd (cs := #[.int .i64 0, .int .i64 0]) (t := 59) ?hr ?_; (case hd => rfl); (case hg => rfl); (case hr => first | (go_simp; done) | (go_simp; rfl)); intro gb127 hg w7 hbox hb; have n0_ := aA.mk (bD (g := gb125) (o := .cells #[.int .i64 a0_0, .int .i64 a0_1] 59 (0, 0)) (by (with_reducible repeat (first | refine aJ ?_ _ | refine aK ?_ | refine aI ?_ _)); exact BK125.out) hb); have n1_ := aA.mk (bD (g := gb126) (o := .cells #[.int .i64 a1_0, .int .i64 a1_1] 59 (0, 0)) (by (with_reducible repeat (first | refine aJ ?_ _ | refine aK ?_ | refine aI ?_ _)); exact BK126.out) hb); have n2_ := aA.mk (aV (by repeat (first | (with_reducible first | exact HB.out | apply aC | apply pw_below_drewN | apply aD | refine aG ?_ GE125.out | refine aG ?_ GE126.out) | exact HB.out)) hb); have n3_ := aA.mk (hbox); have n4_ := aA.mk ((by rw [hg]; exact (aM (by repeat (first | (with_reducible first | exact HB.out | apply aC | apply pw_below_drewN | apply aD | refine aG ?_ GE125.out | refine aG ?_ GE126.out) | exact HB.out))) : w.heap.size ≤ gb127)); have n5_ := aA.mk ((by rw [hg]; exact (aM (by repeat (first | (with_reducible first | exact HB.out | apply aC | apply pw_below_drewN | apply aD | refine aG ?_ GE125.out | refine aG ?_ GE126.out) | exact HB.out))) : w.heap.size ≤ gb127)); have n6_ := aA.mk ((by rw [hg]; exact Nat.ne_of_lt (blk_lt (g := gb125) (o := .cells #[.int .i64 a0_0, .int .i64 a0_1] 59 (0, 0)) (by (with_reducible repeat (first | refine aJ ?_ _ | refine aK ?_ | refine aI ?_ _)); exact BK125.out)) : gb125 ≠ gb127)); have n7_ := aA.mk ((by rw [hg]; exact Nat.ne_of_gt (blk_lt (g := gb125) (o := .cells #[.int .i64 a0_0, .int .i64 a0_1] 59 (0, 0)) (by (with_reducible repeat (first | refine aJ ?_ _ | refine aK ?_ | refine aI ?_ _)); exact BK125.out)) : gb127 ≠ gb125)); have n8_ := aA.mk ((by rw [hg]; exact Nat.ne_of_lt (blk_lt (g := gb126) (o := .cells #[.int .i64 a1_0, .int .i64 a1_1] 59 (0, 0)) (by (with_reducible repeat (first | refine aJ ?_ _ | refine aK ?_ | refine aI ?_ _)); exact BK126.out)) : gb126 ≠ gb127)); have n9_ := aA.mk ((by rw [hg]; exact Nat.ne_of_gt (blk_lt (g := gb126) (o := .cells #[.int .i64 a1_0, .int .i64 a1_1] 59 (0, 0)) (by (with_reducible repeat (first | refine aJ ?_ _ | refine aK ?_ | refine aI ?_ _)); exact BK126.out)) : gb127 ≠ gb126)); clear BK125; clear BK126; clear HB; have BK125 := n0_; have BK126 := n1_; have HB := n2_; have BK127 := n3_; have GW127 := n4_; have GE127 := n5_; have NB125_127 := n6_; have NB127_125 := n7_; have NB126_127 := n8_; have NB127_126 := n9_; clear n0_ n1_ n2_ n3_ n4_ n5_ n6_ n7_ n8_ n9_; clear hb hbox hg; have hnb8 := NB125_126.out; have hnc8 := NB126_125.out; have hnb9 := NB125_127.out; have hnc9 := NB127_125.out; have hcz10_0 : w7.cell? ⟨gb125, 0, none⟩ = some (.int .i64 a0_0) := (aE BK125.out 0).trans rfl; have hcz10_1 : w7.cell? ⟨gb125, 1, none⟩ = some (.int .i64 a0_1) := (aE BK125.out 1).trans rfl; have hfz10_0 := blk_frozen BK125.out 0; have hfz10_1 := blk_frozen BK125.out 1; have hnb11 := NB126_127.out; have hnc11 := NB127_126.out; have hcz12_0 : w7.cell? ⟨gb126, 0, none⟩ = some (.int .i64 a1_0) := (aE BK126.out 0).trans rfl; have hcz12_1 : w7.cell? ⟨gb126, 1, none⟩ = some (.int .i64 a1_1) := (aE BK126.out 1).trans rfl; have hfz12_0 := blk_frozen BK126.out 0; have hfz12_1 := blk_frozen BK126.out 1; have hcz13_0 : w7.cell? ⟨gb127, 0, none⟩ = some (.int .i64 0) := (aE BK127.out 0).trans rfl; have hcz13_1 : w7.cell? ⟨gb127, 1, none⟩ = some (.int .i64 0) := (aE BK127.out 1).trans rfl; have hfz13_0 := blk_frozen BK127.out 0; have hfz13_1 := blk_frozen BK127.out 1))
 refine bodyPost_ret (results_cell_row rfl _ _ gb127 59 #[.int .i64 ji3, .int .i64 ji4] (0, 0) _ rfl (by (with_reducible repeat (first | refine aJ ?_ _ | refine aK ?_ | refine aI ?_ _)); refine cW (cs := #[.int .i64 ji3, .int .i64 0]) ?_ 1 _ rfl; (with_reducible repeat (first | refine aJ ?_ _ | refine aK ?_ | refine aI ?_ _)); refine cW (cs := #[.int .i64 0, .int .i64 0]) ?_ 0 _ rfl; (with_reducible repeat (first | refine aJ ?_ _ | refine aK ?_ | refine aI ?_ _)); exact BK127.out) Tryz.underlying59 rfl (by kernel_rfl)) rfl ?_
 exact ⟨by first | rfl | (simp [aN, aQ] <;> rfl) | (simp only [← hji3, ← hji4]; first | rfl | (simp [aN, aQ] <;> rfl)) | (simp [*, aN, aQ] <;> rfl), by repeat (first | (with_reducible first | exact HB.out | apply aC | apply pw_below_drewN | apply aD | refine aG ?_ GE125.out | refine aG ?_ GE126.out | refine aG ?_ GE127.out) | exact HB.out)⟩
end Go.Proofs.YtpflmgbpjhbmnaaGreat.B
end
section
namespace Go.Proofs.YtpflmgbpjhbmnaaGreat.B
open Go.RowKit Go.Proofs.YtpflmgbpjhbmnaaGreatW.PrintWords Go.Proofs.YtpflmgbpjhbmnaaGreatW.PrintLast Go.Proofs.YtpflmgbpjhbmnaaGreatW.PrintMore
attribute [local go_sem] Go.Proofs.YtpflmgbpjhbmnaaGreat.str_gtr bZ cA cJ cK bT bU cB cC   -- for this text's walks alone
set_option linter.unusedVariables false
set_option linter.unusedSimpArgs false
def eO.f (a0_0 : Int) (a0_1 : Int) (a1_0 : Int) (a1_1 : Int) : Option (Int × Int) := some (mn a0_0 a1_0, mn a0_1 a1_1)
set_option maxHeartbeats 8000000 in
set_option maxRecDepth 100000 in
theorem eO.calls (a0_0 : Int) (a0_1 : Int) (a1_0 : Int) (a1_1 : Int) (r1 : Int) (r2 : Int) (w : World) (h : eO.f a0_0 a0_1 a1_0 a1_1 = some (r1, r2)) :
  Calls Tryz.prog 102 #[.agg #[.int .i64 a0_0, .int .i64 a0_1], .agg #[.int .i64 a1_0, .int .i64 a1_1]] w fun e w' => e = .returned (.agg #[.int .i64 r1, .int .i64 r2]) ∧ Below w.heap.size w w' := by
 have hu59 := Tryz.underlying59
 have HB := aA.mk (Below.refl w.heap.size w)
 have H : (some (mn a0_0 a1_0, mn a0_1 a1_1)) = some (r1, r2) := h
 clear h
 obtain ⟨ji3, hji3⟩ : ∃ j_ : Int, (mn a0_0 a1_0) = j_ := ⟨_, rfl⟩
 replace H : (some (ji3, mn a0_1 a1_1)) = some (r1, r2) := by first | (rw [hji3] at H; exact H) | (simp only [hji3] at H ⊢; exact H)
 have hji3_ : (if a1_0 < a0_0 then a1_0 else a0_0) = ji3 := hji3
 obtain ⟨ji4, hji4⟩ : ∃ j_ : Int, (mn a0_1 a1_1) = j_ := ⟨_, rfl⟩
 replace H : (some (ji3, ji4)) = some (r1, r2) := by first | (rw [hji4] at H; exact H) | (simp only [hji4] at H ⊢; exact H)
 have hji4_ : (if a1_1 < a0_1 then a1_1 else a0_1) = ji4 := hji4
 simp only [Option.some.injEq, Prod.mk.injEq] at H
 obtain ⟨rfl, rfl⟩ := H
 go_enter Tryz.func102, Tryz.ntmps102
 go_wp2_with (first | ((with_reducible refine bK (N := 2) rfl ?_); refine bG ?hg (N := 2) ?hd (cs := #[.int .i64 a0_0, .int .i64 a0_1]) (t := 59) ?hr ?_; (case hd => rfl); (case hg => rfl); (case hr => first | (go_simp; done) | (go_simp; rfl)); intro gb128 hg w5 hbox hb; have n0_ := aA.mk (aV (by repeat (first | (with_reducible first | exact HB.out | apply aC | apply pw_below_drewN | apply aD) | exact HB.out)) hb); have n1_ := aA.mk (hbox); have n2_ := aA.mk ((by rw [hg]; exact (aM (by repeat (first | (with_reducible first | exact HB.out | apply aC | apply pw_below_drewN | apply aD) | exact HB.out))) : w.heap.size ≤ gb128)); have n3_ := aA.mk ((by rw [hg]; exact (aM (by repeat (first | (with_reducible first | exact HB.out | apply aC | apply pw_below_drewN | apply aD) | exact HB.out))) : w.heap.size ≤ gb128)); clear HB; have HB := n0_; have BK128 := n1_; have GW128 := n2_; have GE128 := n3_; clear n0_ n1_ n2_ n3_; clear hb hbox hg) | ((with_reducible refine bK (N := 3) rfl ?_); refine bG ?hg (N := 3) ?hd (cs := #[.int .i64 a1_0, .int .i64 a1_1]) (t := 59) ?hr ?_; (case hd => rfl); (case hg => rfl); (case hr => first | (go_simp; done) | (go_simp; rfl)); intro gb129 hg w6 hbox hb; have n0_ := aA.mk (bD (g := gb128) (o := .cells #[.int .i64 a0_0, .int .i64 a0_1] 59 (0, 0)) (by (with_reducible repeat (first | refine aJ ?_ _ | refine aK ?_ | refine aI ?_ _)); exact BK128.out) hb); have n1_ := aA.mk (aV (by repeat (first | (with_reducible first | exact HB.out | apply aC | apply pw_below_drewN | apply aD | refine aG ?_ GE128.out) | exact HB.out)) hb); have n2_ := aA.mk (hbox); have n3_ := aA.mk ((by rw [hg]; exact (aM (by repeat (first | (with_reducible first | exact HB.out | apply aC | apply pw_below_drewN | apply aD | refine aG ?_ GE128.out) | exact HB.out))) : w.heap.size ≤ gb129)); have n4_ := aA.mk ((by rw [hg]; exact (aM (by repeat (first | (with_reducible first | exact HB.out | apply aC | apply pw_below_drewN | apply aD | refine aG ?_ GE128.out) | exact HB.out))) : w.heap.size ≤ gb129)); have n5_ := aA.mk ((by rw [hg]; exact Nat.ne_of_lt (blk_lt (g := gb128) (o := .cells #[.int .i64 a0_0, .int .i64 a0_1] 59 (0, 0)) (by (with_reducible repeat (first | refine aJ ?_ _ | refine aK ?_ | refine aI ?_ _)); exact BK128.out)) : gb128 ≠ gb129)); have n6_ := aA.mk ((by rw [hg]; exact Nat.ne_of_gt (blk_lt (g := gb128) (o := .cells #[.int .i64 a0_0, .int .i64 a0_1] 59 (0, 0)) (by (with_reducible repeat (first | refine aJ ?_ _ | refine aK ?_ | refine aI ?_ _)); exact BK128.out)) : gb129 ≠ gb128)); clear BK128; clear HB; have BK128 := n0_; have HB := n1_; have BK129 := n2_; have GW129 := n3_; have GE129 := n4_; have NB128_129 := n5_; have NB129_128 := n6_; clear n0_ n1_ n2_ n3_ n4_ n5_ n6_; clear hb hbox hg) | ((with_reducible refine bK (N := 4) rfl ?_); refine bG ?hg (N := 4) ?hd (cs := #[.int .i64 0, .int .i64 0]) (t := 59) ?hr ?_; (case hd => rfl); (case hg => rfl); (case hr => first | (go_simp; done) | (go_simp; rfl)); intro gb130 hg w7 hbox hb; have n0_ := aA.mk (bD (g := gb128) (o := .cells #[.int .i64 a0_0, .int .i64 a0_1] 59 (0, 0)) (by (with_reducible repeat (first | refine aJ ?_ _ | refine aK ?_ | refine aI ?_ _)); exact BK128.out) hb); have n1_ := aA.mk (bD (g := gb129) (o := .cells #[.int .i64 a1_0, .int .i64 a1_1] 59 (0, 0)) (by (with_reducible repeat (first | refine aJ ?_ _ | refine aK ?_ | refine aI ?_ _)); exact BK129.out) hb); have n2_ := aA.mk (aV (by repeat (first | (with_reducible first | exact HB.out | apply aC | apply pw_below_drewN | apply aD | refine aG ?_ GE128.out | refine aG ?_ GE129.out) | exact HB.out)) hb); have n3_ := aA.mk (hbox); have n4_ := aA.mk ((by rw [hg]; exact (aM (by repeat (first | (with_reducible first | exact HB.out | apply aC | apply pw_below_drewN | apply aD | refine aG ?_ GE128.out | refine aG ?_ GE129.out) | exact HB.out))) : w.heap.size ≤ gb130)); have n5_ := aA.mk ((by rw [hg]; exact (aM (by repeat (first | (with_reducible first | exact HB.out | apply aC | apply pw_below_drewN | apply aD | refine aG ?_ GE128.out | refine aG ?_ GE129.out) | exact HB.out))) : w.heap.size ≤ gb130)); have n6_ := aA.mk ((by rw [hg]; exact Nat.ne_of_lt (blk_lt (g := gb128) (o := .cells #[.int .i64 a0_0, .int .i64 a0_1] 59 (0, 0)) (by (with_reducible repeat (first | refine aJ ?_ _ | refine aK ?_ | refine aI ?_ _)); exact BK128.out)) : gb128 ≠ gb130)); have n7_ := aA.mk ((by rw [hg]; exact Nat.ne_of_gt (blk_lt (g := gb128) (o := .cells #[.int .i64 a0_0, .int .i64 a0_1] 59 (0, 0)) (by (with_reducible repeat (first | refine aJ ?_ _ | refine aK ?_ | refine aI ?_ _)); exact BK128.out)) : gb130 ≠ gb128)); have n8_ := aA.mk ((by rw [hg]; exact Nat.ne_of_lt (blk_lt (g := gb129) (o := .cells #[.int .i64 a1_0, .int .i64 a1_1] 59 (0, 0)) (by (with_reducible repeat (first | refine aJ ?_ _ | refine aK ?_ | refine aI ?_ _)); exact BK129.out)) : gb129 ≠ gb130)); have n9_ := aA.mk ((by rw [hg]; exact Nat.ne_of_gt (blk_lt (g := gb129) (o := .cells #[.int .i64 a1_0, .int .i64 a1_1] 59 (0, 0)) (by (with_reducible repeat (first | refine aJ ?_ _ | refine aK ?_ | refine aI ?_ _)); exact BK129.out)) : gb130 ≠ gb129)); clear BK128; clear BK129; clear HB; have BK128 := n0_; have BK129 := n1_; have HB := n2_; have BK130 := n3_; have GW130 := n4_; have GE130 := n5_; have NB128_130 := n6_; have NB130_128 := n7_; have NB129_130 := n8_; have NB130_129 := n9_; clear n0_ n1_ n2_ n3_ n4_ n5_ n6_ n7_ n8_ n9_; clear hb hbox hg; have hnb8 := NB128_129.out; have hnc8 := NB129_128.out; have hnb9 := NB128_130.out; have hnc9 := NB130_128.out; have hcz10_0 : w7.cell? ⟨gb128, 0, none⟩ = some (.int .i64 a0_0) := (aE BK128.out 0).trans rfl; have hcz10_1 : w7.cell? ⟨gb128, 1, none⟩ = some (.int .i64 a0_1) := (aE BK128.out 1).trans rfl; have hfz10_0 := blk_frozen BK128.out 0; have hfz10_1 := blk_frozen BK128.out 1; have hnb11 := NB129_130.out; have hnc11 := NB130_129.out; have hcz12_0 : w7.cell? ⟨gb129, 0, none⟩ = some (.int .i64 a1_0) := (aE BK129.out 0).trans rfl; have hcz12_1 : w7.cell? ⟨gb129, 1, none⟩ = some (.int .i64 a1_1) := (aE BK129.out 1).trans rfl; have hfz12_0 := blk_frozen BK129.out 0; have hfz12_1 := blk_frozen BK129.out 1; have hcz13_0 : w7.cell? ⟨gb130, 0, none⟩ = some (.int .i64 0) := (aE BK130.out 0).trans rfl; have hcz13_1 : w7.cell? ⟨gb130, 1, none⟩ = some (.int .i64 0) := (aE BK130.out 1).trans rfl; have hfz13_0 := blk_frozen BK130.out 0; have hfz13_1 := blk_frozen BK130.out 1))
 refine bodyPost_ret (results_cell_row rfl _ _ gb130 59 #[.int .i64 ji3, .int .i64 ji4] (0, 0) _ rfl (by (with_reducible repeat (first | refine aJ ?_ _ | refine aK ?_ | refine aI ?_ _)); refine cW (cs := #[.int .i64 ji3, .int .i64 0]) ?_ 1 _ rfl; (with_reducible repeat (first | refine aJ ?_ _ | refine aK ?_ | refine aI ?_ _)); refine cW (cs := #[.int .i64 0, .int .i64 0]) ?_ 0 _ rfl; (with_reducible repeat (first | refine aJ ?_ _ | refine aK ?_ | refine aI ?_ _)); exact BK130.out) Tryz.underlying59 rfl (by kernel_rfl)) rfl ?_
 exact ⟨by first | rfl | (simp [aN, aQ] <;> rfl) | (simp only [← hji3, ← hji4]; first | rfl | (simp [aN, aQ] <;> rfl)) | (simp [*, aN, aQ] <;> rfl), by repeat (first | (with_reducible first | exact HB.out | apply aC | apply pw_below_drewN | apply aD | refine aG ?_ GE128.out | refine aG ?_ GE129.out | refine aG ?_ GE130.out) | exact HB.out)⟩
end Go.Proofs.YtpflmgbpjhbmnaaGreat.B
end
section
namespace Go.Proofs.YtpflmgbpjhbmnaaGreat.B
open Go.RowKit Go.Proofs.YtpflmgbpjhbmnaaGreatW.PrintWords Go.Proofs.YtpflmgbpjhbmnaaGreatW.PrintLast Go.Proofs.YtpflmgbpjhbmnaaGreatW.PrintMore
attribute [local go_sem] Go.Proofs.YtpflmgbpjhbmnaaGreat.str_gtr bZ cA cJ cK bT bU cB cC   -- for this text's walks alone
set_option linter.unusedVariables false
set_option linter.unusedSimpArgs false
def cE.l0 : Nat → List (S59) → Int → Int → Int → Int → Int → Int → Option (Int × Int)
 | 0, _, _, _, _, _, _, _ => none
 | k + 1, x18, x19, x20, x132000, x132001, x137000, x137001 => if x20 < x19 then (if 0 ≤ x20 then (if x20 < (x18.length : Int) then ((dM.f x132000 x132001 ((bN x18 x20).f0) ((bN x18 x20).f1)).bind fun bt143 => ((eO.f x137000 x137001 bt143.1 bt143.2).bind fun bt145 => (cE.l0 k x18 x19 (wrap64 (x20 + 1)) x132000 x132001 bt145.1 bt145.2))) else (none)) else (none)) else (some (x137000, x137001))
def cE.f (k : Nat) (l0 : List (S59)) (a1_0 : Int) (a1_1 : Int) : Option (Int × Int) := if (l0.length : Int) = 0 then (some (0, 0)) else (if 0 < (l0.length : Int) then ((dM.f a1_0 a1_1 ((bN l0 0).f0) ((bN l0 0).f1)).bind fun bt134 => (if 1 ≤ (l0.length : Int) then ((some (l0.drop 1 : List (S59))).bind fun y137 => (cE.l0 k y137 (y137.length : Int) 0 a1_0 a1_1 bt134.1 bt134.2)) else (none))) else (none))
theorem cE.mono_l : ∀ k, (∀ y0 y1 y2 y3 y4 y5 y6, LeO (cE.l0 k y0 y1 y2 y3 y4 y5 y6) (cE.l0 (k + 1) y0 y1 y2 y3 y4 y5 y6))
 | 0 => fun _ _ _ _ _ _ _ r h => by simp [cE.l0] at h
 | k + 1 => by
  have ih0 := cE.mono_l k
  ·intro y0 y1 y2 y3 y4 y5 y6
   unfold cE.l0
   repeat' first
   | (with_reducible exact ih0 _ _ _ _ _ _ _)
   | (with_reducible exact LeO.refl _)
   | (with_reducible exact LeO.none _)
   | (with_reducible refine LeO.ite ?_ ?_)
   | (with_reducible refine LeO.bind ?_ (fun _ => ?_))
   | exact ih0 _ _ _ _ _ _ _
   | exact LeO.none _
   | refine LeO.ite ?_ ?_
   | refine LeO.bind ?_ (fun _ => ?_)
theorem cE.mono : ∀ a0 a1 a2 k, LeO (cE.f k a0 a1 a2) (cE.f (k + 1) a0 a1 a2) := by
 intro a0 a1 a2 k
 have ih0 := cE.mono_l k
 unfold cE.f
 repeat' first
   | (with_reducible exact ih0 _ _ _ _ _ _ _)
   | (with_reducible exact LeO.refl _)
   | (with_reducible exact LeO.none _)
   | (with_reducible refine LeO.ite ?_ ?_)
   | (with_reducible refine LeO.bind ?_ (fun _ => ?_))
   | exact ih0 _ _ _ _ _ _ _
   | exact LeO.none _
   | refine LeO.ite ?_ ?_
   | refine LeO.bind ?_ (fun _ => ?_)
set_option maxHeartbeats 8000000 in
set_option maxRecDepth 100000 in
theorem cE.calls (k : Nat) (A0 : Option Addr) (c0 : Nat) (l0 : List (S59)) (a1_0 : Int) (a1_1 : Int) (r1 : Int) (r2 : Int) (w : World) (hr0 : Kd.C k59 w A0 l0.length l0) (hc0 : l0.length ≤ c0) (h : cE.f k l0 a1_0 a1_1 = some (r1, r2)) :
  Calls Tryz.prog 77 #[.slice A0 l0.length c0, .agg #[.int .i64 a1_0, .int .i64 a1_1]] w fun e w' => e = .returned (.agg #[.int .i64 r1, .int .i64 r2]) ∧ Below w.heap.size w w' := by
 have hu59 := Tryz.underlying59
 have HR0 := aA.mk hr0
 have HC0 := aA.mk hc0
 clear hr0 hc0
 have HB := aA.mk (Below.refl w.heap.size w)
 have H : (if (l0.length : Int) = 0 then (some (0, 0)) else (if 0 < (l0.length : Int) then ((dM.f a1_0 a1_1 ((bN l0 0).f0) ((bN l0 0).f1)).bind fun bt134 => (if 1 ≤ (l0.length : Int) then ((some (l0.drop 1 : List (S59))).bind fun y137 => (cE.l0 k y137 (y137.length : Int) 0 a1_0 a1_1 bt134.1 bt134.2)) else (none))) else (none))) = some (r1, r2) := h
 clear h
 by_cases c3 : (l0.length : Int) = 0
 ·rw [if_pos c3] at H
  have c3b0 : ((l0.length : Int) == 0) = true := beq_iff_eq.mpr c3
  have c3b1 : ((l0.length : Int) != 0) = false := bne_eq_false_iff_eq.mpr c3
  clear c3
  simp only [Option.some.injEq, Prod.mk.injEq] at H
  obtain ⟨rfl, rfl⟩ := H
  go_enter Tryz.func77, Tryz.ntmps77
  go_wp2_with (first | ((with_reducible refine bK (N := 3) rfl ?_); refine bG ?hg (N := 3) ?hd (cs := #[.int .i64 a1_0, .int .i64 a1_1]) (t := 59) ?hr ?_; (case hd => rfl); (case hg => rfl); (case hr => first | (go_simp; done) | (go_simp; rfl)); intro gb131 hg w4 hbox hb; have n0_ := aA.mk (aV (by repeat (first | (with_reducible first | exact HB.out | apply aC | apply pw_below_drewN | apply aD) | exact HB.out)) hb); have n1_ := aA.mk (hbox); have n2_ := aA.mk ((by rw [hg]; exact (aM (by repeat (first | (with_reducible first | exact HB.out | apply aC | apply pw_below_drewN | apply aD) | exact HB.out))) : w.heap.size ≤ gb131)); have n3_ := aA.mk ((by rw [hg]; exact (aM (by repeat (first | (with_reducible first | exact HB.out | apply aC | apply pw_below_drewN | apply aD) | exact HB.out))) : w.heap.size ≤ gb131)); clear HB; have HB := n0_; have BK131 := n1_; have GW131 := n2_; have GE131 := n3_; clear n0_ n1_ n2_ n3_; clear hb hbox hg) | ((with_reducible refine bK (N := 4) rfl ?_); refine bG ?hg (N := 4) ?hd (cs := #[.int .i64 0, .int .i64 0]) (t := 59) ?hr ?_; (case hd => rfl); (case hg => rfl); (case hr => first | (go_simp; done) | (go_simp; rfl)); intro gb132 hg w5 hbox hb; have n0_ := aA.mk (bD (g := gb131) (o := .cells #[.int .i64 a1_0, .int .i64 a1_1] 59 (0, 0)) (by (with_reducible repeat (first | refine aJ ?_ _ | refine aK ?_ | refine aI ?_ _)); exact BK131.out) hb); have n1_ := aA.mk (aV (by repeat (first | (with_reducible first | exact HB.out | apply aC | apply pw_below_drewN | apply aD | refine aG ?_ GE131.out) | exact HB.out)) hb); have n2_ := aA.mk (hbox); have n3_ := aA.mk ((by rw [hg]; exact (aM (by repeat (first | (with_reducible first | exact HB.out | apply aC | apply pw_below_drewN | apply aD | refine aG ?_ GE131.out) | exact HB.out))) : w.heap.size ≤ gb132)); have n4_ := aA.mk ((by rw [hg]; exact (aM (by repeat (first | (with_reducible first | exact HB.out | apply aC | apply pw_below_drewN | apply aD | refine aG ?_ GE131.out) | exact HB.out))) : w.heap.size ≤ gb132)); have n5_ := aA.mk ((by rw [hg]; exact Nat.ne_of_lt (blk_lt (g := gb131) (o := .cells #[.int .i64 a1_0, .int .i64 a1_1] 59 (0, 0)) (by (with_reducible repeat (first | refine aJ ?_ _ | refine aK ?_ | refine aI ?_ _)); exact BK131.out)) : gb131 ≠ gb132)); have n6_ := aA.mk ((by rw [hg]; exact Nat.ne_of_gt (blk_lt (g := gb131) (o := .cells #[.int .i64 a1_0, .int .i64 a1_1] 59 (0, 0)) (by (with_reducible repeat (first | refine aJ ?_ _ | refine aK ?_ | refine aI ?_ _)); exact BK131.out)) : gb132 ≠ gb131)); clear BK131; clear HB; have BK131 := n0_; have HB := n1_; have BK132 := n2_; have GW132 := n3_; have GE132 := n4_; have NB131_132 := n5_; have NB132_131 := n6_; clear n0_ n1_ n2_ n3_ n4_ n5_ n6_; clear hb hbox hg; have hnb6 := NB132_131.out; have hnc6 := NB131_132.out; have hcz7_0 : w5.cell? ⟨gb132, 0, none⟩ = some (.int .i64 0) := (aE BK132.out 0).trans rfl; have hcz7_1 : w5.cell? ⟨gb132, 1, none⟩ = some (.int .i64 0) := (aE BK132.out 1).trans rfl; have hfz7_0 := blk_frozen BK132.out 0; have hfz7_1 := blk_frozen BK132.out 1))
  refine bodyPost_ret (results_cell_row rfl _ _ gb132 59 #[.int .i64 0, .int .i64 0] (0, 0) _ rfl (by (with_reducible repeat (first | refine aJ ?_ _ | refine aK ?_ | refine aI ?_ _)); refine cW (cs := #[.int .i64 0, .int .i64 0]) ?_ 1 _ rfl; (with_reducible repeat (first | refine aJ ?_ _ | refine aK ?_ | refine aI ?_ _)); refine cW (cs := #[.int .i64 0, .int .i64 0]) ?_ 0 _ rfl; (with_reducible repeat (first | refine aJ ?_ _ | refine aK ?_ | refine aI ?_ _)); exact BK132.out) Tryz.underlying59 rfl (by kernel_rfl)) rfl ?_
  exact ⟨by first | rfl | (simp [aN, aQ] <;> rfl) | (simp [*, aN, aQ] <;> rfl), by repeat (first | (with_reducible first | exact HB.out | apply aC | apply pw_below_drewN | apply aD | refine aG ?_ GE131.out | refine aG ?_ GE132.out) | exact HB.out)⟩
 ·rw [if_neg c3] at H
  have c3b0 : ((l0.length : Int) == 0) = false := beq_eq_false_iff_ne.mpr c3
  have c3b1 : ((l0.length : Int) != 0) = true := bne_iff_ne.mpr c3
  have c3b2 : ¬ (l0 = []) := fun h_ => c3 (by rw [h_]; rfl)
  by_cases c8 : 0 < (l0.length : Int)
  ·rw [if_pos c8] at H
   have c8b0 : decide (0 < (l0.length : Int)) = true := decide_eq_true c8
   have c8b1 : decide (0 < l0.length) = true := decide_eq_true (by omega)
   clear c8
   replace H := Option.bind_eq_some_iff.mp H
   obtain ⟨⟨t134, t135⟩, A90, H⟩ := H
   replace H : (if 1 ≤ (l0.length : Int) then ((some (l0.drop 1 : List (S59))).bind fun y137 => (cE.l0 k y137 (y137.length : Int) 0 a1_0 a1_1 t134 t135)) else (none)) = some (r1, r2) := H
   have A9 := aA.mk A90
   clear A90
   by_cases c10 : 1 ≤ (l0.length : Int)
   ·rw [if_pos c10] at H
    have c10b0 := eq_true c10
    have c10b1 : decide (1 ≤ (l0.length : Int)) = true := decide_eq_true c10
    clear c10
    obtain ⟨y137, hy137⟩ : ∃ y_ : List (S59), y_ = (l0.drop 1) := ⟨_, rfl⟩
    replace H : (cE.l0 k y137 (y137.length : Int) 0 a1_0 a1_1 t134 t135) = some (r1, r2) := by first | (rw [hy137]; with_reducible exact H) | (have H2_ := (Option.bind_some _ _).symm.trans H; rw [hy137]; with_reducible exact H2_) | (have H2_ := (Option.bind_some _ _).symm.trans H; with_reducible exact H2_) | with_reducible exact H | (rw [hy137]; exact H) | exact H
    have Ny137 := aA.mk hy137
    clear hy137
    have H' := aA.mk H
    clear H
    go_enter Tryz.func77, Tryz.ntmps77
    try go_wp2_with (first | ((with_reducible refine bK (N := 3) rfl ?_); refine bG ?hg (N := 3) ?hd (cs := #[.int .i64 a1_0, .int .i64 a1_1]) (t := 59) ?hr ?_; (case hd => rfl); (case hg => rfl); (case hr => first | (go_simp; done) | (go_simp; rfl)); intro gb131 hg w11 hbox hb; have n0_ := aA.mk (aV (by repeat (first | (with_reducible first | exact HB.out | apply aC | apply pw_below_drewN | apply aD) | exact HB.out)) hb); have n1_ := aA.mk (hbox); have n2_ := aA.mk ((by rw [hg]; exact (aM (by repeat (first | (with_reducible first | exact HB.out | apply aC | apply pw_below_drewN | apply aD) | exact HB.out))) : w.heap.size ≤ gb131)); have n3_ := aA.mk ((by rw [hg]; exact (aM (by repeat (first | (with_reducible first | exact HB.out | apply aC | apply pw_below_drewN | apply aD) | exact HB.out))) : w.heap.size ≤ gb131)); clear HB; have HB := n0_; have BK131 := n1_; have GW131 := n2_; have GE131 := n3_; clear n0_ n1_ n2_ n3_; clear hb hbox hg) | ((with_reducible refine bK (N := 4) rfl ?_); refine bG ?hg (N := 4) ?hd (cs := #[.int .i64 0, .int .i64 0]) (t := 59) ?hr ?_; (case hd => rfl); (case hg => rfl); (case hr => first | (go_simp; done) | (go_simp; rfl)); intro gb132 hg w12 hbox hb; have n0_ := aA.mk (bD (g := gb131) (o := .cells #[.int .i64 a1_0, .int .i64 a1_1] 59 (0, 0)) (by (with_reducible repeat (first | refine aJ ?_ _ | refine aK ?_ | refine aI ?_ _)); exact BK131.out) hb); have n1_ := aA.mk (aV (by repeat (first | (with_reducible first | exact HB.out | apply aC | apply pw_below_drewN | apply aD | refine aG ?_ GE131.out) | exact HB.out)) hb); have n2_ := aA.mk (hbox); have n3_ := aA.mk ((by rw [hg]; exact (aM (by repeat (first | (with_reducible first | exact HB.out | apply aC | apply pw_below_drewN | apply aD | refine aG ?_ GE131.out) | exact HB.out))) : w.heap.size ≤ gb132)); have n4_ := aA.mk ((by rw [hg]; exact (aM (by repeat (first | (with_reducible first | exact HB.out | apply aC | apply pw_below_drewN | apply aD | refine aG ?_ GE131.out) | exact HB.out))) : w.heap.size ≤ gb132)); have n5_ := aA.mk ((by rw [hg]; exact Nat.ne_of_lt (blk_lt (g := gb131) (o := .cells #[.int .i64 a1_0, .int .i64 a1_1] 59 (0, 0)) (by (with_reducible repeat (first | refine aJ ?_ _ | refine aK ?_ | refine aI ?_ _)); exact BK131.out)) : gb131 ≠ gb132)); have n6_ := aA.mk ((by rw [hg]; exact Nat.ne_of_gt (blk_lt (g := gb131) (o := .cells #[.int .i64 a1_0, .int .i64 a1_1] 59 (0, 0)) (by (with_reducible repeat (first | refine aJ ?_ _ | refine aK ?_ | refine aI ?_ _)); exact BK131.out)) : gb132 ≠ gb131)); clear BK131; clear HB; have BK131 := n0_; have HB := n1_; have BK132 := n2_; have GW132 := n3_; have GE132 := n4_; have NB131_132 := n5_; have NB132_131 := n6_; clear n0_ n1_ n2_ n3_ n4_ n5_ n6_; clear hb hbox hg))
    have n0_ := aA.mk (aK BK131.out)
    have n1_ := aA.mk (aK BK132.out)
    have n2_ := aA.mk (aD HB.out)
    clear BK131
    clear BK132
    clear HB
    have BK131 := n0_
    have BK132 := n1_
    have HB := n2_
    clear n0_ n1_ n2_
    have p133 : 0 ≤ (0 : Int) := (by omega)
    have q133 : 0 < (l0.length : Int) := of_decide_eq_true (by first | (with_reducible assumption) | assumption)
    obtain ⟨ad133, e133, hx133_0, hx133_1⟩ := dW HR0.out 0 p133 q133
    have hw133_1 := hx133_1
    (try rw [show ((0 : Int)).toNat = 0 from rfl] at hw133_1)
    (try rw [show 0 * 2 = 0 from rfl] at hw133_1)
    (try rw [Addr.add_zero'] at hw133_1)
    have hw133_0 := hx133_0
    (try rw [show ((0 : Int)).toNat = 0 from rfl] at hw133_0)
    (try rw [show 0 * 2 = 0 from rfl] at hw133_0)
    (try rw [Addr.add_zero'] at hw133_0)
    cases e133
    have qi133 : (0 < l0.length) = True := eq_true (by omega)
    (try rw [show ((0 : Int)).toNat = 0 from rfl] at hx133_0)
    (try rw [show 0 * 2 = 0 from rfl] at hx133_0)
    (try rw [Addr.add_zero'] at hx133_0)
    (try rw [show ((0 : Int)).toNat = 0 from rfl] at hx133_1)
    (try rw [show 0 * 2 = 0 from rfl] at hx133_1)
    (try rw [Addr.add_zero'] at hx133_1)
    replace hx133_0 := (HB.out.cell (World.block_lt_of_cell? w _ hx133_0)).trans hx133_0
    replace hx133_1 := (HB.out.cell (World.block_lt_of_cell? w _ hx133_1)).trans hx133_1
    replace p133 := eq_true p133
    replace q133 := eq_true q133
    refine jX (n := 7) (S := fun w' => w'.cell? ⟨gb131, 0, none⟩ = some (.int .i64 a1_0) ∧ w'.cell? ⟨gb131, 1, none⟩ = some (.int .i64 a1_1) ∧ w'.cell? ad133 = some (.int .i64 ((bN l0 0).f0)) ∧ w'.cell? ⟨ad133.block, ad133.off + 1, none⟩ = some (.int .i64 ((bN l0 0).f1))) (ds := []) #[false, false, false, false, false, false, false] (by kernel_rfl) rfl rfl ⟨(aE BK131.out 0).trans rfl, (aE BK131.out 1).trans rfl, ((HB.out.cell (World.block_lt_of_cell? w _ hw133_0)).trans hw133_0), ((HB.out.cell (World.block_lt_of_cell? w _ hw133_1)).trans hw133_1)⟩ (fun hHeld => ?_)
    generalize w12.drew = w13 at BK131 BK132 HB hx133_0 hx133_1 hHeld ⊢
    refine dJ (i := 1) (N := some 13) (v := ?_) (a' := ?_) #[false, true, false, false, false, false, false] rfl rfl (by kernel_rfl) (fun _ _ _ h => h) (Or.inl ⟨by rfl, ?_⟩) ?_ ?_
    rotate_left
    ·intro w'
     go_simp
     with_reducible rfl
    rotate_left
    ·simp only [Act.put, List.setIfInBounds_toArray, List.set_cons_zero, List.set_cons_succ, cN, cO]
     rfl
    refine dJ (i := 2) (N := some 14) (v := ?_) (a' := ?_) #[false, true, true, false, false, false, false] rfl rfl (by kernel_rfl) (fun _ _ _ h => h) (Or.inl ⟨by rfl, ?_⟩) ?_ ?_
    rotate_left
    ·intro w'
     go_simp
     with_reducible rfl
    rotate_left
    ·simp only [Act.put, List.setIfInBounds_toArray, List.set_cons_zero, List.set_cons_succ, cN, cO]
     rfl
    refine take_ (i := 0) (N := some 12) (v := ?_) (a' := ?_) #[true, true, true, false, false, false, false] rfl rfl (by kernel_rfl) (fun _ _ _ h => h) (Or.inl ⟨by rfl, ?_⟩) hHeld ?_ ?_
    rotate_left
    ·rintro w' ⟨s0, s1, s2, s3⟩
     go_simp
     with_reducible rfl
    rotate_left
    ·simp only [Act.put, List.setIfInBounds_toArray, List.set_cons_zero, List.set_cons_succ, cN, cO]
     rfl
    refine take_ (i := 3) (N := some 15) (v := ?_) (a' := ?_) #[true, true, true, true, false, false, false] rfl rfl (by kernel_rfl) (fun _ _ _ h => h) (Or.inl ⟨by rfl, ?_⟩) hHeld ?_ ?_
    rotate_left
    ·rintro w' ⟨s0, s1, s2, s3⟩
     go_simp
     with_reducible rfl
    rotate_left
    ·simp only [Act.put, List.setIfInBounds_toArray, List.set_cons_zero, List.set_cons_succ, cN, cO]
     rfl
    refine CM (σ := Nat) 1 #[true, true, true, true, true, true, false] (fun s_ => [(16, .agg #[.int .i64 t134, .int .i64 t135]), (5, .pointer (some ⟨s_, 0, none⟩))]) (fun s_ w' => (w'.cell? ⟨gb131, 0, none⟩ = some (.int .i64 a1_0) ∧ w'.cell? ⟨gb131, 1, none⟩ = some (.int .i64 a1_1) ∧ w'.cell? ad133 = some (.int .i64 ((bN l0 0).f0)) ∧ w'.cell? ⟨ad133.block, ad133.off + 1, none⟩ = some (.int .i64 ((bN l0 0).f1))) ∧ (w'.heap[gb131]? = some (.cells #[.int .i64 a1_0, .int .i64 a1_1] 59 (0, 0))) ∧ (w'.heap[gb132]? = some (.cells #[.int .i64 0, .int .i64 0] 59 (0, 0))) ∧ (w'.heap[s_]? = some (.cells #[.int .i64 0, .int .i64 0] 59 (0, 0))) ∧ (w.heap.size ≤ s_) ∧ (w.heap.size ≤ s_) ∧ (gb131 ≠ s_) ∧ (s_ ≠ gb131) ∧ (gb132 ≠ s_) ∧ (s_ ≠ gb132) ∧ (Below w.heap.size w w')) ?_ ?_
    rotate_left
    ·intro hCont
     refine DP (i := 4) (j := 5) (Ni := some 16) (Nj := some 5) #[true, true, true, true, true, false, false] #[true, true, true, true, false, true, false] rfl rfl rfl rfl (by kernel_rfl) (by decide) (by decide) (fun K hK => ?_) (fun K hK => ?_)
     ·skip
      refine kB Tryz.func101 (by kernel_rfl) rfl #[.agg #[.int .i64 a1_0, .int .i64 a1_1], .agg #[.int .i64 ((bN l0 0).f0), .int .i64 ((bN l0 0).f1)]] (by rfl) rfl rfl (by (try simp only [List.map_toArray, List.map_cons, List.map_nil]); first | done | rfl | (simp only [List.length_drop, List.length_take]; rfl)) ?_
      with_reducible refine (dM.calls a1_0 a1_1 ((bN l0 0).f0) ((bN l0 0).f1) t134 t135 _ A9.out).mono ?_
      rintro e w14 ⟨rfl, hb⟩
      refine ⟨_, rfl, ?_⟩
      have n0_ := aA.mk (bD (g := gb131) (o := .cells #[.int .i64 a1_0, .int .i64 a1_1] 59 (0, 0)) (by (with_reducible repeat (first | refine aJ ?_ _ | refine aK ?_ | refine aI ?_ _)); exact BK131.out) hb)
      have n1_ := aA.mk (bD (g := gb132) (o := .cells #[.int .i64 0, .int .i64 0] 59 (0, 0)) (by (with_reducible repeat (first | refine aJ ?_ _ | refine aK ?_ | refine aI ?_ _)); exact BK132.out) hb)
      have n2_ := aA.mk (aV (by repeat (first | (with_reducible first | exact HB.out | apply aC | apply pw_below_drewN | apply aD | refine aG ?_ GE131.out | refine aG ?_ GE132.out) | exact HB.out)) hb)
      clear BK131
      clear BK132
      clear HB
      have BK131 := n0_
      have BK132 := n1_
      have HB := n2_
      clear n0_ n1_ n2_
      (try clear hb)
      (try clear hb2)
      (try clear hk)
      (try clear hi)
      refine hK.out _ _ ⟨(aE BK131.out 0).trans rfl, (aE BK131.out 1).trans rfl, ((HB.out.cell (World.block_lt_of_cell? w _ hw133_0)).trans hw133_0), ((HB.out.cell (World.block_lt_of_cell? w _ hw133_1)).trans hw133_1)⟩ (fun hHeld => ?_)
      clear hK K
      refine gG (a' := ?_) ?_ ?_
      rotate_left
      ·show Act.put _ (some 16) _ = _
       simp only [Act.put, List.setIfInBounds_toArray, List.set_cons_zero, List.set_cons_succ, cN, cO]
       rfl
      refine pL (i := 5) (N := some 5) #[true, true, true, true, true, true, false] rfl rfl (by kernel_rfl) (by decide) (fun K hK => ?_)
      refine qP ?hg (N := 5) ?hd (cs := #[.int .i64 0, .int .i64 0]) (t := 59) ?hr ?_; (case hd => rfl); (case hg => rfl); (case hr => first | (go_simp; done) | (go_simp; rfl))
      intro gb136 hg w15 hbox hb
      have n0_ := aA.mk (bD (g := gb131) (o := .cells #[.int .i64 a1_0, .int .i64 a1_1] 59 (0, 0)) (by (with_reducible repeat (first | refine aJ ?_ _ | refine aK ?_ | refine aI ?_ _)); exact BK131.out) hb)
      have n1_ := aA.mk (bD (g := gb132) (o := .cells #[.int .i64 0, .int .i64 0] 59 (0, 0)) (by (with_reducible repeat (first | refine aJ ?_ _ | refine aK ?_ | refine aI ?_ _)); exact BK132.out) hb)
      have n2_ := aA.mk (aV (by repeat (first | (with_reducible first | exact HB.out | apply aC | apply pw_below_drewN | apply aD | refine aG ?_ GE131.out | refine aG ?_ GE132.out) | exact HB.out)) hb)
      have n3_ := aA.mk (hbox)
      have n4_ := aA.mk ((by rw [hg]; exact (aM (by repeat (first | (with_reducible first | exact HB.out | apply aC | apply pw_below_drewN | apply aD | refine aG ?_ GE131.out | refine aG ?_ GE132.out) | exact HB.out))) : w.heap.size ≤ gb136))
      have n5_ := aA.mk ((by rw [hg]; exact (aM (by repeat (first | (with_reducible first | exact HB.out | apply aC | apply pw_below_drewN | apply aD | refine aG ?_ GE131.out | refine aG ?_ GE132.out) | exact HB.out))) : w.heap.size ≤ gb136))
      have n6_ := aA.mk ((by rw [hg]; exact Nat.ne_of_lt (blk_lt (g := gb131) (o := .cells #[.int .i64 a1_0, .int .i64 a1_1] 59 (0, 0)) (by (with_reducible repeat (first | refine aJ ?_ _ | refine aK ?_ | refine aI ?_ _)); exact BK131.out)) : gb131 ≠ gb136))
      have n7_ := aA.mk ((by rw [hg]; exact Nat.ne_of_gt (blk_lt (g := gb131) (o := .cells #[.int .i64 a1_0, .int .i64 a1_1] 59 (0, 0)) (by (with_reducible repeat (first | refine aJ ?_ _ | refine aK ?_ | refine aI ?_ _)); exact BK131.out)) : gb136 ≠ gb131))
      have n8_ := aA.mk ((by rw [hg]; exact Nat.ne_of_lt (blk_lt (g := gb132) (o := .cells #[.int .i64 0, .int .i64 0] 59 (0, 0)) (by (with_reducible repeat (first | refine aJ ?_ _ | refine aK ?_ | refine aI ?_ _)); exact BK132.out)) : gb132 ≠ gb136))
      have n9_ := aA.mk ((by rw [hg]; exact Nat.ne_of_gt (blk_lt (g := gb132) (o := .cells #[.int .i64 0, .int .i64 0] 59 (0, 0)) (by (with_reducible repeat (first | refine aJ ?_ _ | refine aK ?_ | refine aI ?_ _)); exact BK132.out)) : gb136 ≠ gb132))
      clear BK131
      clear BK132
      clear HB
      have BK131 := n0_
      have BK132 := n1_
      have HB := n2_
      have BK136 := n3_
      have GW136 := n4_
      have GE136 := n5_
      have NB131_136 := n6_
      have NB136_131 := n7_
      have NB132_136 := n8_
      have NB136_132 := n9_
      clear n0_ n1_ n2_ n3_ n4_ n5_ n6_ n7_ n8_ n9_
      clear hb hbox hg
      refine hK.out _ _ ⟨(aE BK131.out 0).trans rfl, (aE BK131.out 1).trans rfl, ((HB.out.cell (World.block_lt_of_cell? w _ hw133_0)).trans hw133_0), ((HB.out.cell (World.block_lt_of_cell? w _ hw133_1)).trans hw133_1)⟩ (fun hHeld => ?_)
      clear hK K
      refine gG (a' := ?_) ?_ ?_
      rotate_left
      ·show Act.put _ (some 5) _ = _
       simp only [Act.put, List.setIfInBounds_toArray, List.set_cons_zero, List.set_cons_succ, cN, cO]
       rfl
      exact gG (by simp only [mB, Act.put, List.setIfInBounds_toArray, List.set_cons_zero, List.set_cons_succ]) (hCont (gb136) _ ⟨hHeld, (by (with_reducible repeat (first | refine aJ ?_ _ | refine aK ?_ | refine aI ?_ _)); exact BK131.out), (by (with_reducible repeat (first | refine aJ ?_ _ | refine aK ?_ | refine aI ?_ _)); exact BK132.out), (by (with_reducible repeat (first | refine aJ ?_ _ | refine aK ?_ | refine aI ?_ _)); exact BK136.out), GW136.out, GE136.out, NB131_136.out, NB136_131.out, NB132_136.out, NB136_132.out, (by repeat (first | (with_reducible first | exact HB.out | apply aC | apply pw_below_drewN | apply aD | refine aG ?_ GE131.out | refine aG ?_ GE132.out | refine aG ?_ GE136.out) | exact HB.out))⟩)
     ·skip
      refine qP ?hg (N := 5) ?hd (cs := #[.int .i64 0, .int .i64 0]) (t := 59) ?hr ?_; (case hd => rfl); (case hg => rfl); (case hr => first | (go_simp; done) | (go_simp; rfl))
      intro gb136 hg w14 hbox hb
      have n0_ := aA.mk (bD (g := gb131) (o := .cells #[.int .i64 a1_0, .int .i64 a1_1] 59 (0, 0)) (by (with_reducible repeat (first | refine aJ ?_ _ | refine aK ?_ | refine aI ?_ _)); exact BK131.out) hb)
      have n1_ := aA.mk (bD (g := gb132) (o := .cells #[.int .i64 0, .int .i64 0] 59 (0, 0)) (by (with_reducible repeat (first | refine aJ ?_ _ | refine aK ?_ | refine aI ?_ _)); exact BK132.out) hb)
      have n2_ := aA.mk (aV (by repeat (first | (with_reducible first | exact HB.out | apply aC | apply pw_below_drewN | apply aD | refine aG ?_ GE131.out | refine aG ?_ GE132.out) | exact HB.out)) hb)
      have n3_ := aA.mk (hbox)
      have n4_ := aA.mk ((by rw [hg]; exact (aM (by repeat (first | (with_reducible first | exact HB.out | apply aC | apply pw_below_drewN | apply aD | refine aG ?_ GE131.out | refine aG ?_ GE132.out) | exact HB.out))) : w.heap.size ≤ gb136))
      have n5_ := aA.mk ((by rw [hg]; exact (aM (by repeat (first | (with_reducible first | exact HB.out | apply aC | apply pw_below_drewN | apply aD | refine aG ?_ GE131.out | refine aG ?_ GE132.out) | exact HB.out))) : w.heap.size ≤ gb136))
      have n6_ := aA.mk ((by rw [hg]; exact Nat.ne_of_lt (blk_lt (g := gb131) (o := .cells #[.int .i64 a1_0, .int .i64 a1_1] 59 (0, 0)) (by (with_reducible repeat (first | refine aJ ?_ _ | refine aK ?_ | refine aI ?_ _)); exact BK131.out)) : gb131 ≠ gb136))
      have n7_ := aA.mk ((by rw [hg]; exact Nat.ne_of_gt (blk_lt (g := gb131) (o := .cells #[.int .i64 a1_0, .int .i64 a1_1] 59 (0, 0)) (by (with_reducible repeat (first | refine aJ ?_ _ | refine aK ?_ | refine aI ?_ _)); exact BK131.out)) : gb136 ≠ gb131))
      have n8_ := aA.mk ((by rw [hg]; exact Nat.ne_of_lt (blk_lt (g := gb132) (o := .cells #[.int .i64 0, .int .i64 0] 59 (0, 0)) (by (with_reducible repeat (first | refine aJ ?_ _ | refine aK ?_ | refine aI ?_ _)); exact BK132.out)) : gb132 ≠ gb136))
      have n9_ := aA.mk ((by rw [hg]; exact Nat.ne_of_gt (blk_lt (g := gb132) (o := .cells #[.int .i64 0, .int .i64 0] 59 (0, 0)) (by (with_reducible repeat (first | refine aJ ?_ _ | refine aK ?_ | refine aI ?_ _)); exact BK132.out)) : gb136 ≠ gb132))
      clear BK131
      clear BK132
      clear HB
      have BK131 := n0_
      have BK132 := n1_
      have HB := n2_
      have BK136 := n3_
      have GW136 := n4_
      have GE136 := n5_
      have NB131_136 := n6_
      have NB136_131 := n7_
      have NB132_136 := n8_
      have NB136_132 := n9_
      clear n0_ n1_ n2_ n3_ n4_ n5_ n6_ n7_ n8_ n9_
      clear hb hbox hg
      refine hK.out _ _ ⟨(aE BK131.out 0).trans rfl, (aE BK131.out 1).trans rfl, ((HB.out.cell (World.block_lt_of_cell? w _ hw133_0)).trans hw133_0), ((HB.out.cell (World.block_lt_of_cell? w _ hw133_1)).trans hw133_1)⟩ (fun hHeld => ?_)
      clear hK K
      refine gG (a' := ?_) ?_ ?_
      rotate_left
      ·show Act.put _ (some 5) _ = _
       simp only [Act.put, List.setIfInBounds_toArray, List.set_cons_zero, List.set_cons_succ, cN, cO]
       rfl
      refine pL (i := 4) (N := some 16) #[true, true, true, true, true, true, false] rfl rfl (by kernel_rfl) (by decide) (fun K hK => ?_)
      refine kB Tryz.func101 (by kernel_rfl) rfl #[.agg #[.int .i64 a1_0, .int .i64 a1_1], .agg #[.int .i64 ((bN l0 0).f0), .int .i64 ((bN l0 0).f1)]] (by rfl) rfl rfl (by (try simp only [List.map_toArray, List.map_cons, List.map_nil]); first | done | rfl | (simp only [List.length_drop, List.length_take]; rfl)) ?_
      with_reducible refine (dM.calls a1_0 a1_1 ((bN l0 0).f0) ((bN l0 0).f1) t134 t135 _ A9.out).mono ?_
      rintro e w15 ⟨rfl, hb⟩
      refine ⟨_, rfl, ?_⟩
      have n0_ := aA.mk (bD (g := gb131) (o := .cells #[.int .i64 a1_0, .int .i64 a1_1] 59 (0, 0)) (by (with_reducible repeat (first | refine aJ ?_ _ | refine aK ?_ | refine aI ?_ _)); exact BK131.out) hb)
      have n1_ := aA.mk (bD (g := gb132) (o := .cells #[.int .i64 0, .int .i64 0] 59 (0, 0)) (by (with_reducible repeat (first | refine aJ ?_ _ | refine aK ?_ | refine aI ?_ _)); exact BK132.out) hb)
      have n2_ := aA.mk (bD (g := gb136) (o := .cells #[.int .i64 0, .int .i64 0] 59 (0, 0)) (by (with_reducible repeat (first | refine aJ ?_ _ | refine aK ?_ | refine aI ?_ _)); exact BK136.out) hb)
      have n3_ := aA.mk (aV (by repeat (first | (with_reducible first | exact HB.out | apply aC | apply pw_below_drewN | apply aD | refine aG ?_ GE131.out | refine aG ?_ GE132.out | refine aG ?_ GE136.out) | exact HB.out)) hb)
      clear BK131
      clear BK132
      clear BK136
      clear HB
      have BK131 := n0_
      have BK132 := n1_
      have BK136 := n2_
      have HB := n3_
      clear n0_ n1_ n2_ n3_
      (try clear hb)
      (try clear hb2)
      (try clear hk)
      (try clear hi)
      refine hK.out _ _ ⟨(aE BK131.out 0).trans rfl, (aE BK131.out 1).trans rfl, ((HB.out.cell (World.block_lt_of_cell? w _ hw133_0)).trans hw133_0), ((HB.out.cell (World.block_lt_of_cell? w _ hw133_1)).trans hw133_1)⟩ (fun hHeld => ?_)
      clear hK K
      refine gG (a' := ?_) ?_ ?_
      rotate_left
      ·show Act.put _ (some 16) _ = _
       simp only [Act.put, List.setIfInBounds_toArray, List.set_cons_zero, List.set_cons_succ, cN, cO]
       rfl
      exact gG (by simp only [mB, Act.put, List.setIfInBounds_toArray, List.set_cons_zero, List.set_cons_succ]) (hCont (gb136) _ ⟨hHeld, (by (with_reducible repeat (first | refine aJ ?_ _ | refine aK ?_ | refine aI ?_ _)); exact BK131.out), (by (with_reducible repeat (first | refine aJ ?_ _ | refine aK ?_ | refine aI ?_ _)); exact BK132.out), (by (with_reducible repeat (first | refine aJ ?_ _ | refine aK ?_ | refine aI ?_ _)); exact BK136.out), GW136.out, GE136.out, NB131_136.out, NB136_131.out, NB132_136.out, NB136_132.out, (by repeat (first | (with_reducible first | exact HB.out | apply aC | apply pw_below_drewN | apply aD | refine aG ?_ GE131.out | refine aG ?_ GE132.out | refine aG ?_ GE136.out) | exact HB.out))⟩)
    rintro gb136 w16 ⟨hS_, h0_, h1_, h2_, h3_, h4_, h5_, h6_, h7_, h8_, h9_⟩
    have n0_ : aA (w16.heap[gb131]? = some (.cells #[.int .i64 a1_0, .int .i64 a1_1] 59 (0, 0))) := ⟨h0_⟩
    have n1_ : aA (w16.heap[gb132]? = some (.cells #[.int .i64 0, .int .i64 0] 59 (0, 0))) := ⟨h1_⟩
    have n2_ : aA (w16.heap[gb136]? = some (.cells #[.int .i64 0, .int .i64 0] 59 (0, 0))) := ⟨h2_⟩
    have n3_ : aA (w.heap.size ≤ gb136) := ⟨h3_⟩
    have n4_ : aA (w.heap.size ≤ gb136) := ⟨h4_⟩
    have n5_ : aA (gb131 ≠ gb136) := ⟨h5_⟩
    have n6_ : aA (gb136 ≠ gb131) := ⟨h6_⟩
    have n7_ : aA (gb132 ≠ gb136) := ⟨h7_⟩
    have n8_ : aA (gb136 ≠ gb132) := ⟨h8_⟩
    have n9_ : aA (Below w.heap.size w w16) := ⟨h9_⟩
    clear BK131
    clear BK132
    clear HB
    clear h0_ h1_ h2_ h3_ h4_ h5_ h6_ h7_ h8_ h9_
    have BK131 := n0_
    have BK132 := n1_
    have BK136 := n2_
    have GW136 := n3_
    have GE136 := n4_
    have NB131_136 := n5_
    have NB136_131 := n6_
    have NB132_136 := n7_
    have NB136_132 := n8_
    have HB := n9_
    clear n0_ n1_ n2_ n3_ n4_ n5_ n6_ n7_ n8_ n9_
    have hHeld : w16.cell? ⟨gb131, 0, none⟩ = some (.int .i64 a1_0) ∧ w16.cell? ⟨gb131, 1, none⟩ = some (.int .i64 a1_1) ∧ w16.cell? ad133 = some (.int .i64 ((bN l0 0).f0)) ∧ w16.cell? ⟨ad133.block, ad133.off + 1, none⟩ = some (.int .i64 ((bN l0 0).f1)) := hS_
    refine gG (a' := ?_) ?_ ?_
    rotate_left
    ·simp only [mB, Act.put, List.setIfInBounds_toArray, List.set_cons_zero, List.set_cons_succ]
     rfl
    refine pL (i := 6) (N := none) #[true, true, true, true, true, true, true] rfl rfl (by kernel_rfl) (by decide) (fun K hK => ?_)
    have hs17 : w16.cell? ⟨gb136, 0, none⟩ = some (.int .i64 0) := (aE BK136.out 0).trans rfl
    have hfs17 := blk_frozen BK136.out 0
    have hns17_0 := NB131_136.out
    have hns17_1 := NB132_136.out
    have hms17_0 := NB136_131.out
    have hms17_1 := NB136_132.out
    have hs18 : w16.cell? ⟨gb136, 1, none⟩ = some (.int .i64 0) := (aE BK136.out 1).trans rfl
    have hfs18 := blk_frozen BK136.out 1
    have hns18_0 := NB131_136.out
    have hns18_1 := NB132_136.out
    have hms18_0 := NB136_131.out
    have hms18_1 := NB136_132.out
    refine BD (w1 := ?_) (by rfl) rfl ?_ ?_
    rotate_left
    ·go_simp
     rfl
    refine hK.out _ _ ⟨((fU (p := ⟨gb136, _, none⟩) NB131_136.out _).trans (((fU (p := ⟨gb136, _, none⟩) NB131_136.out _).trans (hHeld.1)))), ((fU (p := ⟨gb136, _, none⟩) NB131_136.out _).trans (((fU (p := ⟨gb136, _, none⟩) NB131_136.out _).trans (hHeld.2.1)))), ((fU (p := ⟨gb136, _, none⟩) (by first | exact Nat.ne_of_lt (Nat.lt_of_lt_of_le (by have := World.block_lt_of_cell? _ _ hw133_0; first | rwa [add_block] at this | exact this) GW136.out) | (rw [add_block]; exact Nat.ne_of_lt (Nat.lt_of_lt_of_le (by have := World.block_lt_of_cell? _ _ hw133_0; first | rwa [add_block] at this | exact this) GW136.out)) | (show (Addr.add _ _).block ≠ _; rw [add_block]; exact Nat.ne_of_lt (Nat.lt_of_lt_of_le (by have := World.block_lt_of_cell? _ _ hw133_0; first | rwa [add_block] at this | exact this) GW136.out)) | (dsimp only; exact Nat.ne_of_lt (Nat.lt_of_lt_of_le (by have := World.block_lt_of_cell? _ _ hw133_0; first | rwa [add_block] at this | exact this) GW136.out))) _).trans (((fU (p := ⟨gb136, _, none⟩) (by first | exact Nat.ne_of_lt (Nat.lt_of_lt_of_le (by have := World.block_lt_of_cell? _ _ hw133_0; first | rwa [add_block] at this | exact this) GW136.out) | (rw [add_block]; exact Nat.ne_of_lt (Nat.lt_of_lt_of_le (by have := World.block_lt_of_cell? _ _ hw133_0; first | rwa [add_block] at this | exact this) GW136.out)) | (show (Addr.add _ _).block ≠ _; rw [add_block]; exact Nat.ne_of_lt (Nat.lt_of_lt_of_le (by have := World.block_lt_of_cell? _ _ hw133_0; first | rwa [add_block] at this | exact this) GW136.out)) | (dsimp only; exact Nat.ne_of_lt (Nat.lt_of_lt_of_le (by have := World.block_lt_of_cell? _ _ hw133_0; first | rwa [add_block] at this | exact this) GW136.out))) _).trans (hHeld.2.2.1)))), ((fU (p := ⟨gb136, _, none⟩) (by first | exact Nat.ne_of_lt (Nat.lt_of_lt_of_le (by have := World.block_lt_of_cell? _ _ hw133_1; first | rwa [add_block] at this | exact this) GW136.out) | (rw [add_block]; exact Nat.ne_of_lt (Nat.lt_of_lt_of_le (by have := World.block_lt_of_cell? _ _ hw133_1; first | rwa [add_block] at this | exact this) GW136.out)) | (show (Addr.add _ _).block ≠ _; rw [add_block]; exact Nat.ne_of_lt (Nat.lt_of_lt_of_le (by have := World.block_lt_of_cell? _ _ hw133_1; first | rwa [add_block] at this | exact this) GW136.out)) | (dsimp only; exact Nat.ne_of_lt (Nat.lt_of_lt_of_le (by have := World.block_lt_of_cell? _ _ hw133_1; first | rwa [add_block] at this | exact this) GW136.out))) _).trans (((fU (p := ⟨gb136, _, none⟩) (by first | exact Nat.ne_of_lt (Nat.lt_of_lt_of_le (by have := World.block_lt_of_cell? _ _ hw133_1; first | rwa [add_block] at this | exact this) GW136.out) | (rw [add_block]; exact Nat.ne_of_lt (Nat.lt_of_lt_of_le (by have := World.block_lt_of_cell? _ _ hw133_1; first | rwa [add_block] at this | exact this) GW136.out)) | (show (Addr.add _ _).block ≠ _; rw [add_block]; exact Nat.ne_of_lt (Nat.lt_of_lt_of_le (by have := World.block_lt_of_cell? _ _ hw133_1; first | rwa [add_block] at this | exact this) GW136.out)) | (dsimp only; exact Nat.ne_of_lt (Nat.lt_of_lt_of_le (by have := World.block_lt_of_cell? _ _ hw133_1; first | rwa [add_block] at this | exact this) GW136.out))) _).trans (hHeld.2.2.2))))⟩ (fun hHeld => ?_)
    clear hK K
    refine oA (by kernel_rfl) ?_
    have n0_ : aA (((w16.setCell ⟨gb136, 0, none⟩ (.int .i64 t134)).setCell ⟨gb136, 1, none⟩ (.int .i64 t135)).heap[gb131]? = some (.cells #[.int .i64 a1_0, .int .i64 a1_1] 59 (0, 0))) := ⟨by (with_reducible repeat (first | refine aJ ?_ _ | refine aK ?_ | refine aI ?_ _)); refine cZ ?_ NB131_136.out _; (with_reducible repeat (first | refine aJ ?_ _ | refine aK ?_ | refine aI ?_ _)); refine cZ ?_ NB131_136.out _; (with_reducible repeat (first | refine aJ ?_ _ | refine aK ?_ | refine aI ?_ _)); exact BK131.out⟩
    have n1_ : aA (((w16.setCell ⟨gb136, 0, none⟩ (.int .i64 t134)).setCell ⟨gb136, 1, none⟩ (.int .i64 t135)).heap[gb132]? = some (.cells #[.int .i64 0, .int .i64 0] 59 (0, 0))) := ⟨by (with_reducible repeat (first | refine aJ ?_ _ | refine aK ?_ | refine aI ?_ _)); refine cZ ?_ NB132_136.out _; (with_reducible repeat (first | refine aJ ?_ _ | refine aK ?_ | refine aI ?_ _)); refine cZ ?_ NB132_136.out _; (with_reducible repeat (first | refine aJ ?_ _ | refine aK ?_ | refine aI ?_ _)); exact BK132.out⟩
    have n2_ : aA (((w16.setCell ⟨gb136, 0, none⟩ (.int .i64 t134)).setCell ⟨gb136, 1, none⟩ (.int .i64 t135)).heap[gb136]? = some (.cells #[.int .i64 t134, .int .i64 t135] 59 (0, 0))) := ⟨by (with_reducible repeat (first | refine aJ ?_ _ | refine aK ?_ | refine aI ?_ _)); refine cW (cs := #[.int .i64 t134, .int .i64 0]) ?_ 1 _ rfl; (with_reducible repeat (first | refine aJ ?_ _ | refine aK ?_ | refine aI ?_ _)); refine cW (cs := #[.int .i64 0, .int .i64 0]) ?_ 0 _ rfl; (with_reducible repeat (first | refine aJ ?_ _ | refine aK ?_ | refine aI ?_ _)); exact BK136.out⟩
    have n3_ : aA (Below w.heap.size w ((w16.setCell ⟨gb136, 0, none⟩ (.int .i64 t134)).setCell ⟨gb136, 1, none⟩ (.int .i64 t135))) := ⟨by repeat (first | (with_reducible first | exact HB.out | apply aC | apply pw_below_drewN | apply aD | refine aG ?_ GE131.out | refine aG ?_ GE132.out | refine aG ?_ GE136.out) | exact HB.out)⟩
    (try clear BK131)
    (try clear BK132)
    (try clear BK136)
    (try clear HB)
    generalize ((w16.setCell ⟨gb136, 0, none⟩ (.int .i64 t134)).setCell ⟨gb136, 1, none⟩ (.int .i64 t135)) = w19 at n0_ n1_ n2_ n3_ ⊢
    have BK131 := n0_
    have BK132 := n1_
    have BK136 := n2_
    have HB := n3_
    clear n0_ n1_ n2_ n3_
    have q20 : (1 : Int) ≤ ((l0.length : Int) : Int) := of_decide_eq_true (by first | (with_reducible assumption) | assumption)
    obtain ⟨i020, hi020, _, hsz20, _⟩ := info_parts fZ
    have hroom20 : l0.length ≤ c0 := HC0.out
    have hC20 : Kd.C k59 _ (some ad133) l0.length l0 := HR0.out
    have hcut20 := iD (P := Tryz.prog) 23 59 .i64 Tryz.underlying23 hi020 2 hsz20 (some ad133) l0.length c0 1 (by omega) q20
    have hr20 := Kd.C_drop (m := (1 : Int).toNat) (c := c0) hC20 (by omega) hroom20
    obtain ⟨A20, hA20⟩ : ∃ A1, A1 = (if c0 = (1 : Int).toNat then (some ad133) else ((some ad133) : Option Addr).map (·.add ((1 : Int).toNat * 2))) := ⟨_, rfl⟩
    obtain ⟨c20, hc20⟩ : ∃ c1, c1 = c0 - (1 : Int).toNat := ⟨_, rfl⟩
    have hy20 : y137.length = l0.length - (1 : Int).toNat := (by rw [Ny137.out, List.length_drop] <;> omega)
    rw [show (l0).drop (1 : Int).toNat = y137 from Ny137.out.symm] at hr20
    replace hr20 : Kd.C k59 _ A20 y137.length y137 := (by rw [hA20]; exact hr20)
    rw [← hy20, ← hA20, ← hc20] at hcut20
    have HR140 := aA.mk hr20
    have HC140 := aA.mk (show y137.length ≤ c20 from by rw [hy20, hc20]; exact Nat.sub_le_sub_right hroom20 _)
    clear hr20 hC20 hroom20 hi020 hsz20 hc20
    have KY20 := aA.mk hy20
    have KA20 := aA.mk hA20
    clear hy20 hA20
    replace q20 := eq_true q20
    try go_wp2
    go_loopg [20] k (fun kq v20 w' => ∃ (x20_1 : Int) (x137000_1 : Int) (x137001_1 : Int), v20 = .int .i64 x20_1 ∧ aA (cE.l0 kq y137 (y137.length : Int) x20_1 a1_0 a1_1 x137000_1 x137001_1 = some (r1, r2)) ∧ aA (kq ≤ k) ∧ aA (w'.heap[gb131]? = some (.cells #[.int .i64 a1_0, .int .i64 a1_1] 59 (0, 0))) ∧ aA (w'.heap[gb132]? = some (.cells #[.int .i64 0, .int .i64 0] 59 (0, 0))) ∧ aA (w'.heap[gb136]? = some (.cells #[.int .i64 x137000_1, .int .i64 x137001_1] 59 (0, 0))) ∧ aA (Below w.heap.size w w'))
    case atStart => exact ⟨(0), (t134), (t135), (by first | rfl | (simp; done) | (simp [*]; done)), H', ⟨Nat.le_refl _⟩, ⟨by (with_reducible repeat (first | refine aJ ?_ _ | refine aK ?_ | refine aI ?_ _)); exact BK131.out⟩, ⟨by (with_reducible repeat (first | refine aJ ?_ _ | refine aK ?_ | refine aI ?_ _)); exact BK132.out⟩, ⟨by (with_reducible repeat (first | refine aJ ?_ _ | refine aK ?_ | refine aI ?_ _)); exact BK136.out⟩, ⟨by repeat (first | (with_reducible first | exact HB.out | apply aC | apply pw_below_drewN | apply aD | refine aG ?_ GE131.out | refine aG ?_ GE132.out | refine aG ?_ GE136.out) | exact HB.out)⟩⟩
    case round =>
     clear H'
     try clear c1
     try clear p1
     try clear q1
     try clear hx1
     try clear qi1
     try clear c2
     try clear p2
     try clear q2
     try clear c3
     try clear c3b0
     try clear c3b1
     try clear c3b2
     try clear c6
     try clear c7
     try clear c8
     try clear c8b0
     try clear c8b1
     try clear c10
     try clear c10b0
     try clear c10b1
     try clear p13
     try clear q13
     try clear hx13
     try clear qi13
     try clear c20
     try clear q20
     try clear hcz7_0
     try clear hcz7_1
     try clear hfz7_0
     try clear hfz7_1
     try clear hx133_0
     try clear hx133_1
     try clear p133
     try clear q133
     try clear q20
     obtain ⟨x20_1, x137000_1, x137001_1, rfl, HA, HK1, BK131, BK132, BK136, HB⟩ := hrel
     cases gk with
     | zero => exact absurd HA.out (by simp [cE.l0])
     | succ k1 =>
      have H := HA.out
      clear HA
      simp only [cE.l0] at H
      by_cases c21 : x20_1 < (y137.length : Int)
      ·rw [if_pos c21] at H
       have c21b0 : decide (x20_1 < (y137.length : Int)) = true := decide_eq_true c21
       clear c21
       by_cases c22 : 0 ≤ x20_1
       ·rw [if_pos c22] at H
        have c22b0 : decide (0 ≤ x20_1) = true := decide_eq_true c22
        clear c22
        by_cases c23 : x20_1 < (y137.length : Int)
        ·rw [if_pos c23] at H
         have c23b0 : decide (x20_1 < (y137.length : Int)) = true := decide_eq_true c23
         clear c23
         replace H := Option.bind_eq_some_iff.mp H
         obtain ⟨⟨t143, t144⟩, A240, H⟩ := H
         replace H : ((eO.f x137000_1 x137001_1 t143 t144).bind fun bt145 => (cE.l0 k1 y137 (y137.length : Int) (wrap64 (x20_1 + 1)) a1_0 a1_1 bt145.1 bt145.2)) = some (r1, r2) := H
         have A24 := aA.mk A240
         clear A240
         replace H := Option.bind_eq_some_iff.mp H
         obtain ⟨⟨t145, t146⟩, A250, H⟩ := H
         replace H : (cE.l0 k1 y137 (y137.length : Int) (wrap64 (x20_1 + 1)) a1_0 a1_1 t145 t146) = some (r1, r2) := H
         have A25 := aA.mk A250
         clear A250
         have H' := aA.mk H
         clear H
         have p141 : 0 ≤ (x20_1 : Int) := of_decide_eq_true (by first | (with_reducible assumption) | assumption)
         have q141 : x20_1 < (y137.length : Int) := of_decide_eq_true (by first | (with_reducible assumption) | assumption)
         obtain ⟨ad141, e141, hx141_0, hx141_1⟩ := dW HR140.out x20_1 p141 q141
         cases e141
         replace hx141_0 := (HB.out.cell (World.block_lt_of_cell? w _ hx141_0)).trans hx141_0
         replace hx141_1 := (HB.out.cell (World.block_lt_of_cell? w _ hx141_1)).trans hx141_1
         replace p141 := eq_true p141
         replace q141 := eq_true q141
         try go_wp2_with (first | ((with_reducible refine bK (N := 7) rfl ?_); refine bG ?hg (N := 7) ?hd (cs := #[.int .i64 0, .int .i64 0]) (t := 59) ?hr ?_; (case hd => rfl); (case hg => rfl); (case hr => first | (go_simp; done) | (go_simp; rfl)); intro gb142 hg w26 hbox hb; have n0_ := aA.mk (bD (g := gb131) (o := .cells #[.int .i64 a1_0, .int .i64 a1_1] 59 (0, 0)) (by (with_reducible repeat (first | refine aJ ?_ _ | refine aK ?_ | refine aI ?_ _)); exact BK131.out) hb); have n1_ := aA.mk (bD (g := gb132) (o := .cells #[.int .i64 0, .int .i64 0] 59 (0, 0)) (by (with_reducible repeat (first | refine aJ ?_ _ | refine aK ?_ | refine aI ?_ _)); exact BK132.out) hb); have n2_ := aA.mk (bD (g := gb136) (o := .cells #[.int .i64 x137000_1, .int .i64 x137001_1] 59 (0, 0)) (by (with_reducible repeat (first | refine aJ ?_ _ | refine aK ?_ | refine aI ?_ _)); exact BK136.out) hb); have n3_ := aA.mk (aV (by repeat (first | (with_reducible first | exact HB.out | apply aC | apply pw_below_drewN | apply aD | refine aG ?_ GE131.out | refine aG ?_ GE132.out | refine aG ?_ GE136.out) | exact HB.out)) hb); have n4_ := aA.mk (hbox); have n5_ := aA.mk ((by rw [hg]; exact (aM (by repeat (first | (with_reducible first | exact HB.out | apply aC | apply pw_below_drewN | apply aD | refine aG ?_ GE131.out | refine aG ?_ GE132.out | refine aG ?_ GE136.out) | exact HB.out))) : w.heap.size ≤ gb142)); have n6_ := aA.mk ((by rw [hg]; exact (aM (by repeat (first | (with_reducible first | exact HB.out | apply aC | apply pw_below_drewN | apply aD | refine aG ?_ GE131.out | refine aG ?_ GE132.out | refine aG ?_ GE136.out) | exact HB.out))) : w.heap.size ≤ gb142)); have n7_ := aA.mk ((by rw [hg]; exact Nat.ne_of_lt (blk_lt (g := gb131) (o := .cells #[.int .i64 a1_0, .int .i64 a1_1] 59 (0, 0)) (by (with_reducible repeat (first | refine aJ ?_ _ | refine aK ?_ | refine aI ?_ _)); exact BK131.out)) : gb131 ≠ gb142)); have n8_ := aA.mk ((by rw [hg]; exact Nat.ne_of_gt (blk_lt (g := gb131) (o := .cells #[.int .i64 a1_0, .int .i64 a1_1] 59 (0, 0)) (by (with_reducible repeat (first | refine aJ ?_ _ | refine aK ?_ | refine aI ?_ _)); exact BK131.out)) : gb142 ≠ gb131)); have n9_ := aA.mk ((by rw [hg]; exact Nat.ne_of_lt (blk_lt (g := gb132) (o := .cells #[.int .i64 0, .int .i64 0] 59 (0, 0)) (by (with_reducible repeat (first | refine aJ ?_ _ | refine aK ?_ | refine aI ?_ _)); exact BK132.out)) : gb132 ≠ gb142)); have n10_ := aA.mk ((by rw [hg]; exact Nat.ne_of_gt (blk_lt (g := gb132) (o := .cells #[.int .i64 0, .int .i64 0] 59 (0, 0)) (by (with_reducible repeat (first | refine aJ ?_ _ | refine aK ?_ | refine aI ?_ _)); exact BK132.out)) : gb142 ≠ gb132)); have n11_ := aA.mk ((by rw [hg]; exact Nat.ne_of_lt (blk_lt (g := gb136) (o := .cells #[.int .i64 x137000_1, .int .i64 x137001_1] 59 (0, 0)) (by (with_reducible repeat (first | refine aJ ?_ _ | refine aK ?_ | refine aI ?_ _)); exact BK136.out)) : gb136 ≠ gb142)); have n12_ := aA.mk ((by rw [hg]; exact Nat.ne_of_gt (blk_lt (g := gb136) (o := .cells #[.int .i64 x137000_1, .int .i64 x137001_1] 59 (0, 0)) (by (with_reducible repeat (first | refine aJ ?_ _ | refine aK ?_ | refine aI ?_ _)); exact BK136.out)) : gb142 ≠ gb136)); clear BK131; clear BK132; clear BK136; clear HB; have BK131 := n0_; have BK132 := n1_; have BK136 := n2_; have HB := n3_; have BK142 := n4_; have GW142 := n5_; have GE142 := n6_; have NB131_142 := n7_; have NB142_131 := n8_; have NB132_142 := n9_; have NB142_132 := n10_; have NB136_142 := n11_; have NB142_136 := n12_; clear n0_ n1_ n2_ n3_ n4_ n5_ n6_ n7_ n8_ n9_ n10_ n11_ n12_; clear hb hbox hg; have hnb27 := NB142_131.out; have hnc27 := NB131_142.out; have hnb28 := NB142_132.out; have hnc28 := NB132_142.out; have hnb29 := NB142_136.out; have hnc29 := NB136_142.out; have hcz30_0 : w26.cell? ⟨gb142, 0, none⟩ = some (.int .i64 0) := (aE BK142.out 0).trans rfl; have hcz30_1 : w26.cell? ⟨gb142, 1, none⟩ = some (.int .i64 0) := (aE BK142.out 1).trans rfl; have hfz30_0 := blk_frozen BK142.out 0; have hfz30_1 := blk_frozen BK142.out 1))
         have n0_ : aA (((w26.setCell ⟨gb142, 0, none⟩ (.int .i64 ((bN y137 x20_1).f0))).setCell ⟨gb142, 1, none⟩ (.int .i64 ((bN y137 x20_1).f1))).heap[gb131]? = some (.cells #[.int .i64 a1_0, .int .i64 a1_1] 59 (0, 0))) := ⟨by (with_reducible repeat (first | refine aJ ?_ _ | refine aK ?_ | refine aI ?_ _)); refine cZ ?_ NB131_142.out _; (with_reducible repeat (first | refine aJ ?_ _ | refine aK ?_ | refine aI ?_ _)); refine cZ ?_ NB131_142.out _; (with_reducible repeat (first | refine aJ ?_ _ | refine aK ?_ | refine aI ?_ _)); exact BK131.out⟩
         have n1_ : aA (((w26.setCell ⟨gb142, 0, none⟩ (.int .i64 ((bN y137 x20_1).f0))).setCell ⟨gb142, 1, none⟩ (.int .i64 ((bN y137 x20_1).f1))).heap[gb132]? = some (.cells #[.int .i64 0, .int .i64 0] 59 (0, 0))) := ⟨by (with_reducible repeat (first | refine aJ ?_ _ | refine aK ?_ | refine aI ?_ _)); refine cZ ?_ NB132_142.out _; (with_reducible repeat (first | refine aJ ?_ _ | refine aK ?_ | refine aI ?_ _)); refine cZ ?_ NB132_142.out _; (with_reducible repeat (first | refine aJ ?_ _ | refine aK ?_ | refine aI ?_ _)); exact BK132.out⟩
         have n2_ : aA (((w26.setCell ⟨gb142, 0, none⟩ (.int .i64 ((bN y137 x20_1).f0))).setCell ⟨gb142, 1, none⟩ (.int .i64 ((bN y137 x20_1).f1))).heap[gb136]? = some (.cells #[.int .i64 x137000_1, .int .i64 x137001_1] 59 (0, 0))) := ⟨by (with_reducible repeat (first | refine aJ ?_ _ | refine aK ?_ | refine aI ?_ _)); refine cZ ?_ NB136_142.out _; (with_reducible repeat (first | refine aJ ?_ _ | refine aK ?_ | refine aI ?_ _)); refine cZ ?_ NB136_142.out _; (with_reducible repeat (first | refine aJ ?_ _ | refine aK ?_ | refine aI ?_ _)); exact BK136.out⟩
         have n3_ : aA (((w26.setCell ⟨gb142, 0, none⟩ (.int .i64 ((bN y137 x20_1).f0))).setCell ⟨gb142, 1, none⟩ (.int .i64 ((bN y137 x20_1).f1))).heap[gb142]? = some (.cells #[.int .i64 ((bN y137 x20_1).f0), .int .i64 ((bN y137 x20_1).f1)] 59 (0, 0))) := ⟨by (with_reducible repeat (first | refine aJ ?_ _ | refine aK ?_ | refine aI ?_ _)); refine cW (cs := #[.int .i64 ((bN y137 x20_1).f0), .int .i64 0]) ?_ 1 _ rfl; (with_reducible repeat (first | refine aJ ?_ _ | refine aK ?_ | refine aI ?_ _)); refine cW (cs := #[.int .i64 0, .int .i64 0]) ?_ 0 _ rfl; (with_reducible repeat (first | refine aJ ?_ _ | refine aK ?_ | refine aI ?_ _)); exact BK142.out⟩
         have n4_ : aA (Below w.heap.size w ((w26.setCell ⟨gb142, 0, none⟩ (.int .i64 ((bN y137 x20_1).f0))).setCell ⟨gb142, 1, none⟩ (.int .i64 ((bN y137 x20_1).f1)))) := ⟨by repeat (first | (with_reducible first | exact HB.out | apply aC | apply pw_below_drewN | apply aD | refine aG ?_ GE131.out | refine aG ?_ GE132.out | refine aG ?_ GE136.out | refine aG ?_ GE142.out) | exact HB.out)⟩
         (try clear BK131)
         (try clear BK132)
         (try clear BK136)
         (try clear BK142)
         (try clear HB)
         generalize ((w26.setCell ⟨gb142, 0, none⟩ (.int .i64 ((bN y137 x20_1).f0))).setCell ⟨gb142, 1, none⟩ (.int .i64 ((bN y137 x20_1).f1))) = w31 at n0_ n1_ n2_ n3_ n4_ ⊢
         have BK131 := n0_
         have BK132 := n1_
         have BK136 := n2_
         have BK142 := n3_
         have HB := n4_
         clear n0_ n1_ n2_ n3_ n4_
         have n0_ := aA.mk (aK BK131.out)
         have n1_ := aA.mk (aK BK132.out)
         have n2_ := aA.mk (aK BK136.out)
         have n3_ := aA.mk (aK BK142.out)
         have n4_ := aA.mk (aD HB.out)
         clear BK131
         clear BK132
         clear BK136
         clear BK142
         clear HB
         have BK131 := n0_
         have BK132 := n1_
         have BK136 := n2_
         have BK142 := n3_
         have HB := n4_
         clear n0_ n1_ n2_ n3_ n4_
         refine jX (n := 6) (S := fun w' => w'.cell? ⟨gb136, 0, none⟩ = some (.int .i64 x137000_1) ∧ w'.cell? ⟨gb136, 1, none⟩ = some (.int .i64 x137001_1) ∧ w'.cell? ⟨gb131, 0, none⟩ = some (.int .i64 a1_0) ∧ w'.cell? ⟨gb131, 1, none⟩ = some (.int .i64 a1_1) ∧ w'.cell? ⟨gb142, 0, none⟩ = some (.int .i64 ((bN y137 x20_1).f0)) ∧ w'.cell? ⟨gb142, 1, none⟩ = some (.int .i64 ((bN y137 x20_1).f1))) (ds := [5]) #[false, false, false, false, false, false] (by kernel_rfl) rfl rfl ⟨(aE BK136.out 0).trans rfl, (aE BK136.out 1).trans rfl, (aE BK131.out 0).trans rfl, (aE BK131.out 1).trans rfl, (aE BK142.out 0).trans rfl, (aE BK142.out 1).trans rfl⟩ (fun hHeld => ?_)
         generalize w31.drew = w32 at BK131 BK132 BK136 BK142 HB hHeld ⊢
         refine take_ (i := 0) (N := some 24) (v := ?_) (a' := ?_) #[true, false, false, false, false, false] rfl rfl (by kernel_rfl) (fun _ _ _ h => h) (Or.inl ⟨by rfl, ?_⟩) hHeld ?_ ?_
         rotate_left
         ·rintro w' ⟨s0, s1, s2, s3, s4, s5⟩
          go_simp
          with_reducible rfl
         rotate_left
         ·simp only [Act.put, List.setIfInBounds_toArray, List.set_cons_zero, List.set_cons_succ, cN, cO]
          rfl
         refine take_ (i := 1) (N := some 25) (v := ?_) (a' := ?_) #[true, true, false, false, false, false] rfl rfl (by kernel_rfl) (fun _ _ _ h => h) (Or.inl ⟨by rfl, ?_⟩) hHeld ?_ ?_
         rotate_left
         ·rintro w' ⟨s0, s1, s2, s3, s4, s5⟩
          go_simp
          with_reducible rfl
         rotate_left
         ·simp only [Act.put, List.setIfInBounds_toArray, List.set_cons_zero, List.set_cons_succ, cN, cO]
          rfl
         refine take_ (i := 2) (N := some 26) (v := ?_) (a' := ?_) #[true, true, true, false, false, false] rfl rfl (by kernel_rfl) (fun _ _ _ h => h) (Or.inl ⟨by rfl, ?_⟩) hHeld ?_ ?_
         rotate_left
         ·rintro w' ⟨s0, s1, s2, s3, s4, s5⟩
          go_simp
          with_reducible rfl
         rotate_left
         ·simp only [Act.put, List.setIfInBounds_toArray, List.set_cons_zero, List.set_cons_succ, cN, cO]
          rfl
         refine pL (i := 3) (N := some 27) #[true, true, true, true, false, false] rfl rfl (by kernel_rfl) (by decide) (fun K hK => ?_)
         refine kB Tryz.func101 (by kernel_rfl) rfl #[.agg #[.int .i64 a1_0, .int .i64 a1_1], .agg #[.int .i64 ((bN y137 x20_1).f0), .int .i64 ((bN y137 x20_1).f1)]] (by rfl) rfl rfl (by (try simp only [List.map_toArray, List.map_cons, List.map_nil]); first | done | rfl | (simp only [List.length_drop, List.length_take]; rfl)) ?_
         with_reducible refine (dM.calls a1_0 a1_1 ((bN y137 x20_1).f0) ((bN y137 x20_1).f1) t143 t144 _ A24.out).mono ?_
         rintro e w33 ⟨rfl, hb⟩
         refine ⟨_, rfl, ?_⟩
         have n0_ := aA.mk (bD (g := gb131) (o := .cells #[.int .i64 a1_0, .int .i64 a1_1] 59 (0, 0)) (by (with_reducible repeat (first | refine aJ ?_ _ | refine aK ?_ | refine aI ?_ _)); exact BK131.out) hb)
         have n1_ := aA.mk (bD (g := gb132) (o := .cells #[.int .i64 0, .int .i64 0] 59 (0, 0)) (by (with_reducible repeat (first | refine aJ ?_ _ | refine aK ?_ | refine aI ?_ _)); exact BK132.out) hb)
         have n2_ := aA.mk (bD (g := gb136) (o := .cells #[.int .i64 x137000_1, .int .i64 x137001_1] 59 (0, 0)) (by (with_reducible repeat (first | refine aJ ?_ _ | refine aK ?_ | refine aI ?_ _)); exact BK136.out) hb)
         have n3_ := aA.mk (bD (g := gb142) (o := .cells #[.int .i64 ((bN y137 x20_1).f0), .int .i64 ((bN y137 x20_1).f1)] 59 (0, 0)) (by (with_reducible repeat (first | refine aJ ?_ _ | refine aK ?_ | refine aI ?_ _)); exact BK142.out) hb)
         have n4_ := aA.mk (aV (by repeat (first | (with_reducible first | exact HB.out | apply aC | apply pw_below_drewN | apply aD | refine aG ?_ GE131.out | refine aG ?_ GE132.out | refine aG ?_ GE136.out | refine aG ?_ GE142.out) | exact HB.out)) hb)
         clear BK131
         clear BK132
         clear BK136
         clear BK142
         clear HB
         have BK131 := n0_
         have BK132 := n1_
         have BK136 := n2_
         have BK142 := n3_
         have HB := n4_
         clear n0_ n1_ n2_ n3_ n4_
         (try clear hb)
         (try clear hb2)
         (try clear hk)
         (try clear hi)
         refine hK.out _ _ ⟨(aE BK136.out 0).trans rfl, (aE BK136.out 1).trans rfl, (aE BK131.out 0).trans rfl, (aE BK131.out 1).trans rfl, (aE BK142.out 0).trans rfl, (aE BK142.out 1).trans rfl⟩ (fun hHeld => ?_)
         clear hK K
         refine gG (a' := ?_) ?_ ?_
         rotate_left
         ·show Act.put _ (some 27) _ = _
          simp only [Act.put, List.setIfInBounds_toArray, List.set_cons_zero, List.set_cons_succ, cN, cO]
          rfl
         refine pL (i := 4) (N := some 28) #[true, true, true, true, true, false] rfl rfl (by kernel_rfl) (by decide) (fun K hK => ?_)
         refine kB Tryz.func102 (by kernel_rfl) rfl #[.agg #[.int .i64 x137000_1, .int .i64 x137001_1], .agg #[.int .i64 t143, .int .i64 t144]] (by rfl) rfl rfl (by (try simp only [List.map_toArray, List.map_cons, List.map_nil]); first | done | rfl | (simp only [List.length_drop, List.length_take]; rfl)) ?_
         with_reducible refine (eO.calls x137000_1 x137001_1 t143 t144 t145 t146 _ A25.out).mono ?_
         rintro e w34 ⟨rfl, hb⟩
         refine ⟨_, rfl, ?_⟩
         have n0_ := aA.mk (bD (g := gb131) (o := .cells #[.int .i64 a1_0, .int .i64 a1_1] 59 (0, 0)) (by (with_reducible repeat (first | refine aJ ?_ _ | refine aK ?_ | refine aI ?_ _)); exact BK131.out) hb)
         have n1_ := aA.mk (bD (g := gb132) (o := .cells #[.int .i64 0, .int .i64 0] 59 (0, 0)) (by (with_reducible repeat (first | refine aJ ?_ _ | refine aK ?_ | refine aI ?_ _)); exact BK132.out) hb)
         have n2_ := aA.mk (bD (g := gb136) (o := .cells #[.int .i64 x137000_1, .int .i64 x137001_1] 59 (0, 0)) (by (with_reducible repeat (first | refine aJ ?_ _ | refine aK ?_ | refine aI ?_ _)); exact BK136.out) hb)
         have n3_ := aA.mk (bD (g := gb142) (o := .cells #[.int .i64 ((bN y137 x20_1).f0), .int .i64 ((bN y137 x20_1).f1)] 59 (0, 0)) (by (with_reducible repeat (first | refine aJ ?_ _ | refine aK ?_ | refine aI ?_ _)); exact BK142.out) hb)
         have n4_ := aA.mk (aV (by repeat (first | (with_reducible first | exact HB.out | apply aC | apply pw_below_drewN | apply aD | refine aG ?_ GE131.out | refine aG ?_ GE132.out | refine aG ?_ GE136.out | refine aG ?_ GE142.out) | exact HB.out)) hb)
         clear BK131
         clear BK132
         clear BK136
         clear BK142
         clear HB
         have BK131 := n0_
         have BK132 := n1_
         have BK136 := n2_
         have BK142 := n3_
         have HB := n4_
         clear n0_ n1_ n2_ n3_ n4_
         (try clear hb)
         (try clear hb2)
         (try clear hk)
         (try clear hi)
         refine hK.out _ _ ⟨(aE BK136.out 0).trans rfl, (aE BK136.out 1).trans rfl, (aE BK131.out 0).trans rfl, (aE BK131.out 1).trans rfl, (aE BK142.out 0).trans rfl, (aE BK142.out 1).trans rfl⟩ (fun hHeld => ?_)
         clear hK K
         refine gG (a' := ?_) ?_ ?_
         rotate_left
         ·show Act.put _ (some 28) _ = _
          simp only [Act.put, List.setIfInBounds_toArray, List.set_cons_zero, List.set_cons_succ, cN, cO]
          rfl
         refine CL (i := 5) (N := none) #[true, true, true, true, true, true] rfl rfl (by kernel_rfl) (by decide) (fun K hK => ?_)
         have hs35 : w34.cell? ⟨gb136, 0, none⟩ = some (.int .i64 x137000_1) := (aE BK136.out 0).trans rfl
         have hfs35 := blk_frozen BK136.out 0
         have hns35_0 := NB131_136.out
         have hns35_1 := NB132_136.out
         have hns35_3 := NB142_136.out
         have hms35_0 := NB136_131.out
         have hms35_1 := NB136_132.out
         have hms35_3 := NB136_142.out
         have hs36 : w34.cell? ⟨gb136, 1, none⟩ = some (.int .i64 x137001_1) := (aE BK136.out 1).trans rfl
         have hfs36 := blk_frozen BK136.out 1
         have hns36_0 := NB131_136.out
         have hns36_1 := NB132_136.out
         have hns36_3 := NB142_136.out
         have hms36_0 := NB136_131.out
         have hms36_1 := NB136_132.out
         have hms36_3 := NB136_142.out
         refine BD (w1 := ?_) (by rfl) rfl ?_ ?_
         rotate_left
         ·go_simp
          rfl
         refine hK.out _ _ ?_
         clear hK K
         refine oA (by kernel_rfl) ?_
         try go_wp2
         go_roundg k1
         case measure => have := HK1.out; omega
         case rel => exact ⟨(wrap64 (x20_1 + 1)), (t145), (t146), (by first | rfl | (simp; done) | (simp [*]; done)), H', ⟨by have := HK1.out; omega⟩, ⟨by (with_reducible repeat (first | refine aJ ?_ _ | refine aK ?_ | refine aI ?_ _)); refine cZ ?_ NB131_136.out _; (with_reducible repeat (first | refine aJ ?_ _ | refine aK ?_ | refine aI ?_ _)); refine cZ ?_ NB131_136.out _; (with_reducible repeat (first | refine aJ ?_ _ | refine aK ?_ | refine aI ?_ _)); exact BK131.out⟩, ⟨by (with_reducible repeat (first | refine aJ ?_ _ | refine aK ?_ | refine aI ?_ _)); refine cZ ?_ NB132_136.out _; (with_reducible repeat (first | refine aJ ?_ _ | refine aK ?_ | refine aI ?_ _)); refine cZ ?_ NB132_136.out _; (with_reducible repeat (first | refine aJ ?_ _ | refine aK ?_ | refine aI ?_ _)); exact BK132.out⟩, ⟨by (with_reducible repeat (first | refine aJ ?_ _ | refine aK ?_ | refine aI ?_ _)); refine cW (cs := #[.int .i64 t145, .int .i64 x137001_1]) ?_ 1 _ rfl; (with_reducible repeat (first | refine aJ ?_ _ | refine aK ?_ | refine aI ?_ _)); refine cW (cs := #[.int .i64 x137000_1, .int .i64 x137001_1]) ?_ 0 _ rfl; (with_reducible repeat (first | refine aJ ?_ _ | refine aK ?_ | refine aI ?_ _)); exact BK136.out⟩, ⟨by repeat (first | (with_reducible first | exact HB.out | apply aC | apply pw_below_drewN | apply aD | refine aG ?_ GE131.out | refine aG ?_ GE132.out | refine aG ?_ GE136.out | refine aG ?_ GE142.out) | exact HB.out)⟩⟩
        ·rw [if_neg c23] at H
         exact absurd H (by simp)
       ·rw [if_neg c22] at H
        exact absurd H (by simp)
      ·rw [if_neg c21] at H
       have c21b0 : decide (x20_1 < (y137.length : Int)) = false := decide_eq_false c21
       clear c21
       simp only [Option.some.injEq, Prod.mk.injEq] at H
       obtain ⟨rfl, rfl⟩ := H
       have hnb37 := NB136_131.out
       have hnc37 := NB131_136.out
       have hnb38 := NB136_132.out
       have hnc38 := NB132_136.out
       have hcz39_0 : wr.cell? ⟨gb136, 0, none⟩ = some (.int .i64 x137000_1) := (aE BK136.out 0).trans rfl
       have hcz39_1 : wr.cell? ⟨gb136, 1, none⟩ = some (.int .i64 x137001_1) := (aE BK136.out 1).trans rfl
       have hfz39_0 := blk_frozen BK136.out 0
       have hfz39_1 := blk_frozen BK136.out 1
       have hnb40 := NB132_131.out
       have hnc40 := NB131_132.out
       have hcz41_0 : wr.cell? ⟨gb132, 0, none⟩ = some (.int .i64 0) := (aE BK132.out 0).trans rfl
       have hcz41_1 : wr.cell? ⟨gb132, 1, none⟩ = some (.int .i64 0) := (aE BK132.out 1).trans rfl
       have hfz41_0 := blk_frozen BK132.out 0
       have hfz41_1 := blk_frozen BK132.out 1
       go_wp2
       refine bodyPost_ret (results_cell_row rfl _ _ gb132 59 #[.int .i64 x137000_1, .int .i64 x137001_1] (0, 0) _ rfl (by (with_reducible repeat (first | refine aJ ?_ _ | refine aK ?_ | refine aI ?_ _)); refine cW (cs := #[.int .i64 x137000_1, .int .i64 0]) ?_ 1 _ rfl; (with_reducible repeat (first | refine aJ ?_ _ | refine aK ?_ | refine aI ?_ _)); refine cW (cs := #[.int .i64 0, .int .i64 0]) ?_ 0 _ rfl; (with_reducible repeat (first | refine aJ ?_ _ | refine aK ?_ | refine aI ?_ _)); exact BK132.out) Tryz.underlying59 rfl (by kernel_rfl)) rfl ?_
       exact ⟨by first | rfl | (simp [aN, aQ] <;> rfl) | (simp [*, aN, aQ] <;> rfl), by repeat (first | (with_reducible first | exact HB.out | apply aC | apply pw_below_drewN | apply aD | refine aG ?_ GE131.out | refine aG ?_ GE132.out | refine aG ?_ GE136.out) | exact HB.out)⟩
   ·rw [if_neg c10] at H
    exact absurd H (by simp)
  ·rw [if_neg c8] at H
   exact absurd H (by simp)
end Go.Proofs.YtpflmgbpjhbmnaaGreat.B
end
section
namespace Go.Proofs.YtpflmgbpjhbmnaaGreat.B
open Go.RowKit Go.Proofs.YtpflmgbpjhbmnaaGreatW.PrintWords Go.Proofs.YtpflmgbpjhbmnaaGreatW.PrintLast Go.Proofs.YtpflmgbpjhbmnaaGreatW.PrintMore
attribute [local go_sem] Go.Proofs.YtpflmgbpjhbmnaaGreat.str_gtr bZ cA cJ cK bT bU cB cC   -- for this text's walks alone
set_option linter.unusedVariables false
set_option linter.unusedSimpArgs false
def bO.l0 : Nat → List (S59) → List (S61) → List (S61) → Int → Int → Option ((List (S61)))
 | 0, _, _, _, _, _ => none
 | k + 1, x1, x5, x8, x9, x10 => if x10 < x9 then (if 0 ≤ x10 then (if x10 < (x8.length : Int) then ((bP.f ((aX x8 x10).f0)).bind fun t149 => ((cE.f k x1 ((aX x8 x10).f1.f0) ((aX x8 x10).f1.f1)).bind fun bt152 => (if x5.length < 2932031007402 then (bO.l0 k x1 (x5 ++ [(⟨t149, (⟨bt152.1, bt152.2⟩ : S59), (aX x8 x10).f2⟩ : S61)]) x8 x9 (wrap64 (x10 + 1))) else (none)))) else (none)) else (none)) else (some x5)
def bO.f (k : Nat) (l0 : List (S61)) (l1 : List (S59)) : Option ((List (S61))) := bO.l0 k l1 ([] : List (S61)) l0 (l0.length : Int) 0
theorem bO.mono_l : ∀ k, (∀ y0 y1 y2 y3 y4, LeO (bO.l0 k y0 y1 y2 y3 y4) (bO.l0 (k + 1) y0 y1 y2 y3 y4))
 | 0 => fun _ _ _ _ _ r h => by simp [bO.l0] at h
 | k + 1 => by
  have ih0 := bO.mono_l k
  ·intro y0 y1 y2 y3 y4
   unfold bO.l0
   repeat' first
   | (with_reducible exact ih0 _ _ _ _ _)
   | (with_reducible exact cE.mono _ _ _ _)
   | (with_reducible exact LeO.refl _)
   | (with_reducible exact LeO.none _)
   | (with_reducible refine LeO.ite ?_ ?_)
   | (with_reducible refine LeO.bind ?_ (fun _ => ?_))
   | exact ih0 _ _ _ _ _
   | exact cE.mono _ _ _ _
   | exact LeO.none _
   | refine LeO.ite ?_ ?_
   | refine LeO.bind ?_ (fun _ => ?_)
theorem bO.mono : ∀ a0 a1 k, LeO (bO.f k a0 a1) (bO.f (k + 1) a0 a1) := by
 intro a0 a1 k
 have ih0 := bO.mono_l k
 unfold bO.f
 repeat' first
   | (with_reducible exact ih0 _ _ _ _ _)
   | (with_reducible exact cE.mono _ _ _ _)
   | (with_reducible exact LeO.refl _)
   | (with_reducible exact LeO.none _)
   | (with_reducible refine LeO.ite ?_ ?_)
   | (with_reducible refine LeO.bind ?_ (fun _ => ?_))
   | exact ih0 _ _ _ _ _
   | exact cE.mono _ _ _ _
   | exact LeO.none _
   | refine LeO.ite ?_ ?_
   | refine LeO.bind ?_ (fun _ => ?_)
def bO.T5 : Bool × List (List Nat × List Nat) := (true, [([], []), ([], []), ([1], [1]), ([2], [2]), ([], []), ([], []), ([5], [5]), ([4, 6, 3], [4, 6]), ([], []), ([8], [8]), ([3, 7, 9], [3, 7, 9]), ([10], [10]), ([0, 11, 7], [0, 11]), ([12, 12, 0, 1, 2, 3, 4, 5, 6, 7, 8, 9, 10, 11, 12], [0, 12])])
def bO.B5 : List Nat := [0, 0, 2, 6, 0, 0, 32, 126, 0, 256, 1022, 2046, 4095, 8191]
theorem bO.tab5 : rtab .any (wJ Tryz.f53 5) = bO.T5 := by kernel_rfl
theorem bO.bits5 : gV bO.T5.2 bO.B5 = true := by kernel_rfl
set_option maxHeartbeats 8000000 in
set_option maxRecDepth 100000 in
theorem bO.calls (k : Nat) (A0 : Option Addr) (c0 : Nat) (l0 : List (S61)) (A1 : Option Addr) (c1 : Nat) (l1 : List (S59)) (r : List (S61)) (w : World) (hr0 : Kd.C k61 w A0 l0.length l0) (hc0 : l0.length ≤ c0) (hr1 : Kd.C k59 w A1 l1.length l1) (hc1 : l1.length ≤ c1) (h : bO.f k l0 l1 = some r) :
  Calls Tryz.prog 53 #[.slice A0 l0.length c0, .slice A1 l1.length c1] w fun e w' => ∃ v0_ : Value, e = .returned (v0_) ∧ Kd.S k61 61 w' w.heap.size (fun _ => True) v0_ r ∧ Below w.heap.size w w' := by
 have hu61 := Tryz.underlying61
 have hu59 := Tryz.underlying59
 have HR0 := aA.mk hr0
 have HC0 := aA.mk hc0
 clear hr0 hc0
 have HR1 := aA.mk hr1
 have HC1 := aA.mk hc1
 clear hr1 hc1
 have HB := aA.mk (Below.refl w.heap.size w)
 have H : (bO.l0 k l1 ([] : List (S61)) l0 (l0.length : Int) 0) = some r := h
 clear h
 have H' := aA.mk H
 clear H
 go_enter Tryz.func53, Tryz.ntmps53
 go_wp2
 go_loopg [5, 10] k (fun kq v5 v10 w' => ∃ (x5_1 : List (S61)) (x10_1 : Int), v10 = .int .i64 x10_1 ∧ aA (bO.l0 kq l1 x5_1 l0 (l0.length : Int) x10_1 = some r) ∧ aA (kq ≤ k) ∧ aA (Kd.S k61 61 w' w.heap.size (fun _ => True) v5 x5_1) ∧ aA (Below w.heap.size w w'))
 case atStart => exact ⟨(([] : List (S61))), (0), (by first | rfl | (simp; done) | (simp [*]; done)), H', ⟨Nat.le_refl _⟩, ⟨by first | exact Kd.S_nil _ _ _ _ _ | exact Kd.N_nil _ _ _ _ _ | exact Kd.V_nil _ _ _ _ _ | exact Kd.Q_nil _ _ _ _ _ | exact Kd.R_nil _ _ _ _ _⟩, ⟨by repeat (first | (with_reducible first | exact HB.out | apply aC | apply pw_below_drewN | apply aD) | exact HB.out)⟩⟩
 case round =>
  clear H'
  try clear c1
  try clear p2
  obtain ⟨x5_1, x10_1, rfl, HA, HK1, HO_5, HB⟩ := hrel
  cases gk with
  | zero => exact absurd HA.out (by simp [bO.l0])
  | succ k1 =>
   have H := HA.out
   clear HA
   simp only [bO.l0] at H
   by_cases c3 : x10_1 < (l0.length : Int)
   ·rw [if_pos c3] at H
    have c3b0 : decide (x10_1 < (l0.length : Int)) = true := decide_eq_true c3
    clear c3
    by_cases c4 : 0 ≤ x10_1
    ·rw [if_pos c4] at H
     have c4b0 : decide (0 ≤ x10_1) = true := decide_eq_true c4
     clear c4
     by_cases c5 : x10_1 < (l0.length : Int)
     ·rw [if_pos c5] at H
      have c5b0 : decide (x10_1 < (l0.length : Int)) = true := decide_eq_true c5
      clear c5
      replace H := Option.bind_eq_some_iff.mp H
      obtain ⟨t149, A60, H⟩ := H
      replace H : ((cE.f k1 l1 ((aX l0 x10_1).f1.f0) ((aX l0 x10_1).f1.f1)).bind fun bt152 => (if x5_1.length < 2932031007402 then (bO.l0 k1 l1 (x5_1 ++ [(⟨t149, (⟨bt152.1, bt152.2⟩ : S59), (aX l0 x10_1).f2⟩ : S61)]) l0 (l0.length : Int) (wrap64 (x10_1 + 1))) else (none))) = some r := H
      have A6 := aA.mk A60
      clear A60
      replace H := Option.bind_eq_some_iff.mp H
      obtain ⟨⟨t152, t153⟩, A70, H⟩ := H
      replace H : (if x5_1.length < 2932031007402 then (bO.l0 k1 l1 (x5_1 ++ [(⟨t149, (⟨t152, t153⟩ : S59), (aX l0 x10_1).f2⟩ : S61)]) l0 (l0.length : Int) (wrap64 (x10_1 + 1))) else (none)) = some r := H
      have A7 := aA.mk A70
      clear A70
      by_cases c8 : x5_1.length < 2932031007402
      ·rw [if_pos c8] at H
       have LMc8 := aA.mk c8
       clear c8
       obtain ⟨y154, hy154⟩ : ∃ y_ : List (S61), y_ = (x5_1 ++ [(⟨t149, (⟨t152, t153⟩ : S59), (aX l0 x10_1).f2⟩ : S61)]) := ⟨_, rfl⟩
       replace H : (bO.l0 k1 l1 y154 l0 (l0.length : Int) (wrap64 (x10_1 + 1))) = some r := by first | (rw [hy154]; with_reducible exact H) | (have H2_ := (Option.bind_some _ _).symm.trans H; rw [hy154]; with_reducible exact H2_) | (have H2_ := (Option.bind_some _ _).symm.trans H; with_reducible exact H2_) | with_reducible exact H | (rw [hy154]; exact H) | exact H
       have Ny154 := aA.mk hy154
       clear hy154
       have H' := aA.mk H
       clear H
       have p147 : 0 ≤ (x10_1 : Int) := of_decide_eq_true (by first | (with_reducible assumption) | assumption)
       have q147 : x10_1 < (l0.length : Int) := of_decide_eq_true (by first | (with_reducible assumption) | assumption)
       obtain ⟨ad147, A147_0, c147_0, e147, hx147_0, hx147_1, hx147_2, hx147_3, hl147_0, hi147_0⟩ := eJ HR0.out x10_1 p147 q147
       cases e147
       replace hx147_0 := (HB.out.cell (World.block_lt_of_cell? w _ hx147_0)).trans hx147_0
       replace hx147_1 := (HB.out.cell (World.block_lt_of_cell? w _ hx147_1)).trans hx147_1
       replace hx147_2 := (HB.out.cell (World.block_lt_of_cell? w _ hx147_2)).trans hx147_2
       replace hx147_3 := (HB.out.cell (World.block_lt_of_cell? w _ hx147_3)).trans hx147_3
       have HR147_0 := aA.mk hi147_0
       have HC147_0 := aA.mk hl147_0
       clear hi147_0 hl147_0
       replace p147 := eq_true p147
       replace q147 := eq_true q147
       try go_wp2_with (first | ((with_reducible refine bK (N := 7) rfl ?_); refine bG ?hg (N := 7) ?hd (cs := #[.slice none 0 0, .int .i64 0, .int .i64 0, .int .i64 0]) (t := 61) ?hr ?_; (case hd => rfl); (case hg => rfl); (case hr => first | (go_simp; done) | (go_simp; rfl)); intro gb148 hg w9 hbox hb; have n0_ := aA.mk (Kd.S_below (Kd.S_elderB (by (with_reducible repeat (first | apply Kd.S_alloc | apply Kd.S_drewN | apply Kd.S_drew)); exact HO_5.out) gb148 (Nat.le_of_eq hg.symm)) hb); have n1_ := aA.mk (aV (by repeat (first | (with_reducible first | exact HB.out | apply aC | apply pw_below_drewN | apply aD) | exact HB.out)) hb); have n2_ := aA.mk (hbox); have n3_ := aA.mk ((by rw [hg]; exact (aM (by repeat (first | (with_reducible first | exact HB.out | apply aC | apply pw_below_drewN | apply aD) | exact HB.out))) : w.heap.size ≤ gb148)); have n4_ := aA.mk ((by rw [hg]; exact (aM (by repeat (first | (with_reducible first | exact HB.out | apply aC | apply pw_below_drewN | apply aD) | exact HB.out))) : w.heap.size ≤ gb148)); clear HO_5; clear HB; have HO_5 := n0_; have HB := n1_; have BK148 := n2_; have GW148 := n3_; have GE148 := n4_; clear n0_ n1_ n2_ n3_ n4_; clear hb hbox hg; have hcz10_0 : w9.cell? ⟨gb148, 0, none⟩ = some (.slice none 0 0) := (aE BK148.out 0).trans rfl; have hcz10_1 : w9.cell? ⟨gb148, 1, none⟩ = some (.int .i64 0) := (aE BK148.out 1).trans rfl; have hcz10_2 : w9.cell? ⟨gb148, 2, none⟩ = some (.int .i64 0) := (aE BK148.out 2).trans rfl; have hcz10_3 : w9.cell? ⟨gb148, 3, none⟩ = some (.int .i64 0) := (aE BK148.out 3).trans rfl; have hfz10_0 := blk_frozen BK148.out 0; have hfz10_1 := blk_frozen BK148.out 1; have hfz10_2 := blk_frozen BK148.out 2; have hfz10_3 := blk_frozen BK148.out 3))
       have n0_ : aA (Kd.S k61 61 ((((w9.setCell ⟨gb148, 0, none⟩ (.slice A147_0 ((aX l0 x10_1).f0).length c147_0)).setCell ⟨gb148, 1, none⟩ (.int .i64 ((aX l0 x10_1).f1.f0))).setCell ⟨gb148, 2, none⟩ (.int .i64 ((aX l0 x10_1).f1.f1))).setCell ⟨gb148, 3, none⟩ (.int .i64 ((aX l0 x10_1).f2))) w.heap.size (fun k_ => k_ ≠ gb148) u5 x5_1) := ⟨by (with_reducible repeat (first | apply Kd.S_alloc | apply Kd.S_drewN | apply Kd.S_drew)); exact Kd.S_mono (Kd.S_far (p := ⟨gb148, 3, none⟩) (Kd.S_far (p := ⟨gb148, 2, none⟩) (Kd.S_far (p := ⟨gb148, 1, none⟩) (Kd.S_far (p := ⟨gb148, 0, none⟩) (Kd.S_mono HO_5.out (fun k_ hk => (⟨hk, hk.2⟩ : _ ∧ k_ ≠ gb148))) (fun _ hk => hk.2) (.slice A147_0 ((aX l0 x10_1).f0).length c147_0)) (fun _ hk => hk.2) (.int .i64 ((aX l0 x10_1).f1.f0))) (fun _ hk => hk.2) (.int .i64 ((aX l0 x10_1).f1.f1))) (fun _ hk => hk.2) (.int .i64 ((aX l0 x10_1).f2))) (fun _ hk => hk.1.2)⟩
       have n1_ : aA (((((w9.setCell ⟨gb148, 0, none⟩ (.slice A147_0 ((aX l0 x10_1).f0).length c147_0)).setCell ⟨gb148, 1, none⟩ (.int .i64 ((aX l0 x10_1).f1.f0))).setCell ⟨gb148, 2, none⟩ (.int .i64 ((aX l0 x10_1).f1.f1))).setCell ⟨gb148, 3, none⟩ (.int .i64 ((aX l0 x10_1).f2))).heap[gb148]? = some (.cells #[.slice A147_0 ((aX l0 x10_1).f0).length c147_0, .int .i64 ((aX l0 x10_1).f1.f0), .int .i64 ((aX l0 x10_1).f1.f1), .int .i64 ((aX l0 x10_1).f2)] 61 (0, 0))) := ⟨by (with_reducible repeat (first | refine aJ ?_ _ | refine aK ?_ | refine aI ?_ _)); refine cW (cs := #[.slice A147_0 ((aX l0 x10_1).f0).length c147_0, .int .i64 ((aX l0 x10_1).f1.f0), .int .i64 ((aX l0 x10_1).f1.f1), .int .i64 0]) ?_ 3 _ rfl; (with_reducible repeat (first | refine aJ ?_ _ | refine aK ?_ | refine aI ?_ _)); refine cW (cs := #[.slice A147_0 ((aX l0 x10_1).f0).length c147_0, .int .i64 ((aX l0 x10_1).f1.f0), .int .i64 0, .int .i64 0]) ?_ 2 _ rfl; (with_reducible repeat (first | refine aJ ?_ _ | refine aK ?_ | refine aI ?_ _)); refine cW (cs := #[.slice A147_0 ((aX l0 x10_1).f0).length c147_0, .int .i64 0, .int .i64 0, .int .i64 0]) ?_ 1 _ rfl; (with_reducible repeat (first | refine aJ ?_ _ | refine aK ?_ | refine aI ?_ _)); refine cW (cs := #[.slice none 0 0, .int .i64 0, .int .i64 0, .int .i64 0]) ?_ 0 _ rfl; (with_reducible repeat (first | refine aJ ?_ _ | refine aK ?_ | refine aI ?_ _)); exact BK148.out⟩
       have n2_ : aA (Below w.heap.size w ((((w9.setCell ⟨gb148, 0, none⟩ (.slice A147_0 ((aX l0 x10_1).f0).length c147_0)).setCell ⟨gb148, 1, none⟩ (.int .i64 ((aX l0 x10_1).f1.f0))).setCell ⟨gb148, 2, none⟩ (.int .i64 ((aX l0 x10_1).f1.f1))).setCell ⟨gb148, 3, none⟩ (.int .i64 ((aX l0 x10_1).f2)))) := ⟨by repeat (first | (with_reducible first | exact HB.out | apply aC | apply pw_below_drewN | apply aD | refine aG ?_ GE148.out) | exact HB.out)⟩
       (try clear HO_5)
       (try clear BK148)
       (try clear HB)
       generalize ((((w9.setCell ⟨gb148, 0, none⟩ (.slice A147_0 ((aX l0 x10_1).f0).length c147_0)).setCell ⟨gb148, 1, none⟩ (.int .i64 ((aX l0 x10_1).f1.f0))).setCell ⟨gb148, 2, none⟩ (.int .i64 ((aX l0 x10_1).f1.f1))).setCell ⟨gb148, 3, none⟩ (.int .i64 ((aX l0 x10_1).f2))) = w11 at n0_ n1_ n2_ ⊢
       have HO_5 := n0_
       have BK148 := n1_
       have HB := n2_
       clear n0_ n1_ n2_
       have n0_ := aA.mk (Kd.S_drew HO_5.out)
       have n1_ := aA.mk (aK BK148.out)
       have n2_ := aA.mk (aD HB.out)
       clear HO_5
       clear BK148
       clear HB
       have HO_5 := n0_
       have BK148 := n1_
       have HB := n2_
       clear n0_ n1_ n2_
       refine jX (n := 14) (S := fun w' => w'.cell? ⟨gb148, 0, none⟩ = some (.slice A147_0 ((aX l0 x10_1).f0).length c147_0) ∧ w'.cell? ⟨gb148, 1, none⟩ = some (.int .i64 ((aX l0 x10_1).f1.f0)) ∧ w'.cell? ⟨gb148, 2, none⟩ = some (.int .i64 ((aX l0 x10_1).f1.f1)) ∧ w'.cell? ⟨gb148, 3, none⟩ = some (.int .i64 ((aX l0 x10_1).f2))) (ds := []) #[false, false, false, false, false, false, false, false, false, false, false, false, false, false] (by kernel_rfl) rfl rfl ⟨(aE BK148.out 0).trans rfl, (aE BK148.out 1).trans rfl, (aE BK148.out 2).trans rfl, (aE BK148.out 3).trans rfl⟩ (fun hHeld => ?_); refine fY bO.tab5 bO.bits5 (fun HT_ HW_ => ?_)
       generalize w11.drew = w12 at HO_5 BK148 HB hHeld ⊢
       refine dJ (i := 0) (N := some 14) (v := ?_) (a' := ?_) #[true, false, false, false, false, false, false, false, false, false, false, false, false, false] rfl rfl (cV HT_.out (by kernel_rfl)) (fun _ _ _ h => h) (Or.inl ⟨by rfl, ?_⟩) ?_ ?_
       rotate_left
       ·intro w'
        go_simp
        with_reducible rfl
       rotate_left
       ·simp only [Act.put, List.setIfInBounds_toArray, List.set_cons_zero, List.set_cons_succ, cN, cO]
        rfl
       refine dJ (i := 1) (N := some 15) (v := ?_) (a' := ?_) #[true, true, false, false, false, false, false, false, false, false, false, false, false, false] rfl rfl (cV HT_.out (by kernel_rfl)) (fun _ _ _ h => h) (Or.inl ⟨by rfl, ?_⟩) ?_ ?_
       rotate_left
       ·intro w'
        go_simp
        with_reducible rfl
       rotate_left
       ·simp only [Act.put, List.setIfInBounds_toArray, List.set_cons_zero, List.set_cons_succ, cN, cO]
        rfl
       refine dJ (i := 4) (N := some 18) (v := ?_) (a' := ?_) #[true, true, false, false, true, false, false, false, false, false, false, false, false, false] rfl rfl (cV HT_.out (by kernel_rfl)) (fun _ _ _ h => h) (Or.inl ⟨by rfl, ?_⟩) ?_ ?_
       rotate_left
       ·intro w'
        go_simp
        with_reducible rfl
       rotate_left
       ·simp only [Act.put, List.setIfInBounds_toArray, List.set_cons_zero, List.set_cons_succ, cN, cO]
        rfl
       refine dJ (i := 5) (N := some 19) (v := ?_) (a' := ?_) #[true, true, false, false, true, true, false, false, false, false, false, false, false, false] rfl rfl (cV HT_.out (by kernel_rfl)) (fun _ _ _ h => h) (Or.inl ⟨by rfl, ?_⟩) ?_ ?_
       rotate_left
       ·intro w'
        go_simp
        with_reducible rfl
       rotate_left
       ·simp only [Act.put, List.setIfInBounds_toArray, List.set_cons_zero, List.set_cons_succ, cN, cO]
        rfl
       refine dJ (i := 8) (N := some 22) (v := ?_) (a' := ?_) #[true, true, false, false, true, true, false, false, true, false, false, false, false, false] rfl rfl (cV HT_.out (by kernel_rfl)) (fun _ _ _ h => h) (Or.inl ⟨by rfl, ?_⟩) ?_ ?_
       rotate_left
       ·intro w'
        go_simp
        with_reducible rfl
       rotate_left
       ·simp only [Act.put, List.setIfInBounds_toArray, List.set_cons_zero, List.set_cons_succ, cN, cO]
        rfl
       refine take_ (i := 2) (N := some 16) (v := ?_) (a' := ?_) #[true, true, true, false, true, true, false, false, true, false, false, false, false, false] rfl rfl (eP HT_.out HW_.out (by kernel_rfl)) (fun _ _ _ h => h) (Or.inl ⟨by rfl, ?_⟩) hHeld ?_ ?_
       rotate_left
       ·rintro w' ⟨s0, s1, s2, s3⟩
        go_simp
        with_reducible rfl
       rotate_left
       ·simp only [Act.put, List.setIfInBounds_toArray, List.set_cons_zero, List.set_cons_succ, cN, cO]
        rfl
       refine take_ (i := 6) (N := some 20) (v := ?_) (a' := ?_) #[true, true, true, false, true, true, true, false, true, false, false, false, false, false] rfl rfl (eP HT_.out HW_.out (by kernel_rfl)) (fun _ _ _ h => h) (Or.inl ⟨by rfl, ?_⟩) hHeld ?_ ?_
       rotate_left
       ·rintro w' ⟨s0, s1, s2, s3⟩
        go_simp
        with_reducible rfl
       rotate_left
       ·simp only [Act.put, List.setIfInBounds_toArray, List.set_cons_zero, List.set_cons_succ, cN, cO]
        rfl
       refine take_ (i := 9) (N := some 23) (v := ?_) (a' := ?_) #[true, true, true, false, true, true, true, false, true, true, false, false, false, false] rfl rfl (eP HT_.out HW_.out (by kernel_rfl)) (fun _ _ _ h => h) (Or.inl ⟨by rfl, ?_⟩) hHeld ?_ ?_
       rotate_left
       ·rintro w' ⟨s0, s1, s2, s3⟩
        go_simp
        with_reducible rfl
       rotate_left
       ·simp only [Act.put, List.setIfInBounds_toArray, List.set_cons_zero, List.set_cons_succ, cN, cO]
        rfl
       refine pL (i := 3) (N := some 17) #[true, true, true, true, true, true, true, false, true, true, false, false, false, false] rfl rfl (iI HT_.out (by kernel_rfl)) (by decide) (fun K hK => ?_)
       refine kB Tryz.func68 (by kernel_rfl) rfl #[.slice A147_0 ((aX l0 x10_1).f0).length c147_0] (by rfl) rfl rfl (by (try simp only [List.map_toArray, List.map_cons, List.map_nil]); first | done | rfl | (simp only [List.length_drop, List.length_take]; rfl)) ?_
       with_reducible refine (bP.calls _ _ ((aX l0 x10_1).f0) t149 _ ?side1 ?side2 A6.out).mono ?_
       (case side1 => repeat (first | exact (Kd.C_below HR147_0.out HB.out) | (with_reducible refine Kd.C_alloc ?_ _) | (with_reducible refine Kd.C_drewN ?_ _) | (with_reducible refine Kd.C_drew ?_)))
       (case side2 => exact HC147_0.out)
       rintro e w13 ⟨v150, rfl, ho0, hb⟩
       refine ⟨_, rfl, ?_⟩
       have n0_ := aA.mk (Kd.S_elder' (by (with_reducible repeat (first | apply Kd.S_alloc | apply Kd.S_drewN | apply Kd.S_drew)); exact HO_5.out) (Kd.R_base ho0) hb)
       have n1_ := aA.mk (Kd.R_lower ho0 (aM (by repeat (first | (with_reducible first | exact HB.out | apply aC | apply pw_below_drewN | apply aD | refine aG ?_ GE148.out) | exact HB.out))))
       have n2_ := aA.mk (bD (g := gb148) (o := .cells #[.slice A147_0 ((aX l0 x10_1).f0).length c147_0, .int .i64 ((aX l0 x10_1).f1.f0), .int .i64 ((aX l0 x10_1).f1.f1), .int .i64 ((aX l0 x10_1).f2)] 61 (0, 0)) (by (with_reducible repeat (first | refine aJ ?_ _ | refine aK ?_ | refine aI ?_ _)); exact BK148.out) hb)
       have n3_ := aA.mk (aV (by repeat (first | (with_reducible first | exact HB.out | apply aC | apply pw_below_drewN | apply aD | refine aG ?_ GE148.out) | exact HB.out)) hb)
       clear HO_5
       clear BK148
       clear HB
       have HO_5 := n0_
       have HO151 := n1_
       have BK148 := n2_
       have HB := n3_
       clear n0_ n1_ n2_ n3_
       (try clear hb)
       (try clear hb2)
       (try clear hk)
       (try clear hi)
       (try clear ho0)
       refine hK.out _ _ ⟨(aE BK148.out 0).trans rfl, (aE BK148.out 1).trans rfl, (aE BK148.out 2).trans rfl, (aE BK148.out 3).trans rfl⟩ (fun hHeld => ?_)
       clear hK K
       refine gG (a' := ?_) ?_ ?_
       rotate_left
       ·show Act.put _ (some 17) _ = _
        simp only [Act.put, List.setIfInBounds_toArray, List.set_cons_zero, List.set_cons_succ, cN, cO]
        rfl
       refine pL (i := 7) (N := some 21) #[true, true, true, true, true, true, true, true, true, true, false, false, false, false] rfl rfl (iI HT_.out (by kernel_rfl)) (by decide) (fun K hK => ?_)
       refine kB Tryz.func77 (by kernel_rfl) rfl #[.slice A1 l1.length c1, .agg #[.int .i64 ((aX l0 x10_1).f1.f0), .int .i64 ((aX l0 x10_1).f1.f1)]] (by rfl) rfl rfl (by (try simp only [List.map_toArray, List.map_cons, List.map_nil]); first | done | rfl | (simp only [List.length_drop, List.length_take]; rfl)) ?_
       with_reducible refine (cE.calls k1 _ _ l1 ((aX l0 x10_1).f1.f0) ((aX l0 x10_1).f1.f1) t152 t153 _ ?side1 ?side2 A7.out).mono ?_
       (case side1 => repeat (first | exact (Kd.C_below HR1.out HB.out) | (with_reducible refine Kd.C_alloc ?_ _) | (with_reducible refine Kd.C_drewN ?_ _) | (with_reducible refine Kd.C_drew ?_)))
       (case side2 => exact HC1.out)
       rintro e w14 ⟨rfl, hb⟩
       refine ⟨_, rfl, ?_⟩
       have n0_ := aA.mk (Kd.S_below (by (with_reducible repeat (first | apply Kd.S_alloc | apply Kd.S_drewN | apply Kd.S_drew)); exact HO_5.out) hb)
       have n1_ := aA.mk (Kd.R_below (by (with_reducible repeat (first | apply Kd.R_alloc | apply Kd.R_drewN | apply Kd.R_drew)); exact HO151.out) hb)
       have n2_ := aA.mk (bD (g := gb148) (o := .cells #[.slice A147_0 ((aX l0 x10_1).f0).length c147_0, .int .i64 ((aX l0 x10_1).f1.f0), .int .i64 ((aX l0 x10_1).f1.f1), .int .i64 ((aX l0 x10_1).f2)] 61 (0, 0)) (by (with_reducible repeat (first | refine aJ ?_ _ | refine aK ?_ | refine aI ?_ _)); exact BK148.out) hb)
       have n3_ := aA.mk (aV (by repeat (first | (with_reducible first | exact HB.out | apply aC | apply pw_below_drewN | apply aD | refine aG ?_ GE148.out) | exact HB.out)) hb)
       clear HO_5
       clear HO151
       clear BK148
       clear HB
       have HO_5 := n0_
       have HO151 := n1_
       have BK148 := n2_
       have HB := n3_
       clear n0_ n1_ n2_ n3_
       (try clear hb)
       (try clear hb2)
       (try clear hk)
       (try clear hi)
       obtain ⟨Ao15, co15, eo15⟩ := Kd.R_slice HO151.out
       (first | subst eo15 | (injection eo15 with f1_ f2_ f3_; have f4_ := f1_.symm; have f5_ := f3_.symm; clear f1_ f2_ f3_; subst f4_; subst f5_))
       refine hK.out _ _ ⟨(aE BK148.out 0).trans rfl, (aE BK148.out 1).trans rfl, (aE BK148.out 2).trans rfl, (aE BK148.out 3).trans rfl⟩ (fun hHeld => ?_)
       clear hK K
       refine gG (a' := ?_) ?_ ?_
       rotate_left
       ·show Act.put _ (some 21) _ = _
        simp only [Act.put, List.setIfInBounds_toArray, List.set_cons_zero, List.set_cons_succ, cN, cO]
        rfl
       refine dJ (i := 10) (N := some 24) (v := ?_) (a' := ?_) #[true, true, true, true, true, true, true, true, true, true, true, false, false, false] rfl rfl (cV HT_.out (by kernel_rfl)) (fun _ _ _ h => h) (Or.inl ⟨by rfl, ?_⟩) ?_ ?_
       rotate_left
       ·intro w'
        go_simp
        with_reducible rfl
       rotate_left
       ·simp only [Act.put, List.setIfInBounds_toArray, List.set_cons_zero, List.set_cons_succ, cN, cO]
        rfl
       refine pL (i := 11) (N := some 25) #[true, true, true, true, true, true, true, true, true, true, true, true, false, false] rfl rfl (iI HT_.out (by kernel_rfl)) (by decide) (fun K hK => ?_)
       refine BC (w1 := ?_) (v := ?_) (by rfl) rfl ?_ ?_
       rotate_left 2
       ·go_simp
        constructor
        ·rfl
        ·rfl
       refine hK.out _ _ ⟨(aE (aI BK148.out _) 0).trans rfl, (aE (aI BK148.out _) 1).trans rfl, (aE (aI BK148.out _) 2).trans rfl, (aE (aI BK148.out _) 3).trans rfl⟩ (fun hHeld => ?_)
       clear hK K
       refine gG (a' := ?_) ?_ ?_
       rotate_left
       ·show Act.put _ (some 25) _ = _
        simp only [Act.put, List.setIfInBounds_toArray, List.set_cons_zero, List.set_cons_succ, cN, cO]
        rfl
       refine pL (i := 12) (N := some 26) #[true, true, true, true, true, true, true, true, true, true, true, true, true, false] rfl rfl (iI HT_.out (by kernel_rfl)) (by decide) (fun K hK => ?_)
       refine Kd.S_append_step k61 (w0 := w) w.heap.size (by rfl) (.tmp 14) (.tmp 25) 22 61 (.agg #[(.slice none 0 0), (.int .i64 0), (.int .i64 0), (.int .i64 0)]) 48 rfl Tryz.underlying22 mE rfl (by decide) (by omega) u5 x5_1 (⟨t149, (⟨t152, t153⟩ : S59), (aX l0 x10_1).f2⟩ : S61) [.slice Ao15 t149.length co15, .int .i64 t152, .int .i64 t153, .int .i64 ((aX l0 x10_1).f2)] (fun k_ => k_ ≠ gb148) (fun k_ => some k_ = (.slice Ao15 t149.length co15 : Value).ownBlock) rfl rfl ?aP (fun k_ hk_ => ((Kd.R_mono (ok' := fun k_ => ((fun k_ => k_ ≠ gb148)) k_ ∧ some k_ ≠ (u5 : Value).ownBlock) (Kd.R_types (Kd.R_apart' (HO151.out) (Kd.S_typed HO_5.out) (by decide)) BK148.out (by decide)) (fun k_ hk => ⟨hk.2, hk.1.2⟩))).1 k_ hk_.symm) ?aF ?aO ?aB ?aS ?aL ?_
       (case aP => exact kU _ _ _ (⟨t149, (⟨t152, t153⟩ : S59), (aX l0 x10_1).f2⟩ : S61) (Kd.R_mono (Kd.R_tight rfl (Kd.R_mono (ok' := fun k_ => ((fun k_ => k_ ≠ gb148)) k_ ∧ some k_ ≠ (u5 : Value).ownBlock) (Kd.R_types (Kd.R_apart' (HO151.out) (Kd.S_typed HO_5.out) (by decide)) BK148.out (by decide)) (fun k_ hk => ⟨hk.2, hk.1.2⟩))) (fun _ h_ => h_)))
       (case aB => exact (by repeat (first | (with_reducible first | exact HB.out | apply aC | apply pw_below_drewN | apply aD | refine aG ?_ GE148.out) | exact HB.out)))
       (case aF => exact (fun k_ hk => Kd.freshB (g := gb148) (o := .cells #[.slice A147_0 ((aX l0 x10_1).f0).length c147_0, .int .i64 ((aX l0 x10_1).f1.f0), .int .i64 ((aX l0 x10_1).f1.f1), .int .i64 ((aX l0 x10_1).f2)] 61 (0, 0)) (by (with_reducible repeat (first | refine aJ ?_ _ | refine aK ?_ | refine aI ?_ _)); exact BK148.out) k_ hk))
       (case aO => exact (by (with_reducible repeat (first | apply Kd.S_alloc | apply Kd.S_drewN | apply Kd.S_drew)); exact Kd.S_mono HO_5.out (fun k_ hk => ⟨hk.1, fun e_ => hk.2 e_⟩)))
       (case aS => exact (aM (by repeat (first | (with_reducible first | exact HB.out | apply aC | apply pw_below_drewN | apply aD | refine aG ?_ GE148.out) | exact HB.out))))
       (case aL => have := LMc8.out; omega)
       intro v155 w16 ho hb hg hat
       rw [← Ny154.out] at ho
       have n0_ := aA.mk (sX (g := gb148) (o := .cells #[.slice A147_0 ((aX l0 x10_1).f0).length c147_0, .int .i64 ((aX l0 x10_1).f1.f0), .int .i64 ((aX l0 x10_1).f1.f1), .int .i64 ((aX l0 x10_1).f2)] 61 (0, 0)) (by (with_reducible repeat (first | refine aJ ?_ _ | refine aK ?_ | refine aI ?_ _)); exact BK148.out) hg (Kd.S_away HO_5.out (fun _ hk => hk.1)))
       have n1_ := aA.mk (hb)
       have n2_ := aA.mk (ho)
       clear BK148
       clear HB
       clear HO_5
       clear HO151
       have BK148 := n0_
       have HB := n1_
       have HO156 := n2_
       clear n0_ n1_ n2_
       clear ho hb hg hat
       refine hK.out _ _ ⟨(aE BK148.out 0).trans rfl, (aE BK148.out 1).trans rfl, (aE BK148.out 2).trans rfl, (aE BK148.out 3).trans rfl⟩ (fun hHeld => ?_)
       clear hK K
       refine gG (a' := ?_) ?_ ?_
       rotate_left
       ·show Act.put _ (some 26) _ = _
        simp only [Act.put, List.setIfInBounds_toArray, List.set_cons_zero, List.set_cons_succ, cN, cO]
        rfl
       refine dJ (i := 13) (N := some 5) (v := ?_) (a' := ?_) #[true, true, true, true, true, true, true, true, true, true, true, true, true, true] rfl rfl (cV HT_.out (by kernel_rfl)) (fun _ _ _ h => h) (Or.inl ⟨by rfl, ?_⟩) ?_ ?_
       rotate_left
       ·intro w'
        go_simp
        with_reducible rfl
       rotate_left
       ·simp only [Act.put, List.setIfInBounds_toArray, List.set_cons_zero, List.set_cons_succ, cN, cO]
        rfl
       refine oA (jJ HT_.out (by kernel_rfl)) ?_
       try go_wp2
       go_roundg k1
       case measure => have := HK1.out; omega
       case rel => exact ⟨(y154), (wrap64 (x10_1 + 1)), (by first | rfl | (simp; done) | (simp [*]; done)), H', ⟨by have := HK1.out; omega⟩, ⟨by (with_reducible repeat (first | apply Kd.S_alloc | apply Kd.S_drewN | apply Kd.S_drew)); exact Kd.S_mono HO156.out (fun _ hk => trivial)⟩, ⟨by repeat (first | (with_reducible first | exact HB.out | apply aC | apply pw_below_drewN | apply aD | refine aG ?_ GE148.out) | exact HB.out)⟩⟩
      ·rw [if_neg c8] at H
       exact absurd H (by simp)
     ·rw [if_neg c5] at H
      exact absurd H (by simp)
    ·rw [if_neg c4] at H
     exact absurd H (by simp)
   ·rw [if_neg c3] at H
    have c3b0 : decide (x10_1 < (l0.length : Int)) = false := decide_eq_false c3
    clear c3
    obtain rfl := Option.some.inj H
    go_wp2
    go_ret
    exact ⟨_, by first | rfl | (simp [aN, aQ] <;> rfl) | (simp [*, aN, aQ] <;> rfl), by (with_reducible repeat (first | apply Kd.S_alloc | apply Kd.S_drewN | apply Kd.S_drew)); exact HO_5.out, by repeat (first | (with_reducible first | exact HB.out | apply aC | apply pw_below_drewN | apply aD) | exact HB.out)⟩
end Go.Proofs.YtpflmgbpjhbmnaaGreat.B
end
section
namespace Go.Proofs.YtpflmgbpjhbmnaaGreat.B
open Go.RowKit Go.Proofs.YtpflmgbpjhbmnaaGreatW.PrintWords Go.Proofs.YtpflmgbpjhbmnaaGreatW.PrintLast Go.Proofs.YtpflmgbpjhbmnaaGreatW.PrintMore
attribute [local go_sem] Go.Proofs.YtpflmgbpjhbmnaaGreat.str_gtr bZ cA cJ cK bT bU cB cC   -- for this text's walks alone
set_option linter.unusedVariables false
set_option linter.unusedSimpArgs false
def bV.l0 : Nat → List (List (S85)) → List (List (S85)) → Int → Int → Option ((List (List (S85))))
 | 0, _, _, _, _ => none
 | k + 1, x3, x6, x7, x8 => if x8 < x7 then (if 0 ≤ x8 then (if x8 < (x6.length : Int) then ((bP.f (dH x6 x8)).bind fun t196 => (if x3.length < 5864062014805 then (bV.l0 k (x3 ++ [t196]) x6 x7 (wrap64 (x8 + 1))) else (none))) else (none)) else (none)) else (some x3)
def bV.f (k : Nat) (l0 : List (List (S85))) : Option ((List (List (S85)))) := bV.l0 k ([] : List (List (S85))) l0 (l0.length : Int) 0
theorem bV.mono_l : ∀ k, (∀ y0 y1 y2 y3, LeO (bV.l0 k y0 y1 y2 y3) (bV.l0 (k + 1) y0 y1 y2 y3))
 | 0 => fun _ _ _ _ r h => by simp [bV.l0] at h
 | k + 1 => by
  have ih0 := bV.mono_l k
  ·intro y0 y1 y2 y3
   unfold bV.l0
   repeat' first
   | (with_reducible exact ih0 _ _ _ _)
   | (with_reducible exact LeO.refl _)
   | (with_reducible exact LeO.none _)
   | (with_reducible refine LeO.ite ?_ ?_)
   | (with_reducible refine LeO.bind ?_ (fun _ => ?_))
   | exact ih0 _ _ _ _
   | exact LeO.none _
   | refine LeO.ite ?_ ?_
   | refine LeO.bind ?_ (fun _ => ?_)
theorem bV.mono : ∀ a0 k, LeO (bV.f k a0) (bV.f (k + 1) a0) := by
 intro a0 k
 have ih0 := bV.mono_l k
 unfold bV.f
 repeat' first
   | (with_reducible exact ih0 _ _ _ _)
   | (with_reducible exact LeO.refl _)
   | (with_reducible exact LeO.none _)
   | (with_reducible refine LeO.ite ?_ ?_)
   | (with_reducible refine LeO.bind ?_ (fun _ => ?_))
   | exact ih0 _ _ _ _
   | exact LeO.none _
   | refine LeO.ite ?_ ?_
   | refine LeO.bind ?_ (fun _ => ?_)
set_option maxHeartbeats 8000000 in
set_option maxRecDepth 100000 in
theorem bV.calls (k : Nat) (A0 : Option Addr) (c0 : Nat) (l0 : List (List (S85))) (r : List (List (S85))) (w : World) (hr0 : Kd.C (Kd.slice 85 k85) w A0 l0.length l0) (hc0 : l0.length ≤ c0) (h : bV.f k l0 = some r) :
  Calls Tryz.prog 62 #[.slice A0 l0.length c0] w fun e w' => ∃ v0_ : Value, e = .returned (v0_) ∧ Kd.S (Kd.slice 85 k85) 45 w' w.heap.size (fun _ => True) v0_ r ∧ Below w.heap.size w w' := by
 have HR0 := aA.mk hr0
 have HC0 := aA.mk hc0
 clear hr0 hc0
 have HB := aA.mk (Below.refl w.heap.size w)
 have H : (bV.l0 k ([] : List (List (S85))) l0 (l0.length : Int) 0) = some r := h
 clear h
 have H' := aA.mk H
 clear H
 go_enter Tryz.func62, Tryz.ntmps62
 go_wp2
 go_loopg [3, 8] k (fun kq v3 v8 w' => ∃ (x3_1 : List (List (S85))) (x8_1 : Int), v8 = .int .i64 x8_1 ∧ aA (bV.l0 kq x3_1 l0 (l0.length : Int) x8_1 = some r) ∧ aA (kq ≤ k) ∧ aA (Kd.S (Kd.slice 85 k85) 45 w' w.heap.size (fun _ => True) v3 x3_1) ∧ aA (Below w.heap.size w w'))
 case atStart => exact ⟨(([] : List (List (S85)))), (0), (by first | rfl | (simp; done) | (simp [*]; done)), H', ⟨Nat.le_refl _⟩, ⟨by first | exact Kd.S_nil _ _ _ _ _ | exact Kd.N_nil _ _ _ _ _ | exact Kd.V_nil _ _ _ _ _ | exact Kd.Q_nil _ _ _ _ _ | exact Kd.R_nil _ _ _ _ _⟩, ⟨by repeat (first | (with_reducible first | exact HB.out | apply aC | apply pw_below_drewN | apply aD) | exact HB.out)⟩⟩
 case round =>
  clear H'
  obtain ⟨x3_1, x8_1, rfl, HA, HK1, HO_3, HB⟩ := hrel
  cases gk with
  | zero => exact absurd HA.out (by simp [bV.l0])
  | succ k1 =>
   have H := HA.out
   clear HA
   simp only [bV.l0] at H
   by_cases c2 : x8_1 < (l0.length : Int)
   ·rw [if_pos c2] at H
    have c2b0 : decide (x8_1 < (l0.length : Int)) = true := decide_eq_true c2
    clear c2
    by_cases c3 : 0 ≤ x8_1
    ·rw [if_pos c3] at H
     have c3b0 : decide (0 ≤ x8_1) = true := decide_eq_true c3
     clear c3
     by_cases c4 : x8_1 < (l0.length : Int)
     ·rw [if_pos c4] at H
      have c4b0 : decide (x8_1 < (l0.length : Int)) = true := decide_eq_true c4
      clear c4
      replace H := Option.bind_eq_some_iff.mp H
      obtain ⟨t196, A50, H⟩ := H
      replace H : (if x3_1.length < 5864062014805 then (bV.l0 k1 (x3_1 ++ [t196]) l0 (l0.length : Int) (wrap64 (x8_1 + 1))) else (none)) = some r := H
      have A5 := aA.mk A50
      clear A50
      by_cases c6 : x3_1.length < 5864062014805
      ·rw [if_pos c6] at H
       have LMc6 := aA.mk c6
       clear c6
       obtain ⟨y199, hy199⟩ : ∃ y_ : List (List (S85)), y_ = (x3_1 ++ [t196]) := ⟨_, rfl⟩
       replace H : (bV.l0 k1 y199 l0 (l0.length : Int) (wrap64 (x8_1 + 1))) = some r := by first | (rw [hy199]; with_reducible exact H) | (have H2_ := (Option.bind_some _ _).symm.trans H; rw [hy199]; with_reducible exact H2_) | (have H2_ := (Option.bind_some _ _).symm.trans H; with_reducible exact H2_) | with_reducible exact H | (rw [hy199]; exact H) | exact H
       have Ny199 := aA.mk hy199
       clear hy199
       have H' := aA.mk H
       clear H
       have p195 : 0 ≤ (x8_1 : Int) := of_decide_eq_true (by first | (with_reducible assumption) | assumption)
       have q195 : x8_1 < (l0.length : Int) := of_decide_eq_true (by first | (with_reducible assumption) | assumption)
       obtain ⟨ad195, A195_0, c195_0, e195, hx195_0, hl195_0, hi195_0⟩ := jL HR0.out x8_1 p195 q195
       cases e195
       replace hx195_0 := (HB.out.cell (World.block_lt_of_cell? w _ hx195_0)).trans hx195_0
       have HR195_0 := aA.mk hi195_0
       have HC195_0 := aA.mk hl195_0
       clear hi195_0 hl195_0
       replace p195 := eq_true p195
       replace q195 := eq_true q195
       go_wp2_with (first | ((with_reducible refine aZ (f := 68) rfl ?_); refine cH (some 14) rfl rfl Tryz.func68 (by kernel_rfl) rfl #[.slice A195_0 (dH l0 x8_1).length c195_0] rfl (by (try simp only [List.map_toArray, List.map_cons, List.map_nil]); first | done | rfl | (simp only [List.length_drop, List.length_take]; rfl)) ?_; (with_reducible refine (bP.calls _ _ (dH l0 x8_1) t196 _ ?side1 ?side2 A5.out).mono ?_); (case side1 => repeat (first | exact (Kd.C_below HR195_0.out HB.out) | (with_reducible refine Kd.C_alloc ?_ _) | (with_reducible refine Kd.C_drewN ?_ _) | (with_reducible refine Kd.C_drew ?_))); (case side2 => exact HC195_0.out); rintro e w7 ⟨v197, rfl, ho0, hb⟩; refine ⟨_, rfl, ?_⟩; have n0_ := aA.mk (Kd.S_elder' (by (with_reducible repeat (first | apply Kd.S_alloc | apply Kd.S_drewN | apply Kd.S_drew)); exact HO_3.out) (Kd.R_base ho0) hb); have n1_ := aA.mk (Kd.R_lower ho0 (aM (by repeat (first | (with_reducible first | exact HB.out | apply aC | apply pw_below_drewN | apply aD) | exact HB.out)))); have n2_ := aA.mk (aV (by repeat (first | (with_reducible first | exact HB.out | apply aC | apply pw_below_drewN | apply aD) | exact HB.out)) hb); clear HO_3; clear HB; have HO_3 := n0_; have HO198 := n1_; have HB := n2_; clear n0_ n1_ n2_; (try clear hb); (try clear hb2); (try clear hk); (try clear hi); (try clear ho0); obtain ⟨Ao9, co9, eo9⟩ := Kd.R_slice HO198.out; subst eo9) | ((with_reducible refine cI (b := .append) (xs := #[.tmp 12, .tmp 15]) rfl ?_); at_builtin; refine Kd.S_append (Kd.slice 85 k85) (w0 := w) w.heap.size rfl (.tmp 12) (.tmp 15) 37 45 (.slice none 0 0) 24 rfl Tryz.underlying37 oD rfl (by decide) (by omega) u3 x3_1 t196 [.slice Ao9 t196.length co9] (fun _ => True) (fun k_ => some k_ = (.slice Ao9 t196.length co9 : Value).ownBlock) rfl rfl ?aP (fun k_ hk_ => ((Kd.R_mono (ok' := fun k_ => ((fun _ => True)) k_ ∧ some k_ ≠ (u3 : Value).ownBlock) (Kd.R_apart' (HO198.out) (Kd.S_typed HO_3.out) (by decide)) (fun k_ hk => ⟨trivial, hk.2⟩))).1 k_ hk_.symm) ?aF ?aO ?aB ?aS ?aL ?_; (case aP => exact Kd.M_row (Kd.R_mono (Kd.R_tight rfl (Kd.R_mono (ok' := fun k_ => ((fun _ => True)) k_ ∧ some k_ ≠ (u3 : Value).ownBlock) (Kd.R_apart' (HO198.out) (Kd.S_typed HO_3.out) (by decide)) (fun k_ hk => ⟨trivial, hk.2⟩))) (fun _ h_ => h_))); (case aB => exact (by repeat (first | (with_reducible first | exact HB.out | apply aC | apply pw_below_drewN | apply aD) | exact HB.out))); (case aF => exact (fun _ _ => trivial)); (case aO => exact (by (with_reducible repeat (first | apply Kd.S_alloc | apply Kd.S_drewN | apply Kd.S_drew)); exact Kd.S_mono HO_3.out (fun k_ hk => ⟨trivial, fun e_ => hk.2 e_⟩))); (case aS => exact (aM (by repeat (first | (with_reducible first | exact HB.out | apply aC | apply pw_below_drewN | apply aD) | exact HB.out)))); (case aL => have := LMc6.out; omega); intro v200 w8 ho hb hg hat; rw [← Ny199.out] at ho; have n0_ := aA.mk (hb); have n1_ := aA.mk (ho); clear HB; clear HO_3; clear HO198; have HB := n0_; have HO201 := n1_; clear n0_ n1_; clear ho hb hg hat))
       go_roundg k1
       case measure => have := HK1.out; omega
       case rel => exact ⟨(y199), (wrap64 (x8_1 + 1)), (by first | rfl | (simp; done) | (simp [*]; done)), H', ⟨by have := HK1.out; omega⟩, ⟨by (with_reducible repeat (first | apply Kd.S_alloc | apply Kd.S_drewN | apply Kd.S_drew)); exact HO201.out⟩, ⟨by repeat (first | (with_reducible first | exact HB.out | apply aC | apply pw_below_drewN | apply aD) | exact HB.out)⟩⟩
      ·rw [if_neg c6] at H
       exact absurd H (by simp)
     ·rw [if_neg c4] at H
      exact absurd H (by simp)
    ·rw [if_neg c3] at H
     exact absurd H (by simp)
   ·rw [if_neg c2] at H
    have c2b0 : decide (x8_1 < (l0.length : Int)) = false := decide_eq_false c2
    clear c2
    obtain rfl := Option.some.inj H
    go_wp2
    go_ret
    exact ⟨_, by first | rfl | (simp [aN, aQ] <;> rfl) | (simp [*, aN, aQ] <;> rfl), by (with_reducible repeat (first | apply Kd.S_alloc | apply Kd.S_drewN | apply Kd.S_drew)); exact HO_3.out, by repeat (first | (with_reducible first | exact HB.out | apply aC | apply pw_below_drewN | apply aD) | exact HB.out)⟩
end Go.Proofs.YtpflmgbpjhbmnaaGreat.B
end
section
namespace Go.Proofs.YtpflmgbpjhbmnaaGreat.B
open Go.RowKit Go.Proofs.YtpflmgbpjhbmnaaGreatW.PrintWords Go.Proofs.YtpflmgbpjhbmnaaGreatW.PrintLast Go.Proofs.YtpflmgbpjhbmnaaGreatW.PrintMore
attribute [local go_sem] Go.Proofs.YtpflmgbpjhbmnaaGreat.str_gtr bZ cA cJ cK bT bU cB cC   -- for this text's walks alone
set_option linter.unusedVariables false
set_option linter.unusedSimpArgs false
def cX.l0 : Nat → List (S85) → List (List (S85)) → Int → Int → Option ((List (S85)))
 | 0, _, _, _, _ => none
 | k + 1, x3, x6, x7, x8 => if x8 < x7 then (if 0 ≤ x8 then (if x8 < (x6.length : Int) then (if x3.length + (dH x6 x8).length < 4398046511104 then (cX.l0 k (x3 ++ (dH x6 x8)) x6 x7 (wrap64 (x8 + 1))) else (none)) else (none)) else (none)) else (some x3)
def cX.f (k : Nat) (l0 : List (List (S85))) : Option ((List (S85))) := cX.l0 k ([] : List (S85)) l0 (l0.length : Int) 0
theorem cX.mono_l : ∀ k, (∀ y0 y1 y2 y3, LeO (cX.l0 k y0 y1 y2 y3) (cX.l0 (k + 1) y0 y1 y2 y3))
 | 0 => fun _ _ _ _ r h => by simp [cX.l0] at h
 | k + 1 => by
  have ih0 := cX.mono_l k
  ·intro y0 y1 y2 y3
   unfold cX.l0
   repeat' first
   | (with_reducible exact ih0 _ _ _ _)
   | (with_reducible exact LeO.refl _)
   | (with_reducible exact LeO.none _)
   | (with_reducible refine LeO.ite ?_ ?_)
   | (with_reducible refine LeO.bind ?_ (fun _ => ?_))
   | exact ih0 _ _ _ _
   | exact LeO.none _
   | refine LeO.ite ?_ ?_
   | refine LeO.bind ?_ (fun _ => ?_)
theorem cX.mono : ∀ a0 k, LeO (cX.f k a0) (cX.f (k + 1) a0) := by
 intro a0 k
 have ih0 := cX.mono_l k
 unfold cX.f
 repeat' first
   | (with_reducible exact ih0 _ _ _ _)
   | (with_reducible exact LeO.refl _)
   | (with_reducible exact LeO.none _)
   | (with_reducible refine LeO.ite ?_ ?_)
   | (with_reducible refine LeO.bind ?_ (fun _ => ?_))
   | exact ih0 _ _ _ _
   | exact LeO.none _
   | refine LeO.ite ?_ ?_
   | refine LeO.bind ?_ (fun _ => ?_)
set_option maxHeartbeats 8000000 in
set_option maxRecDepth 100000 in
theorem cX.calls (k : Nat) (A0 : Option Addr) (c0 : Nat) (l0 : List (List (S85))) (r : List (S85)) (w : World) (hr0 : Kd.C (Kd.slice 85 k85) w A0 l0.length l0) (hc0 : l0.length ≤ c0) (h : cX.f k l0 = some r) :
  Calls Tryz.prog 65 #[.slice A0 l0.length c0] w fun e w' => ∃ v0_ : Value, e = .returned (v0_) ∧ Kd.R k85 85 w' w.heap.size (fun _ => True) v0_ r ∧ Below w.heap.size w w' := by
 have HR0 := aA.mk hr0
 have HC0 := aA.mk hc0
 clear hr0 hc0
 have HB := aA.mk (Below.refl w.heap.size w)
 have H : (cX.l0 k ([] : List (S85)) l0 (l0.length : Int) 0) = some r := h
 clear h
 have H' := aA.mk H
 clear H
 go_enter Tryz.func65, Tryz.ntmps65
 go_wp2
 go_loopg [3, 8] k (fun kq v3 v8 w' => ∃ (x3_1 : List (S85)) (x8_1 : Int), v8 = .int .i64 x8_1 ∧ aA (cX.l0 kq x3_1 l0 (l0.length : Int) x8_1 = some r) ∧ aA (kq ≤ k) ∧ aA (Kd.R k85 85 w' w.heap.size (fun _ => True) v3 x3_1) ∧ aA (Below w.heap.size w w'))
 case atStart => exact ⟨(([] : List (S85))), (0), (by first | rfl | (simp; done) | (simp [*]; done)), H', ⟨Nat.le_refl _⟩, ⟨by first | exact Kd.R_nil _ _ _ _ _ | exact Kd.N_nil _ _ _ _ _ | exact Kd.V_nil _ _ _ _ _ | exact Kd.Q_nil _ _ _ _ _ | exact Kd.S_nil _ _ _ _ _⟩, ⟨by repeat (first | (with_reducible first | exact HB.out | apply aC | apply pw_below_drewN | apply aD) | exact HB.out)⟩⟩
 case round =>
  clear H'
  obtain ⟨x3_1, x8_1, rfl, HA, HK1, HO_3, HB⟩ := hrel
  cases gk with
  | zero => exact absurd HA.out (by simp [cX.l0])
  | succ k1 =>
   have H := HA.out
   clear HA
   simp only [cX.l0] at H
   by_cases c2 : x8_1 < (l0.length : Int)
   ·rw [if_pos c2] at H
    have c2b0 : decide (x8_1 < (l0.length : Int)) = true := decide_eq_true c2
    clear c2
    by_cases c3 : 0 ≤ x8_1
    ·rw [if_pos c3] at H
     have c3b0 : decide (0 ≤ x8_1) = true := decide_eq_true c3
     clear c3
     by_cases c4 : x8_1 < (l0.length : Int)
     ·rw [if_pos c4] at H
      have c4b0 : decide (x8_1 < (l0.length : Int)) = true := decide_eq_true c4
      clear c4
      by_cases c5 : x3_1.length + (dH l0 x8_1).length < 4398046511104
      ·rw [if_pos c5] at H
       have LMc5 := aA.mk c5
       clear c5
       obtain ⟨y355, hy355⟩ : ∃ y_ : List (S85), y_ = (x3_1 ++ (dH l0 x8_1)) := ⟨_, rfl⟩
       replace H : (cX.l0 k1 y355 l0 (l0.length : Int) (wrap64 (x8_1 + 1))) = some r := by first | (rw [hy355]; with_reducible exact H) | (have H2_ := (Option.bind_some _ _).symm.trans H; rw [hy355]; with_reducible exact H2_) | (have H2_ := (Option.bind_some _ _).symm.trans H; with_reducible exact H2_) | with_reducible exact H | (rw [hy355]; exact H) | exact H
       have Ny355 := aA.mk hy355
       clear hy355
       have H' := aA.mk H
       clear H
       have p354 : 0 ≤ (x8_1 : Int) := of_decide_eq_true (by first | (with_reducible assumption) | assumption)
       have q354 : x8_1 < (l0.length : Int) := of_decide_eq_true (by first | (with_reducible assumption) | assumption)
       obtain ⟨ad354, A354_0, c354_0, e354, hx354_0, hl354_0, hi354_0⟩ := jL HR0.out x8_1 p354 q354
       cases e354
       replace hx354_0 := (HB.out.cell (World.block_lt_of_cell? w _ hx354_0)).trans hx354_0
       have HR354_0 := aA.mk hi354_0
       have HC354_0 := aA.mk hl354_0
       clear hi354_0 hl354_0
       replace p354 := eq_true p354
       replace q354 := eq_true q354
       go_wp2_with (first | ((with_reducible refine cI (b := .append) (xs := #[.tmp 12, .tmp 13]) rfl ?_); at_builtin; refine Kd.R_append_rows k85 (w0 := w) w.heap.size rfl (.tmp 12) (.tmp 13) 45 85 (.agg #[(.int .i64 0), (.int .i64 0), (.string ⟨#[]⟩)]) 32 rfl Tryz.underlying45 gQ rfl (by decide) (by omega) u3 x3_1 (dH l0 x8_1) _ _ _ (fun _ => True) (fun _ => False) rfl rfl ?aO ?aR (fun _ _ h => h) (fun _ h => h.elim) ?aF ?aB ?aS ?aL ?_; (case aR => repeat (first | exact (Kd.C_below HR354_0.out HB.out) | (with_reducible refine Kd.C_alloc ?_ _) | (with_reducible refine Kd.C_drewN ?_ _) | (with_reducible refine Kd.C_drew ?_))); (case aB => exact (by repeat (first | (with_reducible first | exact HB.out | apply aC | apply pw_below_drewN | apply aD) | exact HB.out))); (case aF => exact (fun _ _ => trivial)); (case aO => exact (by (with_reducible repeat (first | apply Kd.R_alloc | apply Kd.R_drewN | apply Kd.R_drew)); exact HO_3.out)); (case aS => exact (aM (by repeat (first | (with_reducible first | exact HB.out | apply aC | apply pw_below_drewN | apply aD) | exact HB.out)))); (case aL => have := LMc5.out; omega); intro v356 w6 ho hb hg hat; rw [← Ny355.out] at ho; have n0_ := aA.mk (hb); have n1_ := aA.mk (ho); clear HB; clear HO_3; have HB := n0_; have HO357 := n1_; clear n0_ n1_; clear ho hb hg hat))
       go_roundg k1
       case measure => have := HK1.out; omega
       case rel => exact ⟨(y355), (wrap64 (x8_1 + 1)), (by first | rfl | (simp; done) | (simp [*]; done)), H', ⟨by have := HK1.out; omega⟩, ⟨by (with_reducible repeat (first | apply Kd.R_alloc | apply Kd.R_drewN | apply Kd.R_drew)); exact HO357.out⟩, ⟨by repeat (first | (with_reducible first | exact HB.out | apply aC | apply pw_below_drewN | apply aD) | exact HB.out)⟩⟩
      ·rw [if_neg c5] at H
       exact absurd H (by simp)
     ·rw [if_neg c4] at H
      exact absurd H (by simp)
    ·rw [if_neg c3] at H
     exact absurd H (by simp)
   ·rw [if_neg c2] at H
    have c2b0 : decide (x8_1 < (l0.length : Int)) = false := decide_eq_false c2
    clear c2
    obtain rfl := Option.some.inj H
    go_wp2
    go_ret
    exact ⟨_, by first | rfl | (simp [aN, aQ] <;> rfl) | (simp [*, aN, aQ] <;> rfl), by (with_reducible repeat (first | apply Kd.R_alloc | apply Kd.R_drewN | apply Kd.R_drew)); exact HO_3.out, by repeat (first | (with_reducible first | exact HB.out | apply aC | apply pw_below_drewN | apply aD) | exact HB.out)⟩
end Go.Proofs.YtpflmgbpjhbmnaaGreat.B
end
section
namespace Go.Proofs.YtpflmgbpjhbmnaaGreat.B
open Go.RowKit Go.Proofs.YtpflmgbpjhbmnaaGreatW.PrintWords Go.Proofs.YtpflmgbpjhbmnaaGreatW.PrintLast Go.Proofs.YtpflmgbpjhbmnaaGreatW.PrintMore
attribute [local go_sem] Go.Proofs.YtpflmgbpjhbmnaaGreat.str_gtr bZ cA cJ cK bT bU cB cC   -- for this text's walks alone
set_option linter.unusedVariables false
set_option linter.unusedSimpArgs false
attribute [local go_sem high] uO
def cT.f (a0_0 : Int) (a0_1 : Int) (a1_0 : Int) (a1_1 : Int) : Option (Int) := if (a0_0 == a1_0 && (a0_1 == a1_1)) = true then (some 0) else (if a0_0 < a1_0 then (some (-1)) else (if a0_0 = a1_0 then (if a0_1 < a1_1 then (some (-1)) else (some 1)) else (some 1)))
set_option maxHeartbeats 8000000 in
set_option maxRecDepth 100000 in
theorem cT.calls (a0_0 : Int) (a0_1 : Int) (a1_0 : Int) (a1_1 : Int) (r : Int) (w : World) (h : cT.f a0_0 a0_1 a1_0 a1_1 = some r) :
  Calls Tryz.prog 88 #[.agg #[.int .i64 a0_0, .int .i64 a0_1], .agg #[.int .i64 a1_0, .int .i64 a1_1]] w fun e w' => e = .returned (.int .i64 r) ∧ Below w.heap.size w w' := by
 have hu59 := Tryz.underlying59
 have HB := aA.mk (Below.refl w.heap.size w)
 have H : (if (a0_0 == a1_0 && (a0_1 == a1_1)) = true then (some 0) else (if a0_0 < a1_0 then (some (-1)) else (if a0_0 = a1_0 then (if a0_1 < a1_1 then (some (-1)) else (some 1)) else (some 1)))) = some r := h
 clear h
 by_cases c3 : (a0_0 == a1_0 && (a0_1 == a1_1)) = true
 ·rw [if_pos c3] at H
  have c3b0 : (a0_0 == a1_0 && (a0_1 == a1_1)) = true := c3
  (try (have c3b1 : decide (a0_0 = a1_0 && (a0_1 == a1_1)) = true := by simpa using c3))
  (try (have c3b2 : (a0_0 == a1_0 && (a0_1 == a1_1)) = true := by simpa using c3))
  clear c3
  obtain rfl := Option.some.inj H
  go_enter Tryz.func88, Tryz.ntmps88
  go_wp2_with (first | ((with_reducible refine bK (N := 2) rfl ?_); refine bG ?hg (N := 2) ?hd (cs := #[.int .i64 a0_0, .int .i64 a0_1]) (t := 59) ?hr ?_; (case hd => rfl); (case hg => rfl); (case hr => first | (go_simp; done) | (go_simp; rfl)); intro gb217 hg w4 hbox hb; have n0_ := aA.mk (aV (by repeat (first | (with_reducible first | exact HB.out | apply aC | apply pw_below_drewN | apply aD) | exact HB.out)) hb); have n1_ := aA.mk (hbox); have n2_ := aA.mk ((by rw [hg]; exact (aM (by repeat (first | (with_reducible first | exact HB.out | apply aC | apply pw_below_drewN | apply aD) | exact HB.out))) : w.heap.size ≤ gb217)); have n3_ := aA.mk ((by rw [hg]; exact (aM (by repeat (first | (with_reducible first | exact HB.out | apply aC | apply pw_below_drewN | apply aD) | exact HB.out))) : w.heap.size ≤ gb217)); clear HB; have HB := n0_; have BK217 := n1_; have GW217 := n2_; have GE217 := n3_; clear n0_ n1_ n2_ n3_; clear hb hbox hg) | ((with_reducible refine bK (N := 3) rfl ?_); refine bG ?hg (N := 3) ?hd (cs := #[.int .i64 a1_0, .int .i64 a1_1]) (t := 59) ?hr ?_; (case hd => rfl); (case hg => rfl); (case hr => first | (go_simp; done) | (go_simp; rfl)); intro gb218 hg w5 hbox hb; have n0_ := aA.mk (bD (g := gb217) (o := .cells #[.int .i64 a0_0, .int .i64 a0_1] 59 (0, 0)) (by (with_reducible repeat (first | refine aJ ?_ _ | refine aK ?_ | refine aI ?_ _)); exact BK217.out) hb); have n1_ := aA.mk (aV (by repeat (first | (with_reducible first | exact HB.out | apply aC | apply pw_below_drewN | apply aD | refine aG ?_ GE217.out) | exact HB.out)) hb); have n2_ := aA.mk (hbox); have n3_ := aA.mk ((by rw [hg]; exact (aM (by repeat (first | (with_reducible first | exact HB.out | apply aC | apply pw_below_drewN | apply aD | refine aG ?_ GE217.out) | exact HB.out))) : w.heap.size ≤ gb218)); have n4_ := aA.mk ((by rw [hg]; exact (aM (by repeat (first | (with_reducible first | exact HB.out | apply aC | apply pw_below_drewN | apply aD | refine aG ?_ GE217.out) | exact HB.out))) : w.heap.size ≤ gb218)); have n5_ := aA.mk ((by rw [hg]; exact Nat.ne_of_lt (blk_lt (g := gb217) (o := .cells #[.int .i64 a0_0, .int .i64 a0_1] 59 (0, 0)) (by (with_reducible repeat (first | refine aJ ?_ _ | refine aK ?_ | refine aI ?_ _)); exact BK217.out)) : gb217 ≠ gb218)); have n6_ := aA.mk ((by rw [hg]; exact Nat.ne_of_gt (blk_lt (g := gb217) (o := .cells #[.int .i64 a0_0, .int .i64 a0_1] 59 (0, 0)) (by (with_reducible repeat (first | refine aJ ?_ _ | refine aK ?_ | refine aI ?_ _)); exact BK217.out)) : gb218 ≠ gb217)); clear BK217; clear HB; have BK217 := n0_; have HB := n1_; have BK218 := n2_; have GW218 := n3_; have GE218 := n4_; have NB217_218 := n5_; have NB218_217 := n6_; clear n0_ n1_ n2_ n3_ n4_ n5_ n6_; clear hb hbox hg; have hnb6 := NB217_218.out; have hnc6 := NB218_217.out; have hcz7_0 : w5.cell? ⟨gb217, 0, none⟩ = some (.int .i64 a0_0) := (aE BK217.out 0).trans rfl; have hcz7_1 : w5.cell? ⟨gb217, 1, none⟩ = some (.int .i64 a0_1) := (aE BK217.out 1).trans rfl; have hfz7_0 := blk_frozen BK217.out 0; have hfz7_1 := blk_frozen BK217.out 1; have hcz8_0 : w5.cell? ⟨gb218, 0, none⟩ = some (.int .i64 a1_0) := (aE BK218.out 0).trans rfl; have hcz8_1 : w5.cell? ⟨gb218, 1, none⟩ = some (.int .i64 a1_1) := (aE BK218.out 1).trans rfl; have hfz8_0 := blk_frozen BK218.out 0; have hfz8_1 := blk_frozen BK218.out 1))
  go_ret
  exact ⟨by first | rfl | (simp [aN, aQ] <;> rfl) | (simp [*, aN, aQ] <;> rfl), by repeat (first | (with_reducible first | exact HB.out | apply aC | apply pw_below_drewN | apply aD | refine aG ?_ GE217.out | refine aG ?_ GE218.out) | exact HB.out)⟩
 ·rw [if_neg c3] at H
  have c3b0 : (a0_0 == a1_0 && (a0_1 == a1_1)) = false := by simpa using c3
  (try (have c3b1 : decide (a0_0 = a1_0 && (a0_1 == a1_1)) = false := by simpa using c3))
  (try (have c3b2 : (a0_0 == a1_0 && (a0_1 == a1_1)) = false := by simpa using c3))
  (try (have c3b3 : ¬ (a0_0 = a1_0 && (a0_1 == a1_1)) := by simpa using c3))
  clear c3
  by_cases c9 : a0_0 < a1_0
  ·rw [if_pos c9] at H
   have c9b0 : decide (a0_0 < a1_0) = true := decide_eq_true c9
   clear c9
   obtain rfl := Option.some.inj H
   go_enter Tryz.func88, Tryz.ntmps88
   go_wp2_with (first | ((with_reducible refine bK (N := 2) rfl ?_); refine bG ?hg (N := 2) ?hd (cs := #[.int .i64 a0_0, .int .i64 a0_1]) (t := 59) ?hr ?_; (case hd => rfl); (case hg => rfl); (case hr => first | (go_simp; done) | (go_simp; rfl)); intro gb217 hg w10 hbox hb; have n0_ := aA.mk (aV (by repeat (first | (with_reducible first | exact HB.out | apply aC | apply pw_below_drewN | apply aD) | exact HB.out)) hb); have n1_ := aA.mk (hbox); have n2_ := aA.mk ((by rw [hg]; exact (aM (by repeat (first | (with_reducible first | exact HB.out | apply aC | apply pw_below_drewN | apply aD) | exact HB.out))) : w.heap.size ≤ gb217)); have n3_ := aA.mk ((by rw [hg]; exact (aM (by repeat (first | (with_reducible first | exact HB.out | apply aC | apply pw_below_drewN | apply aD) | exact HB.out))) : w.heap.size ≤ gb217)); clear HB; have HB := n0_; have BK217 := n1_; have GW217 := n2_; have GE217 := n3_; clear n0_ n1_ n2_ n3_; clear hb hbox hg) | ((with_reducible refine bK (N := 3) rfl ?_); refine bG ?hg (N := 3) ?hd (cs := #[.int .i64 a1_0, .int .i64 a1_1]) (t := 59) ?hr ?_; (case hd => rfl); (case hg => rfl); (case hr => first | (go_simp; done) | (go_simp; rfl)); intro gb218 hg w11 hbox hb; have n0_ := aA.mk (bD (g := gb217) (o := .cells #[.int .i64 a0_0, .int .i64 a0_1] 59 (0, 0)) (by (with_reducible repeat (first | refine aJ ?_ _ | refine aK ?_ | refine aI ?_ _)); exact BK217.out) hb); have n1_ := aA.mk (aV (by repeat (first | (with_reducible first | exact HB.out | apply aC | apply pw_below_drewN | apply aD | refine aG ?_ GE217.out) | exact HB.out)) hb); have n2_ := aA.mk (hbox); have n3_ := aA.mk ((by rw [hg]; exact (aM (by repeat (first | (with_reducible first | exact HB.out | apply aC | apply pw_below_drewN | apply aD | refine aG ?_ GE217.out) | exact HB.out))) : w.heap.size ≤ gb218)); have n4_ := aA.mk ((by rw [hg]; exact (aM (by repeat (first | (with_reducible first | exact HB.out | apply aC | apply pw_below_drewN | apply aD | refine aG ?_ GE217.out) | exact HB.out))) : w.heap.size ≤ gb218)); have n5_ := aA.mk ((by rw [hg]; exact Nat.ne_of_lt (blk_lt (g := gb217) (o := .cells #[.int .i64 a0_0, .int .i64 a0_1] 59 (0, 0)) (by (with_reducible repeat (first | refine aJ ?_ _ | refine aK ?_ | refine aI ?_ _)); exact BK217.out)) : gb217 ≠ gb218)); have n6_ := aA.mk ((by rw [hg]; exact Nat.ne_of_gt (blk_lt (g := gb217) (o := .cells #[.int .i64 a0_0, .int .i64 a0_1] 59 (0, 0)) (by (with_reducible repeat (first | refine aJ ?_ _ | refine aK ?_ | refine aI ?_ _)); exact BK217.out)) : gb218 ≠ gb217)); clear BK217; clear HB; have BK217 := n0_; have HB := n1_; have BK218 := n2_; have GW218 := n3_; have GE218 := n4_; have NB217_218 := n5_; have NB218_217 := n6_; clear n0_ n1_ n2_ n3_ n4_ n5_ n6_; clear hb hbox hg; have hnb12 := NB217_218.out; have hnc12 := NB218_217.out; have hcz13_0 : w11.cell? ⟨gb217, 0, none⟩ = some (.int .i64 a0_0) := (aE BK217.out 0).trans rfl; have hcz13_1 : w11.cell? ⟨gb217, 1, none⟩ = some (.int .i64 a0_1) := (aE BK217.out 1).trans rfl; have hfz13_0 := blk_frozen BK217.out 0; have hfz13_1 := blk_frozen BK217.out 1; have hcz14_0 : w11.cell? ⟨gb218, 0, none⟩ = some (.int .i64 a1_0) := (aE BK218.out 0).trans rfl; have hcz14_1 : w11.cell? ⟨gb218, 1, none⟩ = some (.int .i64 a1_1) := (aE BK218.out 1).trans rfl; have hfz14_0 := blk_frozen BK218.out 0; have hfz14_1 := blk_frozen BK218.out 1))
   go_ret
   exact ⟨by first | rfl | (simp [aN, aQ] <;> rfl) | (simp [*, aN, aQ] <;> rfl), by repeat (first | (with_reducible first | exact HB.out | apply aC | apply pw_below_drewN | apply aD | refine aG ?_ GE217.out | refine aG ?_ GE218.out) | exact HB.out)⟩
  ·rw [if_neg c9] at H
   have c9b0 : decide (a0_0 < a1_0) = false := decide_eq_false c9
   clear c9
   by_cases c15 : a0_0 = a1_0
   ·rw [if_pos c15] at H
    have c15b0 : (a0_0 == a1_0) = true := beq_iff_eq.mpr c15
    have cx : (a0_1 == a1_1) = false := by simpa [beq_iff_eq.mpr c15] using c3b0
    have c15b1 : (a0_0 != a1_0) = false := bne_eq_false_iff_eq.mpr c15
    clear c15
    by_cases c16 : a0_1 < a1_1
    ·rw [if_pos c16] at H
     have c16b0 : decide (a0_1 < a1_1) = true := decide_eq_true c16
     clear c16
     obtain rfl := Option.some.inj H
     go_enter Tryz.func88, Tryz.ntmps88
     go_wp2_with (first | ((with_reducible refine bK (N := 2) rfl ?_); refine bG ?hg (N := 2) ?hd (cs := #[.int .i64 a0_0, .int .i64 a0_1]) (t := 59) ?hr ?_; (case hd => rfl); (case hg => rfl); (case hr => first | (go_simp; done) | (go_simp; rfl)); intro gb217 hg w17 hbox hb; have n0_ := aA.mk (aV (by repeat (first | (with_reducible first | exact HB.out | apply aC | apply pw_below_drewN | apply aD) | exact HB.out)) hb); have n1_ := aA.mk (hbox); have n2_ := aA.mk ((by rw [hg]; exact (aM (by repeat (first | (with_reducible first | exact HB.out | apply aC | apply pw_below_drewN | apply aD) | exact HB.out))) : w.heap.size ≤ gb217)); have n3_ := aA.mk ((by rw [hg]; exact (aM (by repeat (first | (with_reducible first | exact HB.out | apply aC | apply pw_below_drewN | apply aD) | exact HB.out))) : w.heap.size ≤ gb217)); clear HB; have HB := n0_; have BK217 := n1_; have GW217 := n2_; have GE217 := n3_; clear n0_ n1_ n2_ n3_; clear hb hbox hg) | ((with_reducible refine bK (N := 3) rfl ?_); refine bG ?hg (N := 3) ?hd (cs := #[.int .i64 a1_0, .int .i64 a1_1]) (t := 59) ?hr ?_; (case hd => rfl); (case hg => rfl); (case hr => first | (go_simp; done) | (go_simp; rfl)); intro gb218 hg w18 hbox hb; have n0_ := aA.mk (bD (g := gb217) (o := .cells #[.int .i64 a0_0, .int .i64 a0_1] 59 (0, 0)) (by (with_reducible repeat (first | refine aJ ?_ _ | refine aK ?_ | refine aI ?_ _)); exact BK217.out) hb); have n1_ := aA.mk (aV (by repeat (first | (with_reducible first | exact HB.out | apply aC | apply pw_below_drewN | apply aD | refine aG ?_ GE217.out) | exact HB.out)) hb); have n2_ := aA.mk (hbox); have n3_ := aA.mk ((by rw [hg]; exact (aM (by repeat (first | (with_reducible first | exact HB.out | apply aC | apply pw_below_drewN | apply aD | refine aG ?_ GE217.out) | exact HB.out))) : w.heap.size ≤ gb218)); have n4_ := aA.mk ((by rw [hg]; exact (aM (by repeat (first | (with_reducible first | exact HB.out | apply aC | apply pw_below_drewN | apply aD | refine aG ?_ GE217.out) | exact HB.out))) : w.heap.size ≤ gb218)); have n5_ := aA.mk ((by rw [hg]; exact Nat.ne_of_lt (blk_lt (g := gb217) (o := .cells #[.int .i64 a0_0, .int .i64 a0_1] 59 (0, 0)) (by (with_reducible repeat (first | refine aJ ?_ _ | refine aK ?_ | refine aI ?_ _)); exact BK217.out)) : gb217 ≠ gb218)); have n6_ := aA.mk ((by rw [hg]; exact Nat.ne_of_gt (blk_lt (g := gb217) (o := .cells #[.int .i64 a0_0, .int .i64 a0_1] 59 (0, 0)) (by (with_reducible repeat (first | refine aJ ?_ _ | refine aK ?_ | refine aI ?_ _)); exact BK217.out)) : gb218 ≠ gb217)); clear BK217; clear HB; have BK217 := n0_; have HB := n1_; have BK218 := n2_; have GW218 := n3_; have GE218 := n4_; have NB217_218 := n5_; have NB218_217 := n6_; clear n0_ n1_ n2_ n3_ n4_ n5_ n6_; clear hb hbox hg; have hnb19 := NB217_218.out; have hnc19 := NB218_217.out; have hcz20_0 : w18.cell? ⟨gb217, 0, none⟩ = some (.int .i64 a0_0) := (aE BK217.out 0).trans rfl; have hcz20_1 : w18.cell? ⟨gb217, 1, none⟩ = some (.int .i64 a0_1) := (aE BK217.out 1).trans rfl; have hfz20_0 := blk_frozen BK217.out 0; have hfz20_1 := blk_frozen BK217.out 1; have hcz21_0 : w18.cell? ⟨gb218, 0, none⟩ = some (.int .i64 a1_0) := (aE BK218.out 0).trans rfl; have hcz21_1 : w18.cell? ⟨gb218, 1, none⟩ = some (.int .i64 a1_1) := (aE BK218.out 1).trans rfl; have hfz21_0 := blk_frozen BK218.out 0; have hfz21_1 := blk_frozen BK218.out 1))
     go_ret
     exact ⟨by first | rfl | (simp [aN, aQ] <;> rfl) | (simp [*, aN, aQ] <;> rfl), by repeat (first | (with_reducible first | exact HB.out | apply aC | apply pw_below_drewN | apply aD | refine aG ?_ GE217.out | refine aG ?_ GE218.out) | exact HB.out)⟩
    ·rw [if_neg c16] at H
     have c16b0 : decide (a0_1 < a1_1) = false := decide_eq_false c16
     clear c16
     obtain rfl := Option.some.inj H
     go_enter Tryz.func88, Tryz.ntmps88
     go_wp2_with (first | ((with_reducible refine bK (N := 2) rfl ?_); refine bG ?hg (N := 2) ?hd (cs := #[.int .i64 a0_0, .int .i64 a0_1]) (t := 59) ?hr ?_; (case hd => rfl); (case hg => rfl); (case hr => first | (go_simp; done) | (go_simp; rfl)); intro gb217 hg w22 hbox hb; have n0_ := aA.mk (aV (by repeat (first | (with_reducible first | exact HB.out | apply aC | apply pw_below_drewN | apply aD) | exact HB.out)) hb); have n1_ := aA.mk (hbox); have n2_ := aA.mk ((by rw [hg]; exact (aM (by repeat (first | (with_reducible first | exact HB.out | apply aC | apply pw_below_drewN | apply aD) | exact HB.out))) : w.heap.size ≤ gb217)); have n3_ := aA.mk ((by rw [hg]; exact (aM (by repeat (first | (with_reducible first | exact HB.out | apply aC | apply pw_below_drewN | apply aD) | exact HB.out))) : w.heap.size ≤ gb217)); clear HB; have HB := n0_; have BK217 := n1_; have GW217 := n2_; have GE217 := n3_; clear n0_ n1_ n2_ n3_; clear hb hbox hg) | ((with_reducible refine bK (N := 3) rfl ?_); refine bG ?hg (N := 3) ?hd (cs := #[.int .i64 a1_0, .int .i64 a1_1]) (t := 59) ?hr ?_; (case hd => rfl); (case hg => rfl); (case hr => first | (go_simp; done) | (go_simp; rfl)); intro gb218 hg w23 hbox hb; have n0_ := aA.mk (bD (g := gb217) (o := .cells #[.int .i64 a0_0, .int .i64 a0_1] 59 (0, 0)) (by (with_reducible repeat (first | refine aJ ?_ _ | refine aK ?_ | refine aI ?_ _)); exact BK217.out) hb); have n1_ := aA.mk (aV (by repeat (first | (with_reducible first | exact HB.out | apply aC | apply pw_below_drewN | apply aD | refine aG ?_ GE217.out) | exact HB.out)) hb); have n2_ := aA.mk (hbox); have n3_ := aA.mk ((by rw [hg]; exact (aM (by repeat (first | (with_reducible first | exact HB.out | apply aC | apply pw_below_drewN | apply aD | refine aG ?_ GE217.out) | exact HB.out))) : w.heap.size ≤ gb218)); have n4_ := aA.mk ((by rw [hg]; exact (aM (by repeat (first | (with_reducible first | exact HB.out | apply aC | apply pw_below_drewN | apply aD | refine aG ?_ GE217.out) | exact HB.out))) : w.heap.size ≤ gb218)); have n5_ := aA.mk ((by rw [hg]; exact Nat.ne_of_lt (blk_lt (g := gb217) (o := .cells #[.int .i64 a0_0, .int .i64 a0_1] 59 (0, 0)) (by (with_reducible repeat (first | refine aJ ?_ _ | refine aK ?_ | refine aI ?_ _)); exact BK217.out)) : gb217 ≠ gb218)); have n6_ := aA.mk ((by rw [hg]; exact Nat.ne_of_gt (blk_lt (g := gb217) (o := .cells #[.int .i64 a0_0, .int .i64 a0_1] 59 (0, 0)) (by (with_reducible repeat (first | refine aJ ?_ _ | refine aK ?_ | refine aI ?_ _)); exact BK217.out)) : gb218 ≠ gb217)); clear BK217; clear HB; have BK217 := n0_; have HB := n1_; have BK218 := n2_; have GW218 := n3_; have GE218 := n4_; have NB217_218 := n5_; have NB218_217 := n6_; clear n0_ n1_ n2_ n3_ n4_ n5_ n6_; clear hb hbox hg; have hnb24 := NB217_218.out; have hnc24 := NB218_217.out; have hcz25_0 : w23.cell? ⟨gb217, 0, none⟩ = some (.int .i64 a0_0) := (aE BK217.out 0).trans rfl; have hcz25_1 : w23.cell? ⟨gb217, 1, none⟩ = some (.int .i64 a0_1) := (aE BK217.out 1).trans rfl; have hfz25_0 := blk_frozen BK217.out 0; have hfz25_1 := blk_frozen BK217.out 1; have hcz26_0 : w23.cell? ⟨gb218, 0, none⟩ = some (.int .i64 a1_0) := (aE BK218.out 0).trans rfl; have hcz26_1 : w23.cell? ⟨gb218, 1, none⟩ = some (.int .i64 a1_1) := (aE BK218.out 1).trans rfl; have hfz26_0 := blk_frozen BK218.out 0; have hfz26_1 := blk_frozen BK218.out 1))
     go_ret
     exact ⟨by first | rfl | (simp [aN, aQ] <;> rfl) | (simp [*, aN, aQ] <;> rfl), by repeat (first | (with_reducible first | exact HB.out | apply aC | apply pw_below_drewN | apply aD | refine aG ?_ GE217.out | refine aG ?_ GE218.out) | exact HB.out)⟩
   ·rw [if_neg c15] at H
    have c15b0 : (a0_0 == a1_0) = false := beq_eq_false_iff_ne.mpr c15
    have c15b1 : (a0_0 != a1_0) = true := bne_iff_ne.mpr c15
    obtain rfl := Option.some.inj H
    go_enter Tryz.func88, Tryz.ntmps88
    go_wp2_with (first | ((with_reducible refine bK (N := 2) rfl ?_); refine bG ?hg (N := 2) ?hd (cs := #[.int .i64 a0_0, .int .i64 a0_1]) (t := 59) ?hr ?_; (case hd => rfl); (case hg => rfl); (case hr => first | (go_simp; done) | (go_simp; rfl)); intro gb217 hg w27 hbox hb; have n0_ := aA.mk (aV (by repeat (first | (with_reducible first | exact HB.out | apply aC | apply pw_below_drewN | apply aD) | exact HB.out)) hb); have n1_ := aA.mk (hbox); have n2_ := aA.mk ((by rw [hg]; exact (aM (by repeat (first | (with_reducible first | exact HB.out | apply aC | apply pw_below_drewN | apply aD) | exact HB.out))) : w.heap.size ≤ gb217)); have n3_ := aA.mk ((by rw [hg]; exact (aM (by repeat (first | (with_reducible first | exact HB.out | apply aC | apply pw_below_drewN | apply aD) | exact HB.out))) : w.heap.size ≤ gb217)); clear HB; have HB := n0_; have BK217 := n1_; have GW217 := n2_; have GE217 := n3_; clear n0_ n1_ n2_ n3_; clear hb hbox hg) | ((with_reducible refine bK (N := 3) rfl ?_); refine bG ?hg (N := 3) ?hd (cs := #[.int .i64 a1_0, .int .i64 a1_1]) (t := 59) ?hr ?_; (case hd => rfl); (case hg => rfl); (case hr => first | (go_simp; done) | (go_simp; rfl)); intro gb218 hg w28 hbox hb; have n0_ := aA.mk (bD (g := gb217) (o := .cells #[.int .i64 a0_0, .int .i64 a0_1] 59 (0, 0)) (by (with_reducible repeat (first | refine aJ ?_ _ | refine aK ?_ | refine aI ?_ _)); exact BK217.out) hb); have n1_ := aA.mk (aV (by repeat (first | (with_reducible first | exact HB.out | apply aC | apply pw_below_drewN | apply aD | refine aG ?_ GE217.out) | exact HB.out)) hb); have n2_ := aA.mk (hbox); have n3_ := aA.mk ((by rw [hg]; exact (aM (by repeat (first | (with_reducible first | exact HB.out | apply aC | apply pw_below_drewN | apply aD | refine aG ?_ GE217.out) | exact HB.out))) : w.heap.size ≤ gb218)); have n4_ := aA.mk ((by rw [hg]; exact (aM (by repeat (first | (with_reducible first | exact HB.out | apply aC | apply pw_below_drewN | apply aD | refine aG ?_ GE217.out) | exact HB.out))) : w.heap.size ≤ gb218)); have n5_ := aA.mk ((by rw [hg]; exact Nat.ne_of_lt (blk_lt (g := gb217) (o := .cells #[.int .i64 a0_0, .int .i64 a0_1] 59 (0, 0)) (by (with_reducible repeat (first | refine aJ ?_ _ | refine aK ?_ | refine aI ?_ _)); exact BK217.out)) : gb217 ≠ gb218)); have n6_ := aA.mk ((by rw [hg]; exact Nat.ne_of_gt (blk_lt (g := gb217) (o := .cells #[.int .i64 a0_0, .int .i64 a0_1] 59 (0, 0)) (by (with_reducible repeat (first | refine aJ ?_ _ | refine aK ?_ | refine aI ?_ _)); exact BK217.out)) : gb218 ≠ gb217)); clear BK217; clear HB; have BK217 := n0_; have HB := n1_; have BK218 := n2_; have GW218 := n3_; have GE218 := n4_; have NB217_218 := n5_; have NB218_217 := n6_; clear n0_ n1_ n2_ n3_ n4_ n5_ n6_; clear hb hbox hg; have hnb29 := NB217_218.out; have hnc29 := NB218_217.out; have hcz30_0 : w28.cell? ⟨gb217, 0, none⟩ = some (.int .i64 a0_0) := (aE BK217.out 0).trans rfl; have hcz30_1 : w28.cell? ⟨gb217, 1, none⟩ = some (.int .i64 a0_1) := (aE BK217.out 1).trans rfl; have hfz30_0 := blk_frozen BK217.out 0; have hfz30_1 := blk_frozen BK217.out 1; have hcz31_0 : w28.cell? ⟨gb218, 0, none⟩ = some (.int .i64 a1_0) := (aE BK218.out 0).trans rfl; have hcz31_1 : w28.cell? ⟨gb218, 1, none⟩ = some (.int .i64 a1_1) := (aE BK218.out 1).trans rfl; have hfz31_0 := blk_frozen BK218.out 0; have hfz31_1 := blk_frozen BK218.out 1))
    go_ret
    exact ⟨by first | rfl | (simp [aN, aQ] <;> rfl) | (simp [*, aN, aQ] <;> rfl), by repeat (first | (with_reducible first | exact HB.out | apply aC | apply pw_below_drewN | apply aD | refine aG ?_ GE217.out | refine aG ?_ GE218.out) | exact HB.out)⟩
end Go.Proofs.YtpflmgbpjhbmnaaGreat.B
end
section
namespace Go.Proofs.YtpflmgbpjhbmnaaGreat.B
open Go.RowKit Go.Proofs.YtpflmgbpjhbmnaaGreatW.PrintWords Go.Proofs.YtpflmgbpjhbmnaaGreatW.PrintLast Go.Proofs.YtpflmgbpjhbmnaaGreatW.PrintMore
attribute [local go_sem] Go.Proofs.YtpflmgbpjhbmnaaGreat.str_gtr bZ cA cJ cK bT bU cB cC   -- for this text's walks alone
set_option linter.unusedVariables false
set_option linter.unusedSimpArgs false
def dL.f (a0_0 : Int) (a0_1 : Int) (a1_0 : Int) (a1_1 : Int) : Option (Bool) := if a0_0 ≤ a1_0 then (some (decide (a0_1 ≤ a1_1))) else (some false)
set_option maxHeartbeats 8000000 in
set_option maxRecDepth 100000 in
theorem dL.calls (a0_0 : Int) (a0_1 : Int) (a1_0 : Int) (a1_1 : Int) (r : Bool) (w : World) (h : dL.f a0_0 a0_1 a1_0 a1_1 = some r) :
  Calls Tryz.prog 106 #[.agg #[.int .i64 a0_0, .int .i64 a0_1], .agg #[.int .i64 a1_0, .int .i64 a1_1]] w fun e w' => e = .returned (.bool r) ∧ Below w.heap.size w w' := by
 have hu59 := Tryz.underlying59
 have HB := aA.mk (Below.refl w.heap.size w)
 have H : (if a0_0 ≤ a1_0 then (some (decide (a0_1 ≤ a1_1))) else (some false)) = some r := h
 clear h
 by_cases c3 : a0_0 ≤ a1_0
 ·rw [if_pos c3] at H
  have c3b0 : decide (a0_0 ≤ a1_0) = true := decide_eq_true c3
  clear c3
  obtain rfl := Option.some.inj H
  go_enter Tryz.func106, Tryz.ntmps106
  go_wp2_with (first | ((with_reducible refine bK (N := 2) rfl ?_); refine bG ?hg (N := 2) ?hd (cs := #[.int .i64 a0_0, .int .i64 a0_1]) (t := 59) ?hr ?_; (case hd => rfl); (case hg => rfl); (case hr => first | (go_simp; done) | (go_simp; rfl)); intro gb215 hg w4 hbox hb; have n0_ := aA.mk (aV (by repeat (first | (with_reducible first | exact HB.out | apply aC | apply pw_below_drewN | apply aD) | exact HB.out)) hb); have n1_ := aA.mk (hbox); have n2_ := aA.mk ((by rw [hg]; exact (aM (by repeat (first | (with_reducible first | exact HB.out | apply aC | apply pw_below_drewN | apply aD) | exact HB.out))) : w.heap.size ≤ gb215)); have n3_ := aA.mk ((by rw [hg]; exact (aM (by repeat (first | (with_reducible first | exact HB.out | apply aC | apply pw_below_drewN | apply aD) | exact HB.out))) : w.heap.size ≤ gb215)); clear HB; have HB := n0_; have BK215 := n1_; have GW215 := n2_; have GE215 := n3_; clear n0_ n1_ n2_ n3_; clear hb hbox hg) | ((with_reducible refine bK (N := 3) rfl ?_); refine bG ?hg (N := 3) ?hd (cs := #[.int .i64 a1_0, .int .i64 a1_1]) (t := 59) ?hr ?_; (case hd => rfl); (case hg => rfl); (case hr => first | (go_simp; done) | (go_simp; rfl)); intro gb216 hg w5 hbox hb; have n0_ := aA.mk (bD (g := gb215) (o := .cells #[.int .i64 a0_0, .int .i64 a0_1] 59 (0, 0)) (by (with_reducible repeat (first | refine aJ ?_ _ | refine aK ?_ | refine aI ?_ _)); exact BK215.out) hb); have n1_ := aA.mk (aV (by repeat (first | (with_reducible first | exact HB.out | apply aC | apply pw_below_drewN | apply aD | refine aG ?_ GE215.out) | exact HB.out)) hb); have n2_ := aA.mk (hbox); have n3_ := aA.mk ((by rw [hg]; exact (aM (by repeat (first | (with_reducible first | exact HB.out | apply aC | apply pw_below_drewN | apply aD | refine aG ?_ GE215.out) | exact HB.out))) : w.heap.size ≤ gb216)); have n4_ := aA.mk ((by rw [hg]; exact (aM (by repeat (first | (with_reducible first | exact HB.out | apply aC | apply pw_below_drewN | apply aD | refine aG ?_ GE215.out) | exact HB.out))) : w.heap.size ≤ gb216)); have n5_ := aA.mk ((by rw [hg]; exact Nat.ne_of_lt (blk_lt (g := gb215) (o := .cells #[.int .i64 a0_0, .int .i64 a0_1] 59 (0, 0)) (by (with_reducible repeat (first | refine aJ ?_ _ | refine aK ?_ | refine aI ?_ _)); exact BK215.out)) : gb215 ≠ gb216)); have n6_ := aA.mk ((by rw [hg]; exact Nat.ne_of_gt (blk_lt (g := gb215) (o := .cells #[.int .i64 a0_0, .int .i64 a0_1] 59 (0, 0)) (by (with_reducible repeat (first | refine aJ ?_ _ | refine aK ?_ | refine aI ?_ _)); exact BK215.out)) : gb216 ≠ gb215)); clear BK215; clear HB; have BK215 := n0_; have HB := n1_; have BK216 := n2_; have GW216 := n3_; have GE216 := n4_; have NB215_216 := n5_; have NB216_215 := n6_; clear n0_ n1_ n2_ n3_ n4_ n5_ n6_; clear hb hbox hg; have hnb6 := NB215_216.out; have hnc6 := NB216_215.out; have hcz7_0 : w5.cell? ⟨gb215, 0, none⟩ = some (.int .i64 a0_0) := (aE BK215.out 0).trans rfl; have hcz7_1 : w5.cell? ⟨gb215, 1, none⟩ = some (.int .i64 a0_1) := (aE BK215.out 1).trans rfl; have hfz7_0 := blk_frozen BK215.out 0; have hfz7_1 := blk_frozen BK215.out 1; have hcz8_0 : w5.cell? ⟨gb216, 0, none⟩ = some (.int .i64 a1_0) := (aE BK216.out 0).trans rfl; have hcz8_1 : w5.cell? ⟨gb216, 1, none⟩ = some (.int .i64 a1_1) := (aE BK216.out 1).trans rfl; have hfz8_0 := blk_frozen BK216.out 0; have hfz8_1 := blk_frozen BK216.out 1))
  go_ret
  exact ⟨by first | rfl | (simp [aN, aQ] <;> rfl) | (simp [*, aN, aQ] <;> rfl), by repeat (first | (with_reducible first | exact HB.out | apply aC | apply pw_below_drewN | apply aD | refine aG ?_ GE215.out | refine aG ?_ GE216.out) | exact HB.out)⟩
 ·rw [if_neg c3] at H
  have c3b0 : decide (a0_0 ≤ a1_0) = false := decide_eq_false c3
  clear c3
  obtain rfl := Option.some.inj H
  go_enter Tryz.func106, Tryz.ntmps106
  go_wp2_with (first | ((with_reducible refine bK (N := 2) rfl ?_); refine bG ?hg (N := 2) ?hd (cs := #[.int .i64 a0_0, .int .i64 a0_1]) (t := 59) ?hr ?_; (case hd => rfl); (case hg => rfl); (case hr => first | (go_simp; done) | (go_simp; rfl)); intro gb215 hg w9 hbox hb; have n0_ := aA.mk (aV (by repeat (first | (with_reducible first | exact HB.out | apply aC | apply pw_below_drewN | apply aD) | exact HB.out)) hb); have n1_ := aA.mk (hbox); have n2_ := aA.mk ((by rw [hg]; exact (aM (by repeat (first | (with_reducible first | exact HB.out | apply aC | apply pw_below_drewN | apply aD) | exact HB.out))) : w.heap.size ≤ gb215)); have n3_ := aA.mk ((by rw [hg]; exact (aM (by repeat (first | (with_reducible first | exact HB.out | apply aC | apply pw_below_drewN | apply aD) | exact HB.out))) : w.heap.size ≤ gb215)); clear HB; have HB := n0_; have BK215 := n1_; have GW215 := n2_; have GE215 := n3_; clear n0_ n1_ n2_ n3_; clear hb hbox hg) | ((with_reducible refine bK (N := 3) rfl ?_); refine bG ?hg (N := 3) ?hd (cs := #[.int .i64 a1_0, .int .i64 a1_1]) (t := 59) ?hr ?_; (case hd => rfl); (case hg => rfl); (case hr => first | (go_simp; done) | (go_simp; rfl)); intro gb216 hg w10 hbox hb; have n0_ := aA.mk (bD (g := gb215) (o := .cells #[.int .i64 a0_0, .int .i64 a0_1] 59 (0, 0)) (by (with_reducible repeat (first | refine aJ ?_ _ | refine aK ?_ | refine aI ?_ _)); exact BK215.out) hb); have n1_ := aA.mk (aV (by repeat (first | (with_reducible first | exact HB.out | apply aC | apply pw_below_drewN | apply aD | refine aG ?_ GE215.out) | exact HB.out)) hb); have n2_ := aA.mk (hbox); have n3_ := aA.mk ((by rw [hg]; exact (aM (by repeat (first | (with_reducible first | exact HB.out | apply aC | apply pw_below_drewN | apply aD | refine aG ?_ GE215.out) | exact HB.out))) : w.heap.size ≤ gb216)); have n4_ := aA.mk ((by rw [hg]; exact (aM (by repeat (first | (with_reducible first | exact HB.out | apply aC | apply pw_below_drewN | apply aD | refine aG ?_ GE215.out) | exact HB.out))) : w.heap.size ≤ gb216)); have n5_ := aA.mk ((by rw [hg]; exact Nat.ne_of_lt (blk_lt (g := gb215) (o := .cells #[.int .i64 a0_0, .int .i64 a0_1] 59 (0, 0)) (by (with_reducible repeat (first | refine aJ ?_ _ | refine aK ?_ | refine aI ?_ _)); exact BK215.out)) : gb215 ≠ gb216)); have n6_ := aA.mk ((by rw [hg]; exact Nat.ne_of_gt (blk_lt (g := gb215) (o := .cells #[.int .i64 a0_0, .int .i64 a0_1] 59 (0, 0)) (by (with_reducible repeat (first | refine aJ ?_ _ | refine aK ?_ | refine aI ?_ _)); exact BK215.out)) : gb216 ≠ gb215)); clear BK215; clear HB; have BK215 := n0_; have HB := n1_; have BK216 := n2_; have GW216 := n3_; have GE216 := n4_; have NB215_216 := n5_; have NB216_215 := n6_; clear n0_ n1_ n2_ n3_ n4_ n5_ n6_; clear hb hbox hg; have hnb11 := NB215_216.out; have hnc11 := NB216_215.out; have hcz12_0 : w10.cell? ⟨gb215, 0, none⟩ = some (.int .i64 a0_0) := (aE BK215.out 0).trans rfl; have hcz12_1 : w10.cell? ⟨gb215, 1, none⟩ = some (.int .i64 a0_1) := (aE BK215.out 1).trans rfl; have hfz12_0 := blk_frozen BK215.out 0; have hfz12_1 := blk_frozen BK215.out 1; have hcz13_0 : w10.cell? ⟨gb216, 0, none⟩ = some (.int .i64 a1_0) := (aE BK216.out 0).trans rfl; have hcz13_1 : w10.cell? ⟨gb216, 1, none⟩ = some (.int .i64 a1_1) := (aE BK216.out 1).trans rfl; have hfz13_0 := blk_frozen BK216.out 0; have hfz13_1 := blk_frozen BK216.out 1))
  go_ret
  exact ⟨by first | rfl | (simp [aN, aQ] <;> rfl) | (simp [*, aN, aQ] <;> rfl), by repeat (first | (with_reducible first | exact HB.out | apply aC | apply pw_below_drewN | apply aD | refine aG ?_ GE215.out | refine aG ?_ GE216.out) | exact HB.out)⟩
end Go.Proofs.YtpflmgbpjhbmnaaGreat.B
end
section
namespace Go.Proofs.YtpflmgbpjhbmnaaGreat.B
open Go.RowKit Go.Proofs.YtpflmgbpjhbmnaaGreatW.PrintWords Go.Proofs.YtpflmgbpjhbmnaaGreatW.PrintLast Go.Proofs.YtpflmgbpjhbmnaaGreatW.PrintMore
attribute [local go_sem] Go.Proofs.YtpflmgbpjhbmnaaGreat.str_gtr bZ cA cJ cK bT bU cB cC   -- for this text's walks alone
set_option linter.unusedVariables false
set_option linter.unusedSimpArgs false
attribute [local go_sem high] uO
def bB.l0 : Nat → List (S59) → List (S59) → Int → Option (Bool)
 | 0, _, _, _ => none
 | k + 1, x0, x1, x5 => if x5 < (x0.length : Int) then (if 0 ≤ x5 then (if x5 < (x1.length : Int) then (if (!(((bN x0 x5).f0) == ((bN x1 x5).f0)) || (!(((bN x0 x5).f1) == ((bN x1 x5).f1)))) = true then (some false) else (bB.l0 k x0 x1 (wrap64 (x5 + 1)))) else (none)) else (none)) else (some true)
def bB.f (k : Nat) (l0 : List (S59)) (l1 : List (S59)) : Option (Bool) := if (l0.length : Int) = (l1.length : Int) then (bB.l0 k l0 l1 0) else (some false)
theorem bB.mono_l : ∀ k, (∀ y0 y1 y2, LeO (bB.l0 k y0 y1 y2) (bB.l0 (k + 1) y0 y1 y2))
 | 0 => fun _ _ _ r h => by simp [bB.l0] at h
 | k + 1 => by
  have ih0 := bB.mono_l k
  ·intro y0 y1 y2
   unfold bB.l0
   repeat' first
   | (with_reducible exact ih0 _ _ _)
   | (with_reducible exact LeO.refl _)
   | (with_reducible exact LeO.none _)
   | (with_reducible refine LeO.ite ?_ ?_)
   | (with_reducible refine LeO.bind ?_ (fun _ => ?_))
   | exact ih0 _ _ _
   | exact LeO.none _
   | refine LeO.ite ?_ ?_
   | refine LeO.bind ?_ (fun _ => ?_)
theorem bB.mono : ∀ a0 a1 k, LeO (bB.f k a0 a1) (bB.f (k + 1) a0 a1) := by
 intro a0 a1 k
 have ih0 := bB.mono_l k
 unfold bB.f
 repeat' first
   | (with_reducible exact ih0 _ _ _)
   | (with_reducible exact LeO.refl _)
   | (with_reducible exact LeO.none _)
   | (with_reducible refine LeO.ite ?_ ?_)
   | (with_reducible refine LeO.bind ?_ (fun _ => ?_))
   | exact ih0 _ _ _
   | exact LeO.none _
   | refine LeO.ite ?_ ?_
   | refine LeO.bind ?_ (fun _ => ?_)
set_option maxHeartbeats 8000000 in
set_option maxRecDepth 100000 in
theorem bB.calls (k : Nat) (A0 : Option Addr) (c0 : Nat) (l0 : List (S59)) (A1 : Option Addr) (c1 : Nat) (l1 : List (S59)) (r : Bool) (w : World) (hr0 : Kd.C k59 w A0 l0.length l0) (hc0 : l0.length ≤ c0) (hr1 : Kd.C k59 w A1 l1.length l1) (hc1 : l1.length ≤ c1) (h : bB.f k l0 l1 = some r) :
  Calls Tryz.prog 19 #[.slice A0 l0.length c0, .slice A1 l1.length c1] w fun e w' => e = .returned (.bool r) ∧ bQ w w' := by
 have hu59 := Tryz.underlying59
 have HR0 := aA.mk hr0
 have HC0 := aA.mk hc0
 clear hr0 hc0
 have HR1 := aA.mk hr1
 have HC1 := aA.mk hc1
 clear hr1 hc1
 have H : (if (l0.length : Int) = (l1.length : Int) then (bB.l0 k l0 l1 0) else (some false)) = some r := h
 clear h
 by_cases c3 : (l0.length : Int) = (l1.length : Int)
 ·rw [if_pos c3] at H
  have c3b0 : ((l0.length : Int) == (l1.length : Int)) = true := beq_iff_eq.mpr c3
  have c3b1 : ((l0.length : Int) != (l1.length : Int)) = false := bne_eq_false_iff_eq.mpr c3
  have c3b2 : (l0.length == l1.length) = true := by first | simpa using c3 | (simp at c3 ⊢; omega)
  clear c3
  have H' := aA.mk H
  clear H
  go_enter Tryz.func19, Tryz.ntmps19
  go_wp2
  repeat (go_quiet (fail); try go_wp2)
  go_loopg [5] k (fun kq v5 w' => ∃ (x5_1 : Int), v5 = .int .i64 x5_1 ∧ aA (bB.l0 kq l0 l1 x5_1 = some r) ∧ aA (kq ≤ k) ∧ bQ w w')
  case atStart => exact ⟨(0), (by first | rfl | (simp; done) | (simp [*]; done)), H', ⟨Nat.le_refl _⟩, by repeat (first | exact bQ.refl _ | apply bQ.step)⟩
  case round =>
   clear H'
   try clear c1
   try clear p2
   try clear c3
   try clear c3b0
   try clear c3b1
   try clear c3b2
   obtain ⟨x5_1, rfl, HA, HK1, ⟨m1, rfl⟩⟩ := hrel
   cases gk with
   | zero => exact absurd HA.out (by simp [bB.l0])
   | succ k1 =>
    have H := HA.out
    clear HA
    simp only [bB.l0] at H
    by_cases c4 : x5_1 < (l0.length : Int)
    ·rw [if_pos c4] at H
     have c4b0 : decide (x5_1 < (l0.length : Int)) = true := decide_eq_true c4
     clear c4
     by_cases c5 : 0 ≤ x5_1
     ·rw [if_pos c5] at H
      have c5b0 : decide (0 ≤ x5_1) = true := decide_eq_true c5
      clear c5
      by_cases c6 : x5_1 < (l1.length : Int)
      ·rw [if_pos c6] at H
       have c6b0 : decide (x5_1 < (l1.length : Int)) = true := decide_eq_true c6
       clear c6
       by_cases c7 : (!(((bN l0 x5_1).f0) == ((bN l1 x5_1).f0)) || (!(((bN l0 x5_1).f1) == ((bN l1 x5_1).f1)))) = true
       ·rw [if_pos c7] at H
        have c7b0 : (!(((bN l0 x5_1).f0) == ((bN l1 x5_1).f0)) || (!(((bN l0 x5_1).f1) == ((bN l1 x5_1).f1)))) = true := c7
        clear c7
        obtain rfl := Option.some.inj H
        have p193 : 0 ≤ (x5_1 : Int) := of_decide_eq_true (by first | (with_reducible assumption) | assumption)
        have q193 : x5_1 < (l0.length : Int) := of_decide_eq_true (by first | (with_reducible assumption) | assumption)
        obtain ⟨ad193, e193, hx193_0, hx193_1⟩ := dW HR0.out x5_1 p193 q193
        cases e193
        replace p193 := eq_true p193
        replace q193 := eq_true q193
        have p194 : 0 ≤ (x5_1 : Int) := of_decide_eq_true (by first | (with_reducible assumption) | assumption)
        have q194 : x5_1 < (l1.length : Int) := of_decide_eq_true (by first | (with_reducible assumption) | assumption)
        obtain ⟨ad194, e194, hx194_0, hx194_1⟩ := dW HR1.out x5_1 p194 q194
        cases e194
        replace p194 := eq_true p194
        replace q194 := eq_true q194
        go_wp2
        repeat (go_quiet (fail); try go_wp2)
        go_ret
        exact ⟨by first | rfl | (simp; done) | (simp [*]; done), by repeat (first | exact bQ.refl _ | apply bQ.step)⟩
       ·rw [if_neg c7] at H
        have c7b0 : (!(((bN l0 x5_1).f0) == ((bN l1 x5_1).f0)) || (!(((bN l0 x5_1).f1) == ((bN l1 x5_1).f1)))) = false := by simpa using c7
        clear c7
        have H' := aA.mk H
        clear H
        have p193 : 0 ≤ (x5_1 : Int) := of_decide_eq_true (by first | (with_reducible assumption) | assumption)
        have q193 : x5_1 < (l0.length : Int) := of_decide_eq_true (by first | (with_reducible assumption) | assumption)
        obtain ⟨ad193, e193, hx193_0, hx193_1⟩ := dW HR0.out x5_1 p193 q193
        cases e193
        replace p193 := eq_true p193
        replace q193 := eq_true q193
        have p194 : 0 ≤ (x5_1 : Int) := of_decide_eq_true (by first | (with_reducible assumption) | assumption)
        have q194 : x5_1 < (l1.length : Int) := of_decide_eq_true (by first | (with_reducible assumption) | assumption)
        obtain ⟨ad194, e194, hx194_0, hx194_1⟩ := dW HR1.out x5_1 p194 q194
        cases e194
        replace p194 := eq_true p194
        replace q194 := eq_true q194
        go_wp2
        repeat (go_quiet (fail); try go_wp2)
        go_roundg k1
        case measure => have := HK1.out; omega
        case rel => exact ⟨(wrap64 (x5_1 + 1)), (by first | rfl | (simp; done) | (simp [*]; done)), H', ⟨by have := HK1.out; omega⟩, by repeat (first | exact bQ.refl _ | apply bQ.step)⟩
      ·rw [if_neg c6] at H
       exact absurd H (by simp)
     ·rw [if_neg c5] at H
      exact absurd H (by simp)
    ·rw [if_neg c4] at H
     have c4b0 : decide (x5_1 < (l0.length : Int)) = false := decide_eq_false c4
     clear c4
     obtain rfl := Option.some.inj H
     go_wp2
     repeat (go_quiet (fail); try go_wp2)
     go_ret
     exact ⟨by first | rfl | (simp; done) | (simp [*]; done), by repeat (first | exact bQ.refl _ | apply bQ.step)⟩
 ·rw [if_neg c3] at H
  have c3b0 : ((l0.length : Int) == (l1.length : Int)) = false := beq_eq_false_iff_ne.mpr c3
  have c3b1 : ((l0.length : Int) != (l1.length : Int)) = true := bne_iff_ne.mpr c3
  have c3b2 : (l0.length == l1.length) = false := by first | simpa using c3 | (simp at c3 ⊢; omega)
  obtain rfl := Option.some.inj H
  go_enter Tryz.func19, Tryz.ntmps19
  go_wp2
  repeat (go_quiet (fail); try go_wp2)
  go_ret
  exact ⟨by first | rfl | (simp; done) | (simp [*]; done), by repeat (first | exact bQ.refl _ | apply bQ.step)⟩
end Go.Proofs.YtpflmgbpjhbmnaaGreat.B
end
section
namespace Go.Proofs.YtpflmgbpjhbmnaaGreat.B
open Go.RowKit Go.Proofs.YtpflmgbpjhbmnaaGreatW.PrintWords Go.Proofs.YtpflmgbpjhbmnaaGreatW.PrintLast Go.Proofs.YtpflmgbpjhbmnaaGreatW.PrintMore
attribute [local go_sem] Go.Proofs.YtpflmgbpjhbmnaaGreat.str_gtr bZ cA cJ cK bT bU cB cC   -- for this text's walks alone
set_option linter.unusedVariables false
set_option linter.unusedSimpArgs false
def dE.f (a0_0 : Int) (a0_1 : Int) : Option (Int) := if a0_0 < 0 then (some 7) else (if a0_0 > 1099511627776 then (some 7) else (if a0_1 < 0 then (some 7) else (if a0_1 > 1099511627776 then (some 7) else (some 0))))
set_option maxHeartbeats 8000000 in
set_option maxRecDepth 100000 in
theorem dE.calls (a0_0 : Int) (a0_1 : Int) (r : Int) (w : World) (h : dE.f a0_0 a0_1 = some r) :
  Calls Tryz.prog 84 #[.agg #[.int .i64 a0_0, .int .i64 a0_1]] w fun e w' => e = .returned (.int .i64 r) ∧ Below w.heap.size w w' := by
 have hu59 := Tryz.underlying59
 have HB := aA.mk (Below.refl w.heap.size w)
 have H : (if a0_0 < 0 then (some 7) else (if a0_0 > 1099511627776 then (some 7) else (if a0_1 < 0 then (some 7) else (if a0_1 > 1099511627776 then (some 7) else (some 0))))) = some r := h
 clear h
 by_cases c2 : a0_0 < 0
 ·rw [if_pos c2] at H
  have c2b0 : decide (a0_0 < 0) = true := decide_eq_true c2
  clear c2
  obtain rfl := Option.some.inj H
  go_enter Tryz.func84, Tryz.ntmps84
  go_wp2_with (first | ((with_reducible refine bK (N := 1) rfl ?_); refine bG ?hg (N := 1) ?hd (cs := #[.int .i64 a0_0, .int .i64 a0_1]) (t := 59) ?hr ?_; (case hd => rfl); (case hg => rfl); (case hr => first | (go_simp; done) | (go_simp; rfl)); intro gb214 hg w3 hbox hb; have n0_ := aA.mk (aV (by repeat (first | (with_reducible first | exact HB.out | apply aC | apply pw_below_drewN | apply aD) | exact HB.out)) hb); have n1_ := aA.mk (hbox); have n2_ := aA.mk ((by rw [hg]; exact (aM (by repeat (first | (with_reducible first | exact HB.out | apply aC | apply pw_below_drewN | apply aD) | exact HB.out))) : w.heap.size ≤ gb214)); have n3_ := aA.mk ((by rw [hg]; exact (aM (by repeat (first | (with_reducible first | exact HB.out | apply aC | apply pw_below_drewN | apply aD) | exact HB.out))) : w.heap.size ≤ gb214)); clear HB; have HB := n0_; have BK214 := n1_; have GW214 := n2_; have GE214 := n3_; clear n0_ n1_ n2_ n3_; clear hb hbox hg; have hcz4_0 : w3.cell? ⟨gb214, 0, none⟩ = some (.int .i64 a0_0) := (aE BK214.out 0).trans rfl; have hcz4_1 : w3.cell? ⟨gb214, 1, none⟩ = some (.int .i64 a0_1) := (aE BK214.out 1).trans rfl; have hfz4_0 := blk_frozen BK214.out 0; have hfz4_1 := blk_frozen BK214.out 1))
  go_ret
  exact ⟨by first | rfl | (simp [aN, aQ] <;> rfl) | (simp [*, aN, aQ] <;> rfl), by repeat (first | (with_reducible first | exact HB.out | apply aC | apply pw_below_drewN | apply aD | refine aG ?_ GE214.out) | exact HB.out)⟩
 ·rw [if_neg c2] at H
  have c2b0 : decide (a0_0 < 0) = false := decide_eq_false c2
  clear c2
  by_cases c5 : a0_0 > 1099511627776
  ·rw [if_pos c5] at H
   have c5b0 : decide (1099511627776 < a0_0) = true := decide_eq_true c5
   clear c5
   obtain rfl := Option.some.inj H
   go_enter Tryz.func84, Tryz.ntmps84
   go_wp2_with (first | ((with_reducible refine bK (N := 1) rfl ?_); refine bG ?hg (N := 1) ?hd (cs := #[.int .i64 a0_0, .int .i64 a0_1]) (t := 59) ?hr ?_; (case hd => rfl); (case hg => rfl); (case hr => first | (go_simp; done) | (go_simp; rfl)); intro gb214 hg w6 hbox hb; have n0_ := aA.mk (aV (by repeat (first | (with_reducible first | exact HB.out | apply aC | apply pw_below_drewN | apply aD) | exact HB.out)) hb); have n1_ := aA.mk (hbox); have n2_ := aA.mk ((by rw [hg]; exact (aM (by repeat (first | (with_reducible first | exact HB.out | apply aC | apply pw_below_drewN | apply aD) | exact HB.out))) : w.heap.size ≤ gb214)); have n3_ := aA.mk ((by rw [hg]; exact (aM (by repeat (first | (with_reducible first | exact HB.out | apply aC | apply pw_below_drewN | apply aD) | exact HB.out))) : w.heap.size ≤ gb214)); clear HB; have HB := n0_; have BK214 := n1_; have GW214 := n2_; have GE214 := n3_; clear n0_ n1_ n2_ n3_; clear hb hbox hg; have hcz7_0 : w6.cell? ⟨gb214, 0, none⟩ = some (.int .i64 a0_0) := (aE BK214.out 0).trans rfl; have hcz7_1 : w6.cell? ⟨gb214, 1, none⟩ = some (.int .i64 a0_1) := (aE BK214.out 1).trans rfl; have hfz7_0 := blk_frozen BK214.out 0; have hfz7_1 := blk_frozen BK214.out 1))
   go_ret
   exact ⟨by first | rfl | (simp [aN, aQ] <;> rfl) | (simp [*, aN, aQ] <;> rfl), by repeat (first | (with_reducible first | exact HB.out | apply aC | apply pw_below_drewN | apply aD | refine aG ?_ GE214.out) | exact HB.out)⟩
  ·rw [if_neg c5] at H
   have c5b0 : decide (1099511627776 < a0_0) = false := decide_eq_false c5
   clear c5
   by_cases c8 : a0_1 < 0
   ·rw [if_pos c8] at H
    have c8b0 : decide (a0_1 < 0) = true := decide_eq_true c8
    clear c8
    obtain rfl := Option.some.inj H
    go_enter Tryz.func84, Tryz.ntmps84
    go_wp2_with (first | ((with_reducible refine bK (N := 1) rfl ?_); refine bG ?hg (N := 1) ?hd (cs := #[.int .i64 a0_0, .int .i64 a0_1]) (t := 59) ?hr ?_; (case hd => rfl); (case hg => rfl); (case hr => first | (go_simp; done) | (go_simp; rfl)); intro gb214 hg w9 hbox hb; have n0_ := aA.mk (aV (by repeat (first | (with_reducible first | exact HB.out | apply aC | apply pw_below_drewN | apply aD) | exact HB.out)) hb); have n1_ := aA.mk (hbox); have n2_ := aA.mk ((by rw [hg]; exact (aM (by repeat (first | (with_reducible first | exact HB.out | apply aC | apply pw_below_drewN | apply aD) | exact HB.out))) : w.heap.size ≤ gb214)); have n3_ := aA.mk ((by rw [hg]; exact (aM (by repeat (first | (with_reducible first | exact HB.out | apply aC | apply pw_below_drewN | apply aD) | exact HB.out))) : w.heap.size ≤ gb214)); clear HB; have HB := n0_; have BK214 := n1_; have GW214 := n2_; have GE214 := n3_; clear n0_ n1_ n2_ n3_; clear hb hbox hg; have hcz10_0 : w9.cell? ⟨gb214, 0, none⟩ = some (.int .i64 a0_0) := (aE BK214.out 0).trans rfl; have hcz10_1 : w9.cell? ⟨gb214, 1, none⟩ = some (.int .i64 a0_1) := (aE BK214.out 1).trans rfl; have hfz10_0 := blk_frozen BK214.out 0; have hfz10_1 := blk_frozen BK214.out 1))
    go_ret
    exact ⟨by first | rfl | (simp [aN, aQ] <;> rfl) | (simp [*, aN, aQ] <;> rfl), by repeat (first | (with_reducible first | exact HB.out | apply aC | apply pw_below_drewN | apply aD | refine aG ?_ GE214.out) | exact HB.out)⟩
   ·rw [if_neg c8] at H
    have c8b0 : decide (a0_1 < 0) = false := decide_eq_false c8
    clear c8
    by_cases c11 : a0_1 > 1099511627776
    ·rw [if_pos c11] at H
     have c11b0 : decide (1099511627776 < a0_1) = true := decide_eq_true c11
     clear c11
     obtain rfl := Option.some.inj H
     go_enter Tryz.func84, Tryz.ntmps84
     go_wp2_with (first | ((with_reducible refine bK (N := 1) rfl ?_); refine bG ?hg (N := 1) ?hd (cs := #[.int .i64 a0_0, .int .i64 a0_1]) (t := 59) ?hr ?_; (case hd => rfl); (case hg => rfl); (case hr => first | (go_simp; done) | (go_simp; rfl)); intro gb214 hg w12 hbox hb; have n0_ := aA.mk (aV (by repeat (first | (with_reducible first | exact HB.out | apply aC | apply pw_below_drewN | apply aD) | exact HB.out)) hb); have n1_ := aA.mk (hbox); have n2_ := aA.mk ((by rw [hg]; exact (aM (by repeat (first | (with_reducible first | exact HB.out | apply aC | apply pw_below_drewN | apply aD) | exact HB.out))) : w.heap.size ≤ gb214)); have n3_ := aA.mk ((by rw [hg]; exact (aM (by repeat (first | (with_reducible first | exact HB.out | apply aC | apply pw_below_drewN | apply aD) | exact HB.out))) : w.heap.size ≤ gb214)); clear HB; have HB := n0_; have BK214 := n1_; have GW214 := n2_; have GE214 := n3_; clear n0_ n1_ n2_ n3_; clear hb hbox hg; have hcz13_0 : w12.cell? ⟨gb214, 0, none⟩ = some (.int .i64 a0_0) := (aE BK214.out 0).trans rfl; have hcz13_1 : w12.cell? ⟨gb214, 1, none⟩ = some (.int .i64 a0_1) := (aE BK214.out 1).trans rfl; have hfz13_0 := blk_frozen BK214.out 0; have hfz13_1 := blk_frozen BK214.out 1))
     go_ret
     exact ⟨by first | rfl | (simp [aN, aQ] <;> rfl) | (simp [*, aN, aQ] <;> rfl), by repeat (first | (with_reducible first | exact HB.out | apply aC | apply pw_below_drewN | apply aD | refine aG ?_ GE214.out) | exact HB.out)⟩
    ·rw [if_neg c11] at H
     have c11b0 : decide (1099511627776 < a0_1) = false := decide_eq_false c11
     clear c11
     obtain rfl := Option.some.inj H
     go_enter Tryz.func84, Tryz.ntmps84
     go_wp2_with (first | ((with_reducible refine bK (N := 1) rfl ?_); refine bG ?hg (N := 1) ?hd (cs := #[.int .i64 a0_0, .int .i64 a0_1]) (t := 59) ?hr ?_; (case hd => rfl); (case hg => rfl); (case hr => first | (go_simp; done) | (go_simp; rfl)); intro gb214 hg w14 hbox hb; have n0_ := aA.mk (aV (by repeat (first | (with_reducible first | exact HB.out | apply aC | apply pw_below_drewN | apply aD) | exact HB.out)) hb); have n1_ := aA.mk (hbox); have n2_ := aA.mk ((by rw [hg]; exact (aM (by repeat (first | (with_reducible first | exact HB.out | apply aC | apply pw_below_drewN | apply aD) | exact HB.out))) : w.heap.size ≤ gb214)); have n3_ := aA.mk ((by rw [hg]; exact (aM (by repeat (first | (with_reducible first | exact HB.out | apply aC | apply pw_below_drewN | apply aD) | exact HB.out))) : w.heap.size ≤ gb214)); clear HB; have HB := n0_; have BK214 := n1_; have GW214 := n2_; have GE214 := n3_; clear n0_ n1_ n2_ n3_; clear hb hbox hg; have hcz15_0 : w14.cell? ⟨gb214, 0, none⟩ = some (.int .i64 a0_0) := (aE BK214.out 0).trans rfl; have hcz15_1 : w14.cell? ⟨gb214, 1, none⟩ = some (.int .i64 a0_1) := (aE BK214.out 1).trans rfl; have hfz15_0 := blk_frozen BK214.out 0; have hfz15_1 := blk_frozen BK214.out 1))
     go_ret
     exact ⟨by first | rfl | (simp [aN, aQ] <;> rfl) | (simp [*, aN, aQ] <;> rfl), by repeat (first | (with_reducible first | exact HB.out | apply aC | apply pw_below_drewN | apply aD | refine aG ?_ GE214.out) | exact HB.out)⟩
end Go.Proofs.YtpflmgbpjhbmnaaGreat.B
end
