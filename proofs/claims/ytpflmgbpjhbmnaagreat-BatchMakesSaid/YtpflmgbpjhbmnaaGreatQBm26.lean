/- Bx74, Bx3, Bx58, Bx82, Bx83, Bx85, Bx81, Bx93, Bx94, Bx95, Bx99, Bx100, Bx98. -/
import Derived.Test.YtpflmgbpjhbmnaaGreatQBm24
import Derived.Test.YtpflmgbpjhbmnaaGreatQBm2
import Derived.Test.YtpflmgbpjhbmnaaGreatQBm3
import Derived.Test.YtpflmgbpjhbmnaaGreatQBm21
import Derived.Test.YtpflmgbpjhbmnaaGreatQBm25
section
namespace Go.Proofs.YtpflmgbpjhbmnaaGreat.B
open Go.RowKit Go.Proofs.YtpflmgbpjhbmnaaGreatW.PrintWords Go.Proofs.YtpflmgbpjhbmnaaGreatW.PrintLast Go.Proofs.YtpflmgbpjhbmnaaGreatW.PrintMore
attribute [local go_sem] Go.Proofs.YtpflmgbpjhbmnaaGreat.str_gtr bZ cA cJ cK bT bU cB cC   -- for this text's walks alone
set_option linter.unusedVariables false
set_option linter.unusedSimpArgs false
def bJ.l0 : Nat → List (S59) → Int → Option (Int)
 | 0, _, _ => none
 | k + 1, x0, x3 => if x3 < (x0.length : Int) then (if 0 ≤ x3 then ((dE.f ((bN x0 x3).f0) ((bN x0 x3).f1)).bind fun t264 => (if t264 = 0 then (bJ.l0 k x0 (wrap64 (x3 + 1))) else (some 7))) else (none)) else ((dF.f x0).bind fun t265 => ((bB.f k t265 x0).bind fun t268 => (if t268 = true then (some 0) else (some 6))))
def bJ.f (k : Nat) (l0 : List (S59)) : Option (Int) := if (l0.length : Int) > 1024 then (some 3) else (bJ.l0 k l0 0)
theorem bJ.mono_l : ∀ k, (∀ y0 y1, LeO (bJ.l0 k y0 y1) (bJ.l0 (k + 1) y0 y1))
 | 0 => fun _ _ r h => by simp [bJ.l0] at h
 | k + 1 => by
  have ih0 := bJ.mono_l k
  ·intro y0 y1
   unfold bJ.l0
   repeat' first
   | (with_reducible exact ih0 _ _)
   | (with_reducible exact bB.mono _ _ _)
   | (with_reducible exact LeO.refl _)
   | (with_reducible exact LeO.none _)
   | (with_reducible refine LeO.ite ?_ ?_)
   | (with_reducible refine LeO.bind ?_ (fun _ => ?_))
   | exact ih0 _ _
   | exact bB.mono _ _ _
   | exact LeO.none _
   | refine LeO.ite ?_ ?_
   | refine LeO.bind ?_ (fun _ => ?_)
theorem bJ.mono : ∀ a0 k, LeO (bJ.f k a0) (bJ.f (k + 1) a0) := by
 intro a0 k
 have ih0 := bJ.mono_l k
 unfold bJ.f
 repeat' first
   | (with_reducible exact ih0 _ _)
   | (with_reducible exact bB.mono _ _ _)
   | (with_reducible exact LeO.refl _)
   | (with_reducible exact LeO.none _)
   | (with_reducible refine LeO.ite ?_ ?_)
   | (with_reducible refine LeO.bind ?_ (fun _ => ?_))
   | exact ih0 _ _
   | exact bB.mono _ _ _
   | exact LeO.none _
   | refine LeO.ite ?_ ?_
   | refine LeO.bind ?_ (fun _ => ?_)
set_option maxHeartbeats 8000000 in
set_option maxRecDepth 100000 in
theorem bJ.calls (k : Nat) (A0 : Option Addr) (c0 : Nat) (l0 : List (S59)) (r : Int) (w : World) (hr0 : Kd.C k59 w A0 l0.length l0) (hc0 : l0.length ≤ c0) (h : bJ.f k l0 = some r) :
  Calls Tryz.prog 57 #[.slice A0 l0.length c0] w fun e w' => e = .returned (.int .i64 r) ∧ Below w.heap.size w w' := by
 have hu59 := Tryz.underlying59
 have HR0 := aA.mk hr0
 have HC0 := aA.mk hc0
 clear hr0 hc0
 have HB := aA.mk (Below.refl w.heap.size w)
 have H : (if (l0.length : Int) > 1024 then (some 3) else (bJ.l0 k l0 0)) = some r := h
 clear h
 by_cases c2 : (l0.length : Int) > 1024
 ·rw [if_pos c2] at H
  have c2b0 : decide (1024 < (l0.length : Int)) = true := decide_eq_true c2
  have c2b1 : decide (1024 < l0.length) = true := decide_eq_true (by omega)
  clear c2
  obtain rfl := Option.some.inj H
  go_enter Tryz.func57, Tryz.ntmps57
  go_wp2
  go_ret
  exact ⟨by first | rfl | (simp [aN, aQ] <;> rfl) | (simp [*, aN, aQ] <;> rfl), by repeat (first | (with_reducible first | exact HB.out | apply aC | apply pw_below_drewN | apply aD) | exact HB.out)⟩
 ·rw [if_neg c2] at H
  have c2b0 : decide (1024 < (l0.length : Int)) = false := decide_eq_false c2
  have c2b1 : decide (1024 < l0.length) = false := decide_eq_false (by omega)
  clear c2
  have H' := aA.mk H
  clear H
  go_enter Tryz.func57, Tryz.ntmps57
  go_wp2
  go_loopg [3] k (fun kq v3 w' => ∃ (x3_1 : Int), v3 = .int .i64 x3_1 ∧ aA (bJ.l0 kq l0 x3_1 = some r) ∧ aA (kq ≤ k) ∧ aA (Below w.heap.size w w'))
  case atStart => exact ⟨(0), (by first | rfl | (simp; done) | (simp [*]; done)), H', ⟨Nat.le_refl _⟩, ⟨by repeat (first | (with_reducible first | exact HB.out | apply aC | apply pw_below_drewN | apply aD) | exact HB.out)⟩⟩
  case round =>
   clear H'
   try clear c2
   try clear c2b0
   try clear c2b1
   try clear p2
   obtain ⟨x3_1, rfl, HA, HK1, HB⟩ := hrel
   cases gk with
   | zero => exact absurd HA.out (by simp [bJ.l0])
   | succ k1 =>
    have H := HA.out
    clear HA
    simp only [bJ.l0] at H
    by_cases c3 : x3_1 < (l0.length : Int)
    ·rw [if_pos c3] at H
     have c3b0 : decide (x3_1 < (l0.length : Int)) = true := decide_eq_true c3
     clear c3
     by_cases c4 : 0 ≤ x3_1
     ·rw [if_pos c4] at H
      have c4b0 : decide (0 ≤ x3_1) = true := decide_eq_true c4
      clear c4
      replace H := Option.bind_eq_some_iff.mp H
      obtain ⟨t264, A50, H⟩ := H
      replace H : (if t264 = 0 then (bJ.l0 k1 l0 (wrap64 (x3_1 + 1))) else (some 7)) = some r := H
      have A5 := aA.mk A50
      clear A50
      by_cases c6 : t264 = 0
      ·rw [if_pos c6] at H
       have c6b0 : (t264 == 0) = true := beq_iff_eq.mpr c6
       have c6b1 : (t264 != 0) = false := bne_eq_false_iff_eq.mpr c6
       clear c6
       have H' := aA.mk H
       clear H
       have p263 : 0 ≤ (x3_1 : Int) := of_decide_eq_true (by first | (with_reducible assumption) | assumption)
       have q263 : x3_1 < (l0.length : Int) := of_decide_eq_true (by first | (with_reducible assumption) | assumption)
       obtain ⟨ad263, e263, hx263_0, hx263_1⟩ := dW HR0.out x3_1 p263 q263
       cases e263
       replace hx263_0 := (HB.out.cell (World.block_lt_of_cell? w _ hx263_0)).trans hx263_0
       replace hx263_1 := (HB.out.cell (World.block_lt_of_cell? w _ hx263_1)).trans hx263_1
       replace p263 := eq_true p263
       replace q263 := eq_true q263
       go_wp2_with (first | ((with_reducible refine aZ (f := 84) rfl ?_); refine cH (some 17) rfl rfl Tryz.func84 (by kernel_rfl) rfl #[.agg #[.int .i64 ((bN l0 x3_1).f0), .int .i64 ((bN l0 x3_1).f1)]] rfl (by (try simp only [List.map_toArray, List.map_cons, List.map_nil]); first | done | rfl | (simp only [List.length_drop, List.length_take]; rfl)) ?_; (with_reducible refine (dE.calls ((bN l0 x3_1).f0) ((bN l0 x3_1).f1) t264 _ A5.out).mono ?_); rintro e w7 ⟨rfl, hb⟩; refine ⟨_, rfl, ?_⟩; have n0_ := aA.mk (aV (by repeat (first | (with_reducible first | exact HB.out | apply aC | apply pw_below_drewN | apply aD) | exact HB.out)) hb); clear HB; have HB := n0_; clear n0_; (try clear hb); (try clear hb2); (try clear hk); (try clear hi)))
       go_roundg k1
       case measure => have := HK1.out; omega
       case rel => exact ⟨(wrap64 (x3_1 + 1)), (by first | rfl | (simp; done) | (simp [*]; done)), H', ⟨by have := HK1.out; omega⟩, ⟨by repeat (first | (with_reducible first | exact HB.out | apply aC | apply pw_below_drewN | apply aD) | exact HB.out)⟩⟩
      ·rw [if_neg c6] at H
       have c6b0 : (t264 == 0) = false := beq_eq_false_iff_ne.mpr c6
       have c6b1 : (t264 != 0) = true := bne_iff_ne.mpr c6
       obtain rfl := Option.some.inj H
       have p263 : 0 ≤ (x3_1 : Int) := of_decide_eq_true (by first | (with_reducible assumption) | assumption)
       have q263 : x3_1 < (l0.length : Int) := of_decide_eq_true (by first | (with_reducible assumption) | assumption)
       obtain ⟨ad263, e263, hx263_0, hx263_1⟩ := dW HR0.out x3_1 p263 q263
       cases e263
       replace hx263_0 := (HB.out.cell (World.block_lt_of_cell? w _ hx263_0)).trans hx263_0
       replace hx263_1 := (HB.out.cell (World.block_lt_of_cell? w _ hx263_1)).trans hx263_1
       replace p263 := eq_true p263
       replace q263 := eq_true q263
       go_wp2_with (first | ((with_reducible refine aZ (f := 84) rfl ?_); refine cH (some 17) rfl rfl Tryz.func84 (by kernel_rfl) rfl #[.agg #[.int .i64 ((bN l0 x3_1).f0), .int .i64 ((bN l0 x3_1).f1)]] rfl (by (try simp only [List.map_toArray, List.map_cons, List.map_nil]); first | done | rfl | (simp only [List.length_drop, List.length_take]; rfl)) ?_; (with_reducible refine (dE.calls ((bN l0 x3_1).f0) ((bN l0 x3_1).f1) t264 _ A5.out).mono ?_); rintro e w8 ⟨rfl, hb⟩; refine ⟨_, rfl, ?_⟩; have n0_ := aA.mk (aV (by repeat (first | (with_reducible first | exact HB.out | apply aC | apply pw_below_drewN | apply aD) | exact HB.out)) hb); clear HB; have HB := n0_; clear n0_; (try clear hb); (try clear hb2); (try clear hk); (try clear hi)))
       go_ret
       exact ⟨by first | rfl | (simp [aN, aQ] <;> rfl) | (simp [*, aN, aQ] <;> rfl), by repeat (first | (with_reducible first | exact HB.out | apply aC | apply pw_below_drewN | apply aD) | exact HB.out)⟩
     ·rw [if_neg c4] at H
      exact absurd H (by simp)
    ·rw [if_neg c3] at H
     have c3b0 : decide (x3_1 < (l0.length : Int)) = false := decide_eq_false c3
     clear c3
     replace H := Option.bind_eq_some_iff.mp H
     obtain ⟨t265, A90, H⟩ := H
     replace H : ((bB.f k1 t265 l0).bind fun t268 => (if t268 = true then (some 0) else (some 6))) = some r := H
     have A9 := aA.mk A90
     clear A90
     replace H := Option.bind_eq_some_iff.mp H
     obtain ⟨t268, A100, H⟩ := H
     replace H : (if t268 = true then (some 0) else (some 6)) = some r := H
     have A10 := aA.mk A100
     clear A100
     by_cases c11 : t268 = true
     ·subst c11
      have H1 : (some 0) = some r := by rw [if_pos rfl] at H; exact H
      clear H
      have H := H1
      clear H1
      obtain rfl := Option.some.inj H
      go_wp2_with (first | ((with_reducible refine aZ (f := 85) rfl ?_); refine cH (some 20) rfl rfl Tryz.func85 (by kernel_rfl) rfl #[.slice A0 l0.length c0] rfl (by (try simp only [List.map_toArray, List.map_cons, List.map_nil]); first | done | rfl | (simp only [List.length_drop, List.length_take]; rfl)) ?_; (with_reducible refine (dF.calls _ _ l0 t265 _ ?side1 ?side2 A9.out).mono ?_); (case side1 => repeat (first | exact (Kd.C_below HR0.out HB.out) | (with_reducible refine Kd.C_alloc ?_ _) | (with_reducible refine Kd.C_drewN ?_ _) | (with_reducible refine Kd.C_drew ?_))); (case side2 => exact HC0.out); rintro e w12 ⟨v266, rfl, ho0, hb⟩; refine ⟨_, rfl, ?_⟩; have n0_ := aA.mk (Kd.R_lower ho0 (aM (by repeat (first | (with_reducible first | exact HB.out | apply aC | apply pw_below_drewN | apply aD) | exact HB.out)))); have n1_ := aA.mk (aV (by repeat (first | (with_reducible first | exact HB.out | apply aC | apply pw_below_drewN | apply aD) | exact HB.out)) hb); clear HB; have HO267 := n0_; have HB := n1_; clear n0_ n1_; (try clear hb); (try clear hb2); (try clear hk); (try clear hi); (try clear ho0); obtain ⟨Ao13, co13, eo13⟩ := Kd.R_slice HO267.out; subst eo13) | ((with_reducible refine aZ (f := 19) rfl ?_); refine cH (some 22) rfl rfl Tryz.func19 (by kernel_rfl) rfl #[.slice Ao13 t265.length co13, .slice A0 l0.length c0] rfl (by (try simp only [List.map_toArray, List.map_cons, List.map_nil]); first | done | rfl | (simp only [List.length_drop, List.length_take]; rfl)) ?_; (with_reducible refine (bB.calls k1 _ _ t265 _ _ l0 true _ ?side1 ?side2 ?side3 ?side4 A10.out).mono ?_); (case side1 => repeat (first | exact (Kd.R_reads' HO267.out).2.2 | (with_reducible refine Kd.C_alloc ?_ _) | (with_reducible refine Kd.C_drewN ?_ _) | (with_reducible refine Kd.C_drew ?_))); (case side2 => exact (Kd.R_reads' HO267.out).2.1); (case side3 => repeat (first | exact (Kd.C_below HR0.out HB.out) | (with_reducible refine Kd.C_alloc ?_ _) | (with_reducible refine Kd.C_drewN ?_ _) | (with_reducible refine Kd.C_drew ?_))); (case side4 => exact HC0.out); rintro e w' ⟨rfl, ⟨nd, rfl⟩⟩; refine ⟨_, rfl, ?_⟩))
      go_ret
      exact ⟨by first | rfl | (simp [aN, aQ] <;> rfl) | (simp [*, aN, aQ] <;> rfl), by repeat (first | (with_reducible first | exact HB.out | apply aC | apply pw_below_drewN | apply aD) | exact HB.out)⟩
     ·replace c11 := Bool.eq_false_iff.mpr c11
      subst c11
      have H1 : (some 6) = some r := by rw [if_neg (show ¬ (false = true) by decide)] at H; exact H
      clear H
      have H := H1
      clear H1
      obtain rfl := Option.some.inj H
      go_wp2_with (first | ((with_reducible refine aZ (f := 85) rfl ?_); refine cH (some 20) rfl rfl Tryz.func85 (by kernel_rfl) rfl #[.slice A0 l0.length c0] rfl (by (try simp only [List.map_toArray, List.map_cons, List.map_nil]); first | done | rfl | (simp only [List.length_drop, List.length_take]; rfl)) ?_; (with_reducible refine (dF.calls _ _ l0 t265 _ ?side1 ?side2 A9.out).mono ?_); (case side1 => repeat (first | exact (Kd.C_below HR0.out HB.out) | (with_reducible refine Kd.C_alloc ?_ _) | (with_reducible refine Kd.C_drewN ?_ _) | (with_reducible refine Kd.C_drew ?_))); (case side2 => exact HC0.out); rintro e w14 ⟨v266, rfl, ho0, hb⟩; refine ⟨_, rfl, ?_⟩; have n0_ := aA.mk (Kd.R_lower ho0 (aM (by repeat (first | (with_reducible first | exact HB.out | apply aC | apply pw_below_drewN | apply aD) | exact HB.out)))); have n1_ := aA.mk (aV (by repeat (first | (with_reducible first | exact HB.out | apply aC | apply pw_below_drewN | apply aD) | exact HB.out)) hb); clear HB; have HO267 := n0_; have HB := n1_; clear n0_ n1_; (try clear hb); (try clear hb2); (try clear hk); (try clear hi); (try clear ho0); obtain ⟨Ao15, co15, eo15⟩ := Kd.R_slice HO267.out; subst eo15) | ((with_reducible refine aZ (f := 19) rfl ?_); refine cH (some 22) rfl rfl Tryz.func19 (by kernel_rfl) rfl #[.slice Ao15 t265.length co15, .slice A0 l0.length c0] rfl (by (try simp only [List.map_toArray, List.map_cons, List.map_nil]); first | done | rfl | (simp only [List.length_drop, List.length_take]; rfl)) ?_; (with_reducible refine (bB.calls k1 _ _ t265 _ _ l0 false _ ?side1 ?side2 ?side3 ?side4 A10.out).mono ?_); (case side1 => repeat (first | exact (Kd.R_reads' HO267.out).2.2 | (with_reducible refine Kd.C_alloc ?_ _) | (with_reducible refine Kd.C_drewN ?_ _) | (with_reducible refine Kd.C_drew ?_))); (case side2 => exact (Kd.R_reads' HO267.out).2.1); (case side3 => repeat (first | exact (Kd.C_below HR0.out HB.out) | (with_reducible refine Kd.C_alloc ?_ _) | (with_reducible refine Kd.C_drewN ?_ _) | (with_reducible refine Kd.C_drew ?_))); (case side4 => exact HC0.out); rintro e w' ⟨rfl, ⟨nd, rfl⟩⟩; refine ⟨_, rfl, ?_⟩))
      go_ret
      exact ⟨by first | rfl | (simp [aN, aQ] <;> rfl) | (simp [*, aN, aQ] <;> rfl), by repeat (first | (with_reducible first | exact HB.out | apply aC | apply pw_below_drewN | apply aD) | exact HB.out)⟩
end Go.Proofs.YtpflmgbpjhbmnaaGreat.B
end
section
namespace Go.Proofs.YtpflmgbpjhbmnaaGreat.B
open Go.RowKit Go.Proofs.YtpflmgbpjhbmnaaGreatW.PrintWords Go.Proofs.YtpflmgbpjhbmnaaGreatW.PrintLast Go.Proofs.YtpflmgbpjhbmnaaGreatW.PrintMore
attribute [local go_sem] Go.Proofs.YtpflmgbpjhbmnaaGreat.str_gtr bZ cA cJ cK bT bU cB cC   -- for this text's walks alone
set_option linter.unusedVariables false
set_option linter.unusedSimpArgs false
def bL.l0 : Nat → List (S61) → Int → Option (Bool)
 | 0, _, _ => none
 | k + 1, x0, x3 => if x3 < (x0.length : Int) then (if 0 ≤ x3 then ((bH.f k ((aX x0 x3).f0)).bind fun t103 => (if t103 = true then (some true) else (bL.l0 k x0 (wrap64 (x3 + 1))))) else (none)) else (some false)
def bL.f (k : Nat) (l0 : List (S61)) : Option (Bool) := if (l0.length : Int) > 60 then (some true) else (bL.l0 k l0 0)
theorem bL.mono_l : ∀ k, (∀ y0 y1, LeO (bL.l0 k y0 y1) (bL.l0 (k + 1) y0 y1))
 | 0 => fun _ _ r h => by simp [bL.l0] at h
 | k + 1 => by
  have ih0 := bL.mono_l k
  ·intro y0 y1
   unfold bL.l0
   repeat' first
   | (with_reducible exact ih0 _ _)
   | (with_reducible exact bH.mono _ _)
   | (with_reducible exact LeO.refl _)
   | (with_reducible exact LeO.none _)
   | (with_reducible refine LeO.ite ?_ ?_)
   | (with_reducible refine LeO.bind ?_ (fun _ => ?_))
   | exact ih0 _ _
   | exact bH.mono _ _
   | exact LeO.none _
   | refine LeO.ite ?_ ?_
   | refine LeO.bind ?_ (fun _ => ?_)
theorem bL.mono : ∀ a0 k, LeO (bL.f k a0) (bL.f (k + 1) a0) := by
 intro a0 k
 have ih0 := bL.mono_l k
 unfold bL.f
 repeat' first
   | (with_reducible exact ih0 _ _)
   | (with_reducible exact bH.mono _ _)
   | (with_reducible exact LeO.refl _)
   | (with_reducible exact LeO.none _)
   | (with_reducible refine LeO.ite ?_ ?_)
   | (with_reducible refine LeO.bind ?_ (fun _ => ?_))
   | exact ih0 _ _
   | exact bH.mono _ _
   | exact LeO.none _
   | refine LeO.ite ?_ ?_
   | refine LeO.bind ?_ (fun _ => ?_)
set_option maxHeartbeats 8000000 in
set_option maxRecDepth 100000 in
theorem bL.calls (k : Nat) (A0 : Option Addr) (c0 : Nat) (l0 : List (S61)) (r : Bool) (w : World) (hr0 : Kd.C k61 w A0 l0.length l0) (hc0 : l0.length ≤ c0) (h : bL.f k l0 = some r) :
  Calls Tryz.prog 7 #[.slice A0 l0.length c0] w fun e w' => e = .returned (.bool r) ∧ bQ w w' := by
 have HR0 := aA.mk hr0
 have HC0 := aA.mk hc0
 clear hr0 hc0
 have H : (if (l0.length : Int) > 60 then (some true) else (bL.l0 k l0 0)) = some r := h
 clear h
 by_cases c2 : (l0.length : Int) > 60
 ·rw [if_pos c2] at H
  have c2b0 : decide (60 < (l0.length : Int)) = true := decide_eq_true c2
  have c2b1 : decide (60 < l0.length) = true := decide_eq_true (by omega)
  clear c2
  obtain rfl := Option.some.inj H
  go_enter Tryz.func7, Tryz.ntmps7
  go_wp2
  go_ret
  exact ⟨by first | rfl | (simp; done) | (simp [*]; done), by repeat (first | exact bQ.refl _ | apply bQ.step)⟩
 ·rw [if_neg c2] at H
  have c2b0 : decide (60 < (l0.length : Int)) = false := decide_eq_false c2
  have c2b1 : decide (60 < l0.length) = false := decide_eq_false (by omega)
  clear c2
  have H' := aA.mk H
  clear H
  go_enter Tryz.func7, Tryz.ntmps7
  go_wp2
  go_loopg [3] k (fun kq v3 w' => ∃ (x3_1 : Int), v3 = .int .i64 x3_1 ∧ aA (bL.l0 kq l0 x3_1 = some r) ∧ aA (kq ≤ k) ∧ bQ w w')
  case atStart => exact ⟨(0), (by first | rfl | (simp; done) | (simp [*]; done)), H', ⟨Nat.le_refl _⟩, by repeat (first | exact bQ.refl _ | apply bQ.step)⟩
  case round =>
   clear H'
   try clear c2
   try clear c2b0
   try clear c2b1
   try clear p2
   obtain ⟨x3_1, rfl, HA, HK1, ⟨m1, rfl⟩⟩ := hrel
   cases gk with
   | zero => exact absurd HA.out (by simp [bL.l0])
   | succ k1 =>
    have H := HA.out
    clear HA
    simp only [bL.l0] at H
    by_cases c3 : x3_1 < (l0.length : Int)
    ·rw [if_pos c3] at H
     have c3b0 : decide (x3_1 < (l0.length : Int)) = true := decide_eq_true c3
     clear c3
     by_cases c4 : 0 ≤ x3_1
     ·rw [if_pos c4] at H
      have c4b0 : decide (0 ≤ x3_1) = true := decide_eq_true c4
      clear c4
      replace H := Option.bind_eq_some_iff.mp H
      obtain ⟨t103, A50, H⟩ := H
      replace H : (if t103 = true then (some true) else (bL.l0 k1 l0 (wrap64 (x3_1 + 1)))) = some r := H
      have A5 := aA.mk A50
      clear A50
      by_cases c6 : t103 = true
      ·subst c6
       have H1 : (some true) = some r := by rw [if_pos rfl] at H; exact H
       clear H
       have H := H1
       clear H1
       obtain rfl := Option.some.inj H
       have p102 : 0 ≤ (x3_1 : Int) := of_decide_eq_true (by first | (with_reducible assumption) | assumption)
       have q102 : x3_1 < (l0.length : Int) := of_decide_eq_true (by first | (with_reducible assumption) | assumption)
       obtain ⟨ad102, A102_0, c102_0, e102, hx102_0, hx102_1, hx102_2, hx102_3, hl102_0, hi102_0⟩ := eJ HR0.out x3_1 p102 q102
       cases e102
       have HR102_0 := aA.mk hi102_0
       have HC102_0 := aA.mk hl102_0
       clear hi102_0 hl102_0
       replace p102 := eq_true p102
       replace q102 := eq_true q102
       go_wp2_with (first | ((with_reducible refine aZ (f := 38) rfl ?_); refine cH (some 18) rfl rfl Tryz.func38 (by kernel_rfl) rfl #[.slice A102_0 ((aX l0 x3_1).f0).length c102_0] rfl (by (try simp only [List.map_toArray, List.map_cons, List.map_nil]); first | done | rfl | (simp only [List.length_drop, List.length_take]; rfl)) ?_; (with_reducible refine (bH.calls k1 _ _ ((aX l0 x3_1).f0) true _ ?side1 ?side2 A5.out).mono ?_); (case side1 => repeat (first | exact HR102_0.out | (with_reducible refine Kd.C_alloc ?_ _) | (with_reducible refine Kd.C_drewN ?_ _) | (with_reducible refine Kd.C_drew ?_))); (case side2 => exact HC102_0.out); rintro e w' ⟨rfl, ⟨nd, rfl⟩⟩; refine ⟨_, rfl, ?_⟩))
       go_ret
       exact ⟨by first | rfl | (simp; done) | (simp [*]; done), by repeat (first | exact bQ.refl _ | apply bQ.step)⟩
      ·replace c6 := Bool.eq_false_iff.mpr c6
       subst c6
       have H1 : (bL.l0 k1 l0 (wrap64 (x3_1 + 1))) = some r := by rw [if_neg (show ¬ (false = true) by decide)] at H; exact H
       clear H
       have H := H1
       clear H1
       have H' := aA.mk H
       clear H
       have p102 : 0 ≤ (x3_1 : Int) := of_decide_eq_true (by first | (with_reducible assumption) | assumption)
       have q102 : x3_1 < (l0.length : Int) := of_decide_eq_true (by first | (with_reducible assumption) | assumption)
       obtain ⟨ad102, A102_0, c102_0, e102, hx102_0, hx102_1, hx102_2, hx102_3, hl102_0, hi102_0⟩ := eJ HR0.out x3_1 p102 q102
       cases e102
       have HR102_0 := aA.mk hi102_0
       have HC102_0 := aA.mk hl102_0
       clear hi102_0 hl102_0
       replace p102 := eq_true p102
       replace q102 := eq_true q102
       go_wp2_with (first | ((with_reducible refine aZ (f := 38) rfl ?_); refine cH (some 18) rfl rfl Tryz.func38 (by kernel_rfl) rfl #[.slice A102_0 ((aX l0 x3_1).f0).length c102_0] rfl (by (try simp only [List.map_toArray, List.map_cons, List.map_nil]); first | done | rfl | (simp only [List.length_drop, List.length_take]; rfl)) ?_; (with_reducible refine (bH.calls k1 _ _ ((aX l0 x3_1).f0) false _ ?side1 ?side2 A5.out).mono ?_); (case side1 => repeat (first | exact HR102_0.out | (with_reducible refine Kd.C_alloc ?_ _) | (with_reducible refine Kd.C_drewN ?_ _) | (with_reducible refine Kd.C_drew ?_))); (case side2 => exact HC102_0.out); rintro e w' ⟨rfl, ⟨nd, rfl⟩⟩; refine ⟨_, rfl, ?_⟩))
       go_roundg k1
       case measure => have := HK1.out; omega
       case rel => exact ⟨(wrap64 (x3_1 + 1)), (by first | rfl | (simp; done) | (simp [*]; done)), H', ⟨by have := HK1.out; omega⟩, by repeat (first | exact bQ.refl _ | apply bQ.step)⟩
     ·rw [if_neg c4] at H
      exact absurd H (by simp)
    ·rw [if_neg c3] at H
     have c3b0 : decide (x3_1 < (l0.length : Int)) = false := decide_eq_false c3
     clear c3
     obtain rfl := Option.some.inj H
     go_wp2
     go_ret
     exact ⟨by first | rfl | (simp; done) | (simp [*]; done), by repeat (first | exact bQ.refl _ | apply bQ.step)⟩
end Go.Proofs.YtpflmgbpjhbmnaaGreat.B
end
section
namespace Go.Proofs.YtpflmgbpjhbmnaaGreat.B
open Go.RowKit Go.Proofs.YtpflmgbpjhbmnaaGreatW.PrintWords Go.Proofs.YtpflmgbpjhbmnaaGreatW.PrintLast Go.Proofs.YtpflmgbpjhbmnaaGreatW.PrintMore
attribute [local go_sem] Go.Proofs.YtpflmgbpjhbmnaaGreat.str_gtr bZ cA cJ cK bT bU cB cC   -- for this text's walks alone
set_option linter.unusedVariables false
set_option linter.unusedSimpArgs false
def eN.f (a0 : Int) : Option (Int) := some a0
set_option maxHeartbeats 8000000 in
set_option maxRecDepth 100000 in
theorem eN.calls (a0 : Int) (r : Int) (w : World) (h : eN.f a0 = some r) :
  Calls Tryz.prog 11 #[.int .i64 a0] w fun e w' => e = .returned (.int .i64 r) ∧ bQ w w' := by
 have H : (some a0) = some r := h
 clear h
 obtain rfl := Option.some.inj H
 go_enter Tryz.func11, Tryz.ntmps11
 go_wp2
 go_ret
 exact ⟨by first | rfl | (simp; done) | (simp [*]; done), by repeat (first | exact bQ.refl _ | apply bQ.step)⟩
end Go.Proofs.YtpflmgbpjhbmnaaGreat.B
end
section
namespace Go.Proofs.YtpflmgbpjhbmnaaGreat.B
open Go.RowKit Go.Proofs.YtpflmgbpjhbmnaaGreatW.PrintWords Go.Proofs.YtpflmgbpjhbmnaaGreatW.PrintLast Go.Proofs.YtpflmgbpjhbmnaaGreatW.PrintMore
attribute [local go_sem] Go.Proofs.YtpflmgbpjhbmnaaGreat.str_gtr bZ cA cJ cK bT bU cB cC   -- for this text's walks alone
set_option linter.unusedVariables false
set_option linter.unusedSimpArgs false
def dB.f (a0 : Int) : Option (Int × Int) := some (wrap64 (IntKind.u64.wrap (Int.tdiv (IntKind.u64.wrap ((IntKind.u64.wrap (a0)) - (IntKind.u64.wrap (wrap64 (Int.tmod (IntKind.u64.wrap (a0)) 4294967296))))) 4294967296)), wrap64 (Int.tmod (IntKind.u64.wrap (a0)) 4294967296))
set_option maxHeartbeats 8000000 in
set_option maxRecDepth 100000 in
theorem dB.calls (a0 : Int) (r1 : Int) (r2 : Int) (w : World) (h : dB.f a0 = some (r1, r2)) :
  Calls Tryz.prog 120 #[.int .i64 a0] w fun e w' => e = .returned (.agg #[.int .i64 r1, .int .i64 r2]) ∧ Below w.heap.size w w' := by
 have hu150 := Tryz.underlying150
 have HB := aA.mk (Below.refl w.heap.size w)
 have H : (some (wrap64 (IntKind.u64.wrap (Int.tdiv (IntKind.u64.wrap ((IntKind.u64.wrap (a0)) - (IntKind.u64.wrap (wrap64 (Int.tmod (IntKind.u64.wrap (a0)) 4294967296))))) 4294967296)), wrap64 (Int.tmod (IntKind.u64.wrap (a0)) 4294967296))) = some (r1, r2) := h
 clear h
 simp only [Option.some.injEq, Prod.mk.injEq] at H
 obtain ⟨rfl, rfl⟩ := H
 go_enter Tryz.func120, Tryz.ntmps120
 go_wp2_with (first | ((with_reducible refine bK (N := 2) rfl ?_); refine bG ?hg (N := 2) ?hd (cs := #[.int .i64 0, .int .i64 0]) (t := 150) ?hr ?_; (case hd => rfl); (case hg => rfl); (case hr => first | (go_simp; done) | (go_simp; rfl)); intro gb303 hg w2 hbox hb; have n0_ := aA.mk (aV (by repeat (first | (with_reducible first | exact HB.out | apply aC | apply pw_below_drewN | apply aD) | exact HB.out)) hb); have n1_ := aA.mk (hbox); have n2_ := aA.mk ((by rw [hg]; exact (aM (by repeat (first | (with_reducible first | exact HB.out | apply aC | apply pw_below_drewN | apply aD) | exact HB.out))) : w.heap.size ≤ gb303)); have n3_ := aA.mk ((by rw [hg]; exact (aM (by repeat (first | (with_reducible first | exact HB.out | apply aC | apply pw_below_drewN | apply aD) | exact HB.out))) : w.heap.size ≤ gb303)); clear HB; have HB := n0_; have BK303 := n1_; have GW303 := n2_; have GE303 := n3_; clear n0_ n1_ n2_ n3_; clear hb hbox hg; have hcz3_0 : w2.cell? ⟨gb303, 0, none⟩ = some (.int .i64 0) := (aE BK303.out 0).trans rfl; have hcz3_1 : w2.cell? ⟨gb303, 1, none⟩ = some (.int .i64 0) := (aE BK303.out 1).trans rfl; have hfz3_0 := blk_frozen BK303.out 0; have hfz3_1 := blk_frozen BK303.out 1))
 refine bodyPost_ret (results_cell_row rfl _ _ gb303 150 #[.int .i64 (wrap64 (IntKind.u64.wrap (Int.tdiv (IntKind.u64.wrap ((IntKind.u64.wrap (a0)) - (IntKind.u64.wrap (wrap64 (Int.tmod (IntKind.u64.wrap (a0)) 4294967296))))) 4294967296))), .int .i64 (wrap64 (Int.tmod (IntKind.u64.wrap (a0)) 4294967296))] (0, 0) _ rfl (by (with_reducible repeat (first | refine aJ ?_ _ | refine aK ?_ | refine aI ?_ _)); refine cW (cs := #[.int .i64 (wrap64 (IntKind.u64.wrap (Int.tdiv (IntKind.u64.wrap ((IntKind.u64.wrap (a0)) - (IntKind.u64.wrap (wrap64 (Int.tmod (IntKind.u64.wrap (a0)) 4294967296))))) 4294967296))), .int .i64 0]) ?_ 1 _ rfl; (with_reducible repeat (first | refine aJ ?_ _ | refine aK ?_ | refine aI ?_ _)); refine cW (cs := #[.int .i64 0, .int .i64 0]) ?_ 0 _ rfl; (with_reducible repeat (first | refine aJ ?_ _ | refine aK ?_ | refine aI ?_ _)); exact BK303.out) Tryz.underlying150 rfl (by kernel_rfl)) rfl ?_
 exact ⟨by first | rfl | (simp [aN, aQ] <;> rfl) | (simp [*, aN, aQ] <;> rfl), by repeat (first | (with_reducible first | exact HB.out | apply aC | apply pw_below_drewN | apply aD | refine aG ?_ GE303.out) | exact HB.out)⟩
end Go.Proofs.YtpflmgbpjhbmnaaGreat.B
end
section
namespace Go.Proofs.YtpflmgbpjhbmnaaGreat.B
open Go.RowKit Go.Proofs.YtpflmgbpjhbmnaaGreatW.PrintWords Go.Proofs.YtpflmgbpjhbmnaaGreatW.PrintLast Go.Proofs.YtpflmgbpjhbmnaaGreatW.PrintMore
attribute [local go_sem] Go.Proofs.YtpflmgbpjhbmnaaGreat.str_gtr bZ cA cJ cK bT bU cB cC   -- for this text's walks alone
set_option linter.unusedVariables false
set_option linter.unusedSimpArgs false
def cM.f (a0 : Int) : Option (Int × Int) := (dB.f a0).bind fun bt305 => (if a0 < 0 then (some (wrap64 (bt305.1 - 4294967296), bt305.2)) else (some (bt305.1, bt305.2)))
set_option maxHeartbeats 8000000 in
set_option maxRecDepth 100000 in
theorem cM.calls (a0 : Int) (r1 : Int) (r2 : Int) (w : World) (h : cM.f a0 = some (r1, r2)) :
  Calls Tryz.prog 110 #[.int .i64 a0] w fun e w' => e = .returned (.agg #[.int .i64 r1, .int .i64 r2]) ∧ Below w.heap.size w w' := by
 have hu150 := Tryz.underlying150
 have HB := aA.mk (Below.refl w.heap.size w)
 have H : ((dB.f a0).bind fun bt305 => (if a0 < 0 then (some (wrap64 (bt305.1 - 4294967296), bt305.2)) else (some (bt305.1, bt305.2)))) = some (r1, r2) := h
 clear h
 replace H := Option.bind_eq_some_iff.mp H
 obtain ⟨⟨t305, t306⟩, A20, H⟩ := H
 replace H : (if a0 < 0 then (some (wrap64 (t305 - 4294967296), t306)) else (some (t305, t306))) = some (r1, r2) := H
 have A2 := aA.mk A20
 clear A20
 by_cases c3 : a0 < 0
 ·rw [if_pos c3] at H
  have c3b0 : decide (a0 < 0) = true := decide_eq_true c3
  clear c3
  simp only [Option.some.injEq, Prod.mk.injEq] at H
  obtain ⟨rfl, rfl⟩ := H
  go_enter Tryz.func110, Tryz.ntmps110
  go_wp2_with (first | ((with_reducible refine bK (N := 2) rfl ?_); refine bG ?hg (N := 2) ?hd (cs := #[.int .i64 0, .int .i64 0]) (t := 150) ?hr ?_; (case hd => rfl); (case hg => rfl); (case hr => first | (go_simp; done) | (go_simp; rfl)); intro gb304 hg w4 hbox hb; have n0_ := aA.mk (aV (by repeat (first | (with_reducible first | exact HB.out | apply aC | apply pw_below_drewN | apply aD) | exact HB.out)) hb); have n1_ := aA.mk (hbox); have n2_ := aA.mk ((by rw [hg]; exact (aM (by repeat (first | (with_reducible first | exact HB.out | apply aC | apply pw_below_drewN | apply aD) | exact HB.out))) : w.heap.size ≤ gb304)); have n3_ := aA.mk ((by rw [hg]; exact (aM (by repeat (first | (with_reducible first | exact HB.out | apply aC | apply pw_below_drewN | apply aD) | exact HB.out))) : w.heap.size ≤ gb304)); clear HB; have HB := n0_; have BK304 := n1_; have GW304 := n2_; have GE304 := n3_; clear n0_ n1_ n2_ n3_; clear hb hbox hg) | ((with_reducible refine aZ (f := 120) rfl ?_); refine cH (some 5) rfl rfl Tryz.func120 (by kernel_rfl) rfl #[.int .i64 a0] rfl (by (try simp only [List.map_toArray, List.map_cons, List.map_nil]); first | done | rfl | (simp only [List.length_drop, List.length_take]; rfl)) ?_; (with_reducible refine (dB.calls a0 t305 t306 _ A2.out).mono ?_); rintro e w5 ⟨rfl, hb⟩; refine ⟨_, rfl, ?_⟩; have n0_ := aA.mk (bD (g := gb304) (o := .cells #[.int .i64 0, .int .i64 0] 150 (0, 0)) (by (with_reducible repeat (first | refine aJ ?_ _ | refine aK ?_ | refine aI ?_ _)); exact BK304.out) hb); have n1_ := aA.mk (aV (by repeat (first | (with_reducible first | exact HB.out | apply aC | apply pw_below_drewN | apply aD | refine aG ?_ GE304.out) | exact HB.out)) hb); clear BK304; clear HB; have BK304 := n0_; have HB := n1_; clear n0_ n1_; (try clear hb); (try clear hb2); (try clear hk); (try clear hi)) | ((with_reducible refine bK (N := 3) rfl ?_); refine bG ?hg (N := 3) ?hd (cs := #[.int .i64 0, .int .i64 0]) (t := 150) ?hr ?_; (case hd => rfl); (case hg => rfl); (case hr => first | (go_simp; done) | (go_simp; rfl)); intro gb307 hg w6 hbox hb; have n0_ := aA.mk (bD (g := gb304) (o := .cells #[.int .i64 0, .int .i64 0] 150 (0, 0)) (by (with_reducible repeat (first | refine aJ ?_ _ | refine aK ?_ | refine aI ?_ _)); exact BK304.out) hb); have n1_ := aA.mk (aV (by repeat (first | (with_reducible first | exact HB.out | apply aC | apply pw_below_drewN | apply aD | refine aG ?_ GE304.out) | exact HB.out)) hb); have n2_ := aA.mk (hbox); have n3_ := aA.mk ((by rw [hg]; exact (aM (by repeat (first | (with_reducible first | exact HB.out | apply aC | apply pw_below_drewN | apply aD | refine aG ?_ GE304.out) | exact HB.out))) : w.heap.size ≤ gb307)); have n4_ := aA.mk ((by rw [hg]; exact (aM (by repeat (first | (with_reducible first | exact HB.out | apply aC | apply pw_below_drewN | apply aD | refine aG ?_ GE304.out) | exact HB.out))) : w.heap.size ≤ gb307)); have n5_ := aA.mk ((by rw [hg]; exact Nat.ne_of_lt (blk_lt (g := gb304) (o := .cells #[.int .i64 0, .int .i64 0] 150 (0, 0)) (by (with_reducible repeat (first | refine aJ ?_ _ | refine aK ?_ | refine aI ?_ _)); exact BK304.out)) : gb304 ≠ gb307)); have n6_ := aA.mk ((by rw [hg]; exact Nat.ne_of_gt (blk_lt (g := gb304) (o := .cells #[.int .i64 0, .int .i64 0] 150 (0, 0)) (by (with_reducible repeat (first | refine aJ ?_ _ | refine aK ?_ | refine aI ?_ _)); exact BK304.out)) : gb307 ≠ gb304)); clear BK304; clear HB; have BK304 := n0_; have HB := n1_; have BK307 := n2_; have GW307 := n3_; have GE307 := n4_; have NB304_307 := n5_; have NB307_304 := n6_; clear n0_ n1_ n2_ n3_ n4_ n5_ n6_; clear hb hbox hg; have hnb7 := NB307_304.out; have hnc7 := NB304_307.out; have hcz8_0 : w6.cell? ⟨gb307, 0, none⟩ = some (.int .i64 0) := (aE BK307.out 0).trans rfl; have hcz8_1 : w6.cell? ⟨gb307, 1, none⟩ = some (.int .i64 0) := (aE BK307.out 1).trans rfl; have hfz8_0 := blk_frozen BK307.out 0; have hfz8_1 := blk_frozen BK307.out 1; have hcz9_0 : w6.cell? ⟨gb304, 0, none⟩ = some (.int .i64 0) := (aE BK304.out 0).trans rfl; have hcz9_1 : w6.cell? ⟨gb304, 1, none⟩ = some (.int .i64 0) := (aE BK304.out 1).trans rfl; have hfz9_0 := blk_frozen BK304.out 0; have hfz9_1 := blk_frozen BK304.out 1))
  refine bodyPost_ret (results_cell_row rfl _ _ gb304 150 #[.int .i64 (wrap64 (t305 - 4294967296)), .int .i64 t306] (0, 0) _ rfl (by (with_reducible repeat (first | refine aJ ?_ _ | refine aK ?_ | refine aI ?_ _)); refine cW (cs := #[.int .i64 (wrap64 (t305 - 4294967296)), .int .i64 0]) ?_ 1 _ rfl; (with_reducible repeat (first | refine aJ ?_ _ | refine aK ?_ | refine aI ?_ _)); refine cW (cs := #[.int .i64 0, .int .i64 0]) ?_ 0 _ rfl; (with_reducible repeat (first | refine aJ ?_ _ | refine aK ?_ | refine aI ?_ _)); refine cZ ?_ NB304_307.out _; (with_reducible repeat (first | refine aJ ?_ _ | refine aK ?_ | refine aI ?_ _)); refine cZ ?_ NB304_307.out _; (with_reducible repeat (first | refine aJ ?_ _ | refine aK ?_ | refine aI ?_ _)); refine cZ ?_ NB304_307.out _; (with_reducible repeat (first | refine aJ ?_ _ | refine aK ?_ | refine aI ?_ _)); exact BK304.out) Tryz.underlying150 rfl (by kernel_rfl)) rfl ?_
  exact ⟨by first | rfl | (simp [aN, aQ] <;> rfl) | (simp [*, aN, aQ] <;> rfl), by repeat (first | (with_reducible first | exact HB.out | apply aC | apply pw_below_drewN | apply aD | refine aG ?_ GE304.out | refine aG ?_ GE307.out) | exact HB.out)⟩
 ·rw [if_neg c3] at H
  have c3b0 : decide (a0 < 0) = false := decide_eq_false c3
  clear c3
  simp only [Option.some.injEq, Prod.mk.injEq] at H
  obtain ⟨rfl, rfl⟩ := H
  go_enter Tryz.func110, Tryz.ntmps110
  go_wp2_with (first | ((with_reducible refine bK (N := 2) rfl ?_); refine bG ?hg (N := 2) ?hd (cs := #[.int .i64 0, .int .i64 0]) (t := 150) ?hr ?_; (case hd => rfl); (case hg => rfl); (case hr => first | (go_simp; done) | (go_simp; rfl)); intro gb304 hg w10 hbox hb; have n0_ := aA.mk (aV (by repeat (first | (with_reducible first | exact HB.out | apply aC | apply pw_below_drewN | apply aD) | exact HB.out)) hb); have n1_ := aA.mk (hbox); have n2_ := aA.mk ((by rw [hg]; exact (aM (by repeat (first | (with_reducible first | exact HB.out | apply aC | apply pw_below_drewN | apply aD) | exact HB.out))) : w.heap.size ≤ gb304)); have n3_ := aA.mk ((by rw [hg]; exact (aM (by repeat (first | (with_reducible first | exact HB.out | apply aC | apply pw_below_drewN | apply aD) | exact HB.out))) : w.heap.size ≤ gb304)); clear HB; have HB := n0_; have BK304 := n1_; have GW304 := n2_; have GE304 := n3_; clear n0_ n1_ n2_ n3_; clear hb hbox hg) | ((with_reducible refine aZ (f := 120) rfl ?_); refine cH (some 5) rfl rfl Tryz.func120 (by kernel_rfl) rfl #[.int .i64 a0] rfl (by (try simp only [List.map_toArray, List.map_cons, List.map_nil]); first | done | rfl | (simp only [List.length_drop, List.length_take]; rfl)) ?_; (with_reducible refine (dB.calls a0 t305 t306 _ A2.out).mono ?_); rintro e w11 ⟨rfl, hb⟩; refine ⟨_, rfl, ?_⟩; have n0_ := aA.mk (bD (g := gb304) (o := .cells #[.int .i64 0, .int .i64 0] 150 (0, 0)) (by (with_reducible repeat (first | refine aJ ?_ _ | refine aK ?_ | refine aI ?_ _)); exact BK304.out) hb); have n1_ := aA.mk (aV (by repeat (first | (with_reducible first | exact HB.out | apply aC | apply pw_below_drewN | apply aD | refine aG ?_ GE304.out) | exact HB.out)) hb); clear BK304; clear HB; have BK304 := n0_; have HB := n1_; clear n0_ n1_; (try clear hb); (try clear hb2); (try clear hk); (try clear hi)) | ((with_reducible refine bK (N := 3) rfl ?_); refine bG ?hg (N := 3) ?hd (cs := #[.int .i64 0, .int .i64 0]) (t := 150) ?hr ?_; (case hd => rfl); (case hg => rfl); (case hr => first | (go_simp; done) | (go_simp; rfl)); intro gb307 hg w12 hbox hb; have n0_ := aA.mk (bD (g := gb304) (o := .cells #[.int .i64 0, .int .i64 0] 150 (0, 0)) (by (with_reducible repeat (first | refine aJ ?_ _ | refine aK ?_ | refine aI ?_ _)); exact BK304.out) hb); have n1_ := aA.mk (aV (by repeat (first | (with_reducible first | exact HB.out | apply aC | apply pw_below_drewN | apply aD | refine aG ?_ GE304.out) | exact HB.out)) hb); have n2_ := aA.mk (hbox); have n3_ := aA.mk ((by rw [hg]; exact (aM (by repeat (first | (with_reducible first | exact HB.out | apply aC | apply pw_below_drewN | apply aD | refine aG ?_ GE304.out) | exact HB.out))) : w.heap.size ≤ gb307)); have n4_ := aA.mk ((by rw [hg]; exact (aM (by repeat (first | (with_reducible first | exact HB.out | apply aC | apply pw_below_drewN | apply aD | refine aG ?_ GE304.out) | exact HB.out))) : w.heap.size ≤ gb307)); have n5_ := aA.mk ((by rw [hg]; exact Nat.ne_of_lt (blk_lt (g := gb304) (o := .cells #[.int .i64 0, .int .i64 0] 150 (0, 0)) (by (with_reducible repeat (first | refine aJ ?_ _ | refine aK ?_ | refine aI ?_ _)); exact BK304.out)) : gb304 ≠ gb307)); have n6_ := aA.mk ((by rw [hg]; exact Nat.ne_of_gt (blk_lt (g := gb304) (o := .cells #[.int .i64 0, .int .i64 0] 150 (0, 0)) (by (with_reducible repeat (first | refine aJ ?_ _ | refine aK ?_ | refine aI ?_ _)); exact BK304.out)) : gb307 ≠ gb304)); clear BK304; clear HB; have BK304 := n0_; have HB := n1_; have BK307 := n2_; have GW307 := n3_; have GE307 := n4_; have NB304_307 := n5_; have NB307_304 := n6_; clear n0_ n1_ n2_ n3_ n4_ n5_ n6_; clear hb hbox hg; have hnb13 := NB307_304.out; have hnc13 := NB304_307.out; have hcz14_0 : w12.cell? ⟨gb307, 0, none⟩ = some (.int .i64 0) := (aE BK307.out 0).trans rfl; have hcz14_1 : w12.cell? ⟨gb307, 1, none⟩ = some (.int .i64 0) := (aE BK307.out 1).trans rfl; have hfz14_0 := blk_frozen BK307.out 0; have hfz14_1 := blk_frozen BK307.out 1; have hcz15_0 : w12.cell? ⟨gb304, 0, none⟩ = some (.int .i64 0) := (aE BK304.out 0).trans rfl; have hcz15_1 : w12.cell? ⟨gb304, 1, none⟩ = some (.int .i64 0) := (aE BK304.out 1).trans rfl; have hfz15_0 := blk_frozen BK304.out 0; have hfz15_1 := blk_frozen BK304.out 1))
  refine bodyPost_ret (results_cell_row rfl _ _ gb304 150 #[.int .i64 t305, .int .i64 t306] (0, 0) _ rfl (by (with_reducible repeat (first | refine aJ ?_ _ | refine aK ?_ | refine aI ?_ _)); refine cW (cs := #[.int .i64 t305, .int .i64 0]) ?_ 1 _ rfl; (with_reducible repeat (first | refine aJ ?_ _ | refine aK ?_ | refine aI ?_ _)); refine cW (cs := #[.int .i64 0, .int .i64 0]) ?_ 0 _ rfl; (with_reducible repeat (first | refine aJ ?_ _ | refine aK ?_ | refine aI ?_ _)); refine cZ ?_ NB304_307.out _; (with_reducible repeat (first | refine aJ ?_ _ | refine aK ?_ | refine aI ?_ _)); refine cZ ?_ NB304_307.out _; (with_reducible repeat (first | refine aJ ?_ _ | refine aK ?_ | refine aI ?_ _)); exact BK304.out) Tryz.underlying150 rfl (by kernel_rfl)) rfl ?_
  exact ⟨by first | rfl | (simp [aN, aQ] <;> rfl) | (simp [*, aN, aQ] <;> rfl), by repeat (first | (with_reducible first | exact HB.out | apply aC | apply pw_below_drewN | apply aD | refine aG ?_ GE304.out | refine aG ?_ GE307.out) | exact HB.out)⟩
end Go.Proofs.YtpflmgbpjhbmnaaGreat.B
end
section
namespace Go.Proofs.YtpflmgbpjhbmnaaGreat.B
open Go.RowKit Go.Proofs.YtpflmgbpjhbmnaaGreatW.PrintWords Go.Proofs.YtpflmgbpjhbmnaaGreatW.PrintLast Go.Proofs.YtpflmgbpjhbmnaaGreatW.PrintMore
attribute [local go_sem] Go.Proofs.YtpflmgbpjhbmnaaGreat.str_gtr bZ cA cJ cK bT bU cB cC   -- for this text's walks alone
set_option linter.unusedVariables false
set_option linter.unusedSimpArgs false
def dI.f (a0 : Int) (a1 : Int) : Option (Int × Int) := (cM.f a0).bind fun bt309 => ((cM.f a1).bind fun bt311 => ((cR.f (wrap64 ((wrap64 (bt309.1 + bt311.1)) + (wrap64 (Int.tdiv (wrap64 (bt309.2 + bt311.2)) 4294967296)))) (Int.tmod (wrap64 (bt309.2 + bt311.2)) 4294967296)).bind fun bt315 => (some (bt315.1, bt315.2))))
set_option maxHeartbeats 8000000 in
set_option maxRecDepth 100000 in
theorem dI.calls (a0 : Int) (a1 : Int) (r1 : Int) (r2 : Int) (w : World) (h : dI.f a0 a1 = some (r1, r2)) :
  Calls Tryz.prog 87 #[.int .i64 a0, .int .i64 a1] w fun e w' => e = .returned (.tuple #[.int .i64 r1, .int .i64 r2]) ∧ Below w.heap.size w w' := by
 have hu150 := Tryz.underlying150
 have HB := aA.mk (Below.refl w.heap.size w)
 have H : ((cM.f a0).bind fun bt309 => ((cM.f a1).bind fun bt311 => ((cR.f (wrap64 ((wrap64 (bt309.1 + bt311.1)) + (wrap64 (Int.tdiv (wrap64 (bt309.2 + bt311.2)) 4294967296)))) (Int.tmod (wrap64 (bt309.2 + bt311.2)) 4294967296)).bind fun bt315 => (some (bt315.1, bt315.2))))) = some (r1, r2) := h
 clear h
 replace H := Option.bind_eq_some_iff.mp H
 obtain ⟨⟨t309, t310⟩, A30, H⟩ := H
 replace H : ((cM.f a1).bind fun bt311 => ((cR.f (wrap64 ((wrap64 (t309 + bt311.1)) + (wrap64 (Int.tdiv (wrap64 (t310 + bt311.2)) 4294967296)))) (Int.tmod (wrap64 (t310 + bt311.2)) 4294967296)).bind fun bt315 => (some (bt315.1, bt315.2)))) = some (r1, r2) := H
 have A3 := aA.mk A30
 clear A30
 replace H := Option.bind_eq_some_iff.mp H
 obtain ⟨⟨t311, t312⟩, A40, H⟩ := H
 replace H : ((cR.f (wrap64 ((wrap64 (t309 + t311)) + (wrap64 (Int.tdiv (wrap64 (t310 + t312)) 4294967296)))) (Int.tmod (wrap64 (t310 + t312)) 4294967296)).bind fun bt315 => (some (bt315.1, bt315.2))) = some (r1, r2) := H
 have A4 := aA.mk A40
 clear A40
 replace H := Option.bind_eq_some_iff.mp H
 obtain ⟨⟨t315, t316⟩, A50, H⟩ := H
 replace H : (some (t315, t316)) = some (r1, r2) := H
 have A5 := aA.mk A50
 clear A50
 simp only [Option.some.injEq, Prod.mk.injEq] at H
 obtain ⟨rfl, rfl⟩ := H
 go_enter Tryz.func87, Tryz.ntmps87
 go_wp2_with (first | ((with_reducible refine aZ (f := 110) rfl ?_); refine cH (some 10) rfl rfl Tryz.func110 (by kernel_rfl) rfl #[.int .i64 a0] rfl (by (try simp only [List.map_toArray, List.map_cons, List.map_nil]); first | done | rfl | (simp only [List.length_drop, List.length_take]; rfl)) ?_; (with_reducible refine (cM.calls a0 t309 t310 _ A3.out).mono ?_); rintro e w6 ⟨rfl, hb⟩; refine ⟨_, rfl, ?_⟩; have n0_ := aA.mk (aV (by repeat (first | (with_reducible first | exact HB.out | apply aC | apply pw_below_drewN | apply aD) | exact HB.out)) hb); clear HB; have HB := n0_; clear n0_; (try clear hb); (try clear hb2); (try clear hk); (try clear hi)) | ((with_reducible refine aZ (f := 110) rfl ?_); refine cH (some 12) rfl rfl Tryz.func110 (by kernel_rfl) rfl #[.int .i64 a1] rfl (by (try simp only [List.map_toArray, List.map_cons, List.map_nil]); first | done | rfl | (simp only [List.length_drop, List.length_take]; rfl)) ?_; (with_reducible refine (cM.calls a1 t311 t312 _ A4.out).mono ?_); rintro e w7 ⟨rfl, hb⟩; refine ⟨_, rfl, ?_⟩; have n0_ := aA.mk (aV (by repeat (first | (with_reducible first | exact HB.out | apply aC | apply pw_below_drewN | apply aD) | exact HB.out)) hb); clear HB; have HB := n0_; clear n0_; (try clear hb); (try clear hb2); (try clear hk); (try clear hi)) | ((with_reducible refine bK (N := 6) rfl ?_); refine bG ?hg (N := 6) ?hd (cs := #[.int .i64 0, .int .i64 0]) (t := 150) ?hr ?_; (case hd => rfl); (case hg => rfl); (case hr => first | (go_simp; done) | (go_simp; rfl)); intro gb313 hg w8 hbox hb; have n0_ := aA.mk (aV (by repeat (first | (with_reducible first | exact HB.out | apply aC | apply pw_below_drewN | apply aD) | exact HB.out)) hb); have n1_ := aA.mk (hbox); have n2_ := aA.mk ((by rw [hg]; exact (aM (by repeat (first | (with_reducible first | exact HB.out | apply aC | apply pw_below_drewN | apply aD) | exact HB.out))) : w.heap.size ≤ gb313)); have n3_ := aA.mk ((by rw [hg]; exact (aM (by repeat (first | (with_reducible first | exact HB.out | apply aC | apply pw_below_drewN | apply aD) | exact HB.out))) : w.heap.size ≤ gb313)); clear HB; have HB := n0_; have BK313 := n1_; have GW313 := n2_; have GE313 := n3_; clear n0_ n1_ n2_ n3_; clear hb hbox hg) | ((with_reducible refine bK (N := 7) rfl ?_); refine bG ?hg (N := 7) ?hd (cs := #[.int .i64 0, .int .i64 0]) (t := 150) ?hr ?_; (case hd => rfl); (case hg => rfl); (case hr => first | (go_simp; done) | (go_simp; rfl)); intro gb314 hg w9 hbox hb; have n0_ := aA.mk (bD (g := gb313) (o := .cells #[.int .i64 0, .int .i64 0] 150 (0, 0)) (by (with_reducible repeat (first | refine aJ ?_ _ | refine aK ?_ | refine aI ?_ _)); exact BK313.out) hb); have n1_ := aA.mk (aV (by repeat (first | (with_reducible first | exact HB.out | apply aC | apply pw_below_drewN | apply aD | refine aG ?_ GE313.out) | exact HB.out)) hb); have n2_ := aA.mk (hbox); have n3_ := aA.mk ((by rw [hg]; exact (aM (by repeat (first | (with_reducible first | exact HB.out | apply aC | apply pw_below_drewN | apply aD | refine aG ?_ GE313.out) | exact HB.out))) : w.heap.size ≤ gb314)); have n4_ := aA.mk ((by rw [hg]; exact (aM (by repeat (first | (with_reducible first | exact HB.out | apply aC | apply pw_below_drewN | apply aD | refine aG ?_ GE313.out) | exact HB.out))) : w.heap.size ≤ gb314)); have n5_ := aA.mk ((by rw [hg]; exact Nat.ne_of_lt (blk_lt (g := gb313) (o := .cells #[.int .i64 0, .int .i64 0] 150 (0, 0)) (by (with_reducible repeat (first | refine aJ ?_ _ | refine aK ?_ | refine aI ?_ _)); exact BK313.out)) : gb313 ≠ gb314)); have n6_ := aA.mk ((by rw [hg]; exact Nat.ne_of_gt (blk_lt (g := gb313) (o := .cells #[.int .i64 0, .int .i64 0] 150 (0, 0)) (by (with_reducible repeat (first | refine aJ ?_ _ | refine aK ?_ | refine aI ?_ _)); exact BK313.out)) : gb314 ≠ gb313)); clear BK313; clear HB; have BK313 := n0_; have HB := n1_; have BK314 := n2_; have GW314 := n3_; have GE314 := n4_; have NB313_314 := n5_; have NB314_313 := n6_; clear n0_ n1_ n2_ n3_ n4_ n5_ n6_; clear hb hbox hg; have hnb10 := NB313_314.out; have hnc10 := NB314_313.out; have hcz11_0 : w9.cell? ⟨gb313, 0, none⟩ = some (.int .i64 0) := (aE BK313.out 0).trans rfl; have hcz11_1 : w9.cell? ⟨gb313, 1, none⟩ = some (.int .i64 0) := (aE BK313.out 1).trans rfl; have hfz11_0 := blk_frozen BK313.out 0; have hfz11_1 := blk_frozen BK313.out 1; have hcz12_0 : w9.cell? ⟨gb314, 0, none⟩ = some (.int .i64 0) := (aE BK314.out 0).trans rfl; have hcz12_1 : w9.cell? ⟨gb314, 1, none⟩ = some (.int .i64 0) := (aE BK314.out 1).trans rfl; have hfz12_0 := blk_frozen BK314.out 0; have hfz12_1 := blk_frozen BK314.out 1) | ((with_reducible refine aZ (f := 111) rfl ?_); refine cH (some 29) rfl rfl Tryz.func111 (by kernel_rfl) rfl #[.agg #[.int .i64 (wrap64 ((wrap64 (t309 + t311)) + (wrap64 (Int.tdiv (wrap64 (t310 + t312)) 4294967296)))), .int .i64 (Int.tmod (wrap64 (t310 + t312)) 4294967296)]] rfl (by (try simp only [List.map_toArray, List.map_cons, List.map_nil]); first | done | rfl | (simp only [List.length_drop, List.length_take]; rfl)) ?_; (with_reducible refine (cR.calls (wrap64 ((wrap64 (t309 + t311)) + (wrap64 (Int.tdiv (wrap64 (t310 + t312)) 4294967296)))) (Int.tmod (wrap64 (t310 + t312)) 4294967296) t315 t316 _ A5.out).mono ?_); rintro e w13 ⟨rfl, hb⟩; refine ⟨_, rfl, ?_⟩; have n0_ := aA.mk (bD (g := gb313) (o := .cells #[.int .i64 t309, .int .i64 t310] 150 (0, 0)) (by (with_reducible repeat (first | refine aJ ?_ _ | refine aK ?_ | refine aI ?_ _)); refine cZ ?_ NB313_314.out _; (with_reducible repeat (first | refine aJ ?_ _ | refine aK ?_ | refine aI ?_ _)); refine cZ ?_ NB313_314.out _; (with_reducible repeat (first | refine aJ ?_ _ | refine aK ?_ | refine aI ?_ _)); refine cW (cs := #[.int .i64 t309, .int .i64 0]) ?_ 1 _ rfl; (with_reducible repeat (first | refine aJ ?_ _ | refine aK ?_ | refine aI ?_ _)); refine cW (cs := #[.int .i64 0, .int .i64 0]) ?_ 0 _ rfl; (with_reducible repeat (first | refine aJ ?_ _ | refine aK ?_ | refine aI ?_ _)); exact BK313.out) hb); have n1_ := aA.mk (bD (g := gb314) (o := .cells #[.int .i64 t311, .int .i64 t312] 150 (0, 0)) (by (with_reducible repeat (first | refine aJ ?_ _ | refine aK ?_ | refine aI ?_ _)); refine cW (cs := #[.int .i64 t311, .int .i64 0]) ?_ 1 _ rfl; (with_reducible repeat (first | refine aJ ?_ _ | refine aK ?_ | refine aI ?_ _)); refine cW (cs := #[.int .i64 0, .int .i64 0]) ?_ 0 _ rfl; (with_reducible repeat (first | refine aJ ?_ _ | refine aK ?_ | refine aI ?_ _)); refine cZ ?_ NB314_313.out _; (with_reducible repeat (first | refine aJ ?_ _ | refine aK ?_ | refine aI ?_ _)); refine cZ ?_ NB314_313.out _; (with_reducible repeat (first | refine aJ ?_ _ | refine aK ?_ | refine aI ?_ _)); exact BK314.out) hb); have n2_ := aA.mk (aV (by repeat (first | (with_reducible first | exact HB.out | apply aC | apply pw_below_drewN | apply aD | refine aG ?_ GE313.out | refine aG ?_ GE314.out) | exact HB.out)) hb); clear BK313; clear BK314; clear HB; have BK313 := n0_; have BK314 := n1_; have HB := n2_; clear n0_ n1_ n2_; (try clear hb); (try clear hb2); (try clear hk); (try clear hi)))
 go_ret2
 exact ⟨by first | rfl | (simp [aN, aQ] <;> rfl) | (simp [*, aN, aQ] <;> rfl), by repeat (first | (with_reducible first | exact HB.out | apply aC | apply pw_below_drewN | apply aD | refine aG ?_ GE313.out | refine aG ?_ GE314.out) | exact HB.out)⟩
end Go.Proofs.YtpflmgbpjhbmnaaGreat.B
end
section
namespace Go.Proofs.YtpflmgbpjhbmnaaGreat.B
open Go.RowKit Go.Proofs.YtpflmgbpjhbmnaaGreatW.PrintWords Go.Proofs.YtpflmgbpjhbmnaaGreatW.PrintLast Go.Proofs.YtpflmgbpjhbmnaaGreatW.PrintMore
attribute [local go_sem] Go.Proofs.YtpflmgbpjhbmnaaGreat.str_gtr bZ cA cJ cK bT bU cB cC   -- for this text's walks alone
set_option linter.unusedVariables false
set_option linter.unusedSimpArgs false
def cU.f (k : Nat) (l0_0 : List (S85)) (a0_1 : Int) (a0_2 : Int) (a0_3 : Int) (l1_0 : List (S85)) (a1_1 : Int) (a1_2 : Int) (a1_3 : Int) : Option (Int) := (aU.f k l0_0 l1_0).bind fun t301 => (if t301 = 0 then ((cT.f a0_1 a0_2 a1_1 a1_2).bind fun t302 => (some t302)) else (some t301))
theorem cU.mono : ∀ a0 a1 a2 a3 a4 a5 a6 a7 k, LeO (cU.f k a0 a1 a2 a3 a4 a5 a6 a7) (cU.f (k + 1) a0 a1 a2 a3 a4 a5 a6 a7) := by
 intro a0 a1 a2 a3 a4 a5 a6 a7 k
 unfold cU.f
 repeat' first
   | (with_reducible exact aU.mono _ _ _)
   | (with_reducible exact LeO.refl _)
   | (with_reducible exact LeO.none _)
   | (with_reducible refine LeO.ite ?_ ?_)
   | (with_reducible refine LeO.bind ?_ (fun _ => ?_))
   | exact aU.mono _ _ _
   | exact LeO.none _
   | refine LeO.ite ?_ ?_
   | refine LeO.bind ?_ (fun _ => ?_)
set_option maxHeartbeats 8000000 in
set_option maxRecDepth 100000 in
theorem cU.calls (k : Nat) (A0_0 : Option Addr) (c0_0 : Nat) (l0_0 : List (S85)) (a0_1 : Int) (a0_2 : Int) (a0_3 : Int) (A1_0 : Option Addr) (c1_0 : Nat) (l1_0 : List (S85)) (a1_1 : Int) (a1_2 : Int) (a1_3 : Int) (r : Int) (w : World) (hr0_0 : Kd.C k85 w A0_0 l0_0.length l0_0) (hc0_0 : l0_0.length ≤ c0_0) (hr1_0 : Kd.C k85 w A1_0 l1_0.length l1_0) (hc1_0 : l1_0.length ≤ c1_0) (h : cU.f k l0_0 a0_1 a0_2 a0_3 l1_0 a1_1 a1_2 a1_3 = some r) :
  Calls Tryz.prog 60 #[.agg #[.slice A0_0 l0_0.length c0_0, .int .i64 a0_1, .int .i64 a0_2, .int .i64 a0_3], .agg #[.slice A1_0 l1_0.length c1_0, .int .i64 a1_1, .int .i64 a1_2, .int .i64 a1_3]] w fun e w' => e = .returned (.int .i64 r) ∧ Below w.heap.size w w' := by
 have hu61 := Tryz.underlying61
 have hu59 := Tryz.underlying59
 have HR0_0 := aA.mk hr0_0
 have HC0_0 := aA.mk hc0_0
 clear hr0_0 hc0_0
 have HR1_0 := aA.mk hr1_0
 have HC1_0 := aA.mk hc1_0
 clear hr1_0 hc1_0
 have HB := aA.mk (Below.refl w.heap.size w)
 have H : ((aU.f k l0_0 l1_0).bind fun t301 => (if t301 = 0 then ((cT.f a0_1 a0_2 a1_1 a1_2).bind fun t302 => (some t302)) else (some t301))) = some r := h
 clear h
 replace H := Option.bind_eq_some_iff.mp H
 obtain ⟨t301, A30, H⟩ := H
 replace H : (if t301 = 0 then ((cT.f a0_1 a0_2 a1_1 a1_2).bind fun t302 => (some t302)) else (some t301)) = some r := H
 have A3 := aA.mk A30
 clear A30
 by_cases c4 : t301 = 0
 ·rw [if_pos c4] at H
  have c4b0 : (t301 == 0) = true := beq_iff_eq.mpr c4
  have c4b1 : (t301 != 0) = false := bne_eq_false_iff_eq.mpr c4
  clear c4
  replace H := Option.bind_eq_some_iff.mp H
  obtain ⟨t302, A50, H⟩ := H
  replace H : (some t302) = some r := H
  have A5 := aA.mk A50
  clear A50
  obtain rfl := Option.some.inj H
  go_enter Tryz.func60, Tryz.ntmps60
  go_wp2_with (first | ((with_reducible refine bK (N := 2) rfl ?_); refine bG ?hg (N := 2) ?hd (cs := #[.slice A0_0 l0_0.length c0_0, .int .i64 a0_1, .int .i64 a0_2, .int .i64 a0_3]) (t := 61) ?hr ?_; (case hd => rfl); (case hg => rfl); (case hr => first | (go_simp; done) | (go_simp; rfl)); intro gb299 hg w6 hbox hb; have n0_ := aA.mk (aV (by repeat (first | (with_reducible first | exact HB.out | apply aC | apply pw_below_drewN | apply aD) | exact HB.out)) hb); have n1_ := aA.mk (hbox); have n2_ := aA.mk ((by rw [hg]; exact (aM (by repeat (first | (with_reducible first | exact HB.out | apply aC | apply pw_below_drewN | apply aD) | exact HB.out))) : w.heap.size ≤ gb299)); have n3_ := aA.mk ((by rw [hg]; exact (aM (by repeat (first | (with_reducible first | exact HB.out | apply aC | apply pw_below_drewN | apply aD) | exact HB.out))) : w.heap.size ≤ gb299)); clear HB; have HB := n0_; have BK299 := n1_; have GW299 := n2_; have GE299 := n3_; clear n0_ n1_ n2_ n3_; clear hb hbox hg) | ((with_reducible refine bK (N := 3) rfl ?_); refine bG ?hg (N := 3) ?hd (cs := #[.slice A1_0 l1_0.length c1_0, .int .i64 a1_1, .int .i64 a1_2, .int .i64 a1_3]) (t := 61) ?hr ?_; (case hd => rfl); (case hg => rfl); (case hr => first | (go_simp; done) | (go_simp; rfl)); intro gb300 hg w7 hbox hb; have n0_ := aA.mk (bD (g := gb299) (o := .cells #[.slice A0_0 l0_0.length c0_0, .int .i64 a0_1, .int .i64 a0_2, .int .i64 a0_3] 61 (0, 0)) (by (with_reducible repeat (first | refine aJ ?_ _ | refine aK ?_ | refine aI ?_ _)); exact BK299.out) hb); have n1_ := aA.mk (aV (by repeat (first | (with_reducible first | exact HB.out | apply aC | apply pw_below_drewN | apply aD | refine aG ?_ GE299.out) | exact HB.out)) hb); have n2_ := aA.mk (hbox); have n3_ := aA.mk ((by rw [hg]; exact (aM (by repeat (first | (with_reducible first | exact HB.out | apply aC | apply pw_below_drewN | apply aD | refine aG ?_ GE299.out) | exact HB.out))) : w.heap.size ≤ gb300)); have n4_ := aA.mk ((by rw [hg]; exact (aM (by repeat (first | (with_reducible first | exact HB.out | apply aC | apply pw_below_drewN | apply aD | refine aG ?_ GE299.out) | exact HB.out))) : w.heap.size ≤ gb300)); have n5_ := aA.mk ((by rw [hg]; exact Nat.ne_of_lt (blk_lt (g := gb299) (o := .cells #[.slice A0_0 l0_0.length c0_0, .int .i64 a0_1, .int .i64 a0_2, .int .i64 a0_3] 61 (0, 0)) (by (with_reducible repeat (first | refine aJ ?_ _ | refine aK ?_ | refine aI ?_ _)); exact BK299.out)) : gb299 ≠ gb300)); have n6_ := aA.mk ((by rw [hg]; exact Nat.ne_of_gt (blk_lt (g := gb299) (o := .cells #[.slice A0_0 l0_0.length c0_0, .int .i64 a0_1, .int .i64 a0_2, .int .i64 a0_3] 61 (0, 0)) (by (with_reducible repeat (first | refine aJ ?_ _ | refine aK ?_ | refine aI ?_ _)); exact BK299.out)) : gb300 ≠ gb299)); clear BK299; clear HB; have BK299 := n0_; have HB := n1_; have BK300 := n2_; have GW300 := n3_; have GE300 := n4_; have NB299_300 := n5_; have NB300_299 := n6_; clear n0_ n1_ n2_ n3_ n4_ n5_ n6_; clear hb hbox hg; have hnb8 := NB299_300.out; have hnc8 := NB300_299.out; have hcz9_0 : w7.cell? ⟨gb299, 0, none⟩ = some (.slice A0_0 l0_0.length c0_0) := (aE BK299.out 0).trans rfl; have hcz9_1 : w7.cell? ⟨gb299, 1, none⟩ = some (.int .i64 a0_1) := (aE BK299.out 1).trans rfl; have hcz9_2 : w7.cell? ⟨gb299, 2, none⟩ = some (.int .i64 a0_2) := (aE BK299.out 2).trans rfl; have hcz9_3 : w7.cell? ⟨gb299, 3, none⟩ = some (.int .i64 a0_3) := (aE BK299.out 3).trans rfl; have hfz9_0 := blk_frozen BK299.out 0; have hfz9_1 := blk_frozen BK299.out 1; have hfz9_2 := blk_frozen BK299.out 2; have hfz9_3 := blk_frozen BK299.out 3; have hcz10_0 : w7.cell? ⟨gb300, 0, none⟩ = some (.slice A1_0 l1_0.length c1_0) := (aE BK300.out 0).trans rfl; have hcz10_1 : w7.cell? ⟨gb300, 1, none⟩ = some (.int .i64 a1_1) := (aE BK300.out 1).trans rfl; have hcz10_2 : w7.cell? ⟨gb300, 2, none⟩ = some (.int .i64 a1_2) := (aE BK300.out 2).trans rfl; have hcz10_3 : w7.cell? ⟨gb300, 3, none⟩ = some (.int .i64 a1_3) := (aE BK300.out 3).trans rfl; have hfz10_0 := blk_frozen BK300.out 0; have hfz10_1 := blk_frozen BK300.out 1; have hfz10_2 := blk_frozen BK300.out 2; have hfz10_3 := blk_frozen BK300.out 3) | ((with_reducible refine aZ (f := 33) rfl ?_); refine cH (some 10) rfl rfl Tryz.func33 (by kernel_rfl) rfl #[.slice A0_0 l0_0.length c0_0, .slice A1_0 l1_0.length c1_0] rfl (by (try simp only [List.map_toArray, List.map_cons, List.map_nil]); first | done | rfl | (simp only [List.length_drop, List.length_take]; rfl)) ?_; (with_reducible refine (aU.calls k _ _ l0_0 _ _ l1_0 t301 _ ?side1 ?side2 ?side3 ?side4 A3.out).mono ?_); (case side1 => repeat (first | exact (Kd.C_below HR0_0.out HB.out) | (with_reducible refine Kd.C_alloc ?_ _) | (with_reducible refine Kd.C_drewN ?_ _) | (with_reducible refine Kd.C_drew ?_))); (case side2 => exact HC0_0.out); (case side3 => repeat (first | exact (Kd.C_below HR1_0.out HB.out) | (with_reducible refine Kd.C_alloc ?_ _) | (with_reducible refine Kd.C_drewN ?_ _) | (with_reducible refine Kd.C_drew ?_))); (case side4 => exact HC1_0.out); rintro e w11 ⟨rfl, hb⟩; refine ⟨_, rfl, ?_⟩; have n0_ := aA.mk (bD (g := gb299) (o := .cells #[.slice A0_0 l0_0.length c0_0, .int .i64 a0_1, .int .i64 a0_2, .int .i64 a0_3] 61 (0, 0)) (by (with_reducible repeat (first | refine aJ ?_ _ | refine aK ?_ | refine aI ?_ _)); exact BK299.out) hb); have n1_ := aA.mk (bD (g := gb300) (o := .cells #[.slice A1_0 l1_0.length c1_0, .int .i64 a1_1, .int .i64 a1_2, .int .i64 a1_3] 61 (0, 0)) (by (with_reducible repeat (first | refine aJ ?_ _ | refine aK ?_ | refine aI ?_ _)); exact BK300.out) hb); have n2_ := aA.mk (aV (by repeat (first | (with_reducible first | exact HB.out | apply aC | apply pw_below_drewN | apply aD | refine aG ?_ GE299.out | refine aG ?_ GE300.out) | exact HB.out)) hb); clear BK299; clear BK300; clear HB; have BK299 := n0_; have BK300 := n1_; have HB := n2_; clear n0_ n1_ n2_; (try clear hb); (try clear hb2); (try clear hk); (try clear hi); have hcz12_0 : w11.cell? ⟨gb299, 0, none⟩ = some (.slice A0_0 l0_0.length c0_0) := (aE BK299.out 0).trans rfl; have hcz12_1 : w11.cell? ⟨gb299, 1, none⟩ = some (.int .i64 a0_1) := (aE BK299.out 1).trans rfl; have hcz12_2 : w11.cell? ⟨gb299, 2, none⟩ = some (.int .i64 a0_2) := (aE BK299.out 2).trans rfl; have hcz12_3 : w11.cell? ⟨gb299, 3, none⟩ = some (.int .i64 a0_3) := (aE BK299.out 3).trans rfl; have hfz12_0 := blk_frozen BK299.out 0; have hfz12_1 := blk_frozen BK299.out 1; have hfz12_2 := blk_frozen BK299.out 2; have hfz12_3 := blk_frozen BK299.out 3; have hcz13_0 : w11.cell? ⟨gb300, 0, none⟩ = some (.slice A1_0 l1_0.length c1_0) := (aE BK300.out 0).trans rfl; have hcz13_1 : w11.cell? ⟨gb300, 1, none⟩ = some (.int .i64 a1_1) := (aE BK300.out 1).trans rfl; have hcz13_2 : w11.cell? ⟨gb300, 2, none⟩ = some (.int .i64 a1_2) := (aE BK300.out 2).trans rfl; have hcz13_3 : w11.cell? ⟨gb300, 3, none⟩ = some (.int .i64 a1_3) := (aE BK300.out 3).trans rfl; have hfz13_0 := blk_frozen BK300.out 0; have hfz13_1 := blk_frozen BK300.out 1; have hfz13_2 := blk_frozen BK300.out 2; have hfz13_3 := blk_frozen BK300.out 3) | ((with_reducible refine aZ (f := 88) rfl ?_); refine cH (some 18) rfl rfl Tryz.func88 (by kernel_rfl) rfl #[.agg #[.int .i64 a0_1, .int .i64 a0_2], .agg #[.int .i64 a1_1, .int .i64 a1_2]] rfl (by (try simp only [List.map_toArray, List.map_cons, List.map_nil]); first | done | rfl | (simp only [List.length_drop, List.length_take]; rfl)) ?_; (with_reducible refine (cT.calls a0_1 a0_2 a1_1 a1_2 t302 _ A5.out).mono ?_); rintro e w14 ⟨rfl, hb⟩; refine ⟨_, rfl, ?_⟩; have n0_ := aA.mk (bD (g := gb299) (o := .cells #[.slice A0_0 l0_0.length c0_0, .int .i64 a0_1, .int .i64 a0_2, .int .i64 a0_3] 61 (0, 0)) (by (with_reducible repeat (first | refine aJ ?_ _ | refine aK ?_ | refine aI ?_ _)); exact BK299.out) hb); have n1_ := aA.mk (bD (g := gb300) (o := .cells #[.slice A1_0 l1_0.length c1_0, .int .i64 a1_1, .int .i64 a1_2, .int .i64 a1_3] 61 (0, 0)) (by (with_reducible repeat (first | refine aJ ?_ _ | refine aK ?_ | refine aI ?_ _)); exact BK300.out) hb); have n2_ := aA.mk (aV (by repeat (first | (with_reducible first | exact HB.out | apply aC | apply pw_below_drewN | apply aD | refine aG ?_ GE299.out | refine aG ?_ GE300.out) | exact HB.out)) hb); clear BK299; clear BK300; clear HB; have BK299 := n0_; have BK300 := n1_; have HB := n2_; clear n0_ n1_ n2_; (try clear hb); (try clear hb2); (try clear hk); (try clear hi)))
  go_ret
  exact ⟨by first | rfl | (simp [aN, aQ] <;> rfl) | (simp [*, aN, aQ] <;> rfl), by repeat (first | (with_reducible first | exact HB.out | apply aC | apply pw_below_drewN | apply aD | refine aG ?_ GE299.out | refine aG ?_ GE300.out) | exact HB.out)⟩
 ·rw [if_neg c4] at H
  have c4b0 : (t301 == 0) = false := beq_eq_false_iff_ne.mpr c4
  have c4b1 : (t301 != 0) = true := bne_iff_ne.mpr c4
  obtain rfl := Option.some.inj H
  go_enter Tryz.func60, Tryz.ntmps60
  go_wp2_with (first | ((with_reducible refine bK (N := 2) rfl ?_); refine bG ?hg (N := 2) ?hd (cs := #[.slice A0_0 l0_0.length c0_0, .int .i64 a0_1, .int .i64 a0_2, .int .i64 a0_3]) (t := 61) ?hr ?_; (case hd => rfl); (case hg => rfl); (case hr => first | (go_simp; done) | (go_simp; rfl)); intro gb299 hg w15 hbox hb; have n0_ := aA.mk (aV (by repeat (first | (with_reducible first | exact HB.out | apply aC | apply pw_below_drewN | apply aD) | exact HB.out)) hb); have n1_ := aA.mk (hbox); have n2_ := aA.mk ((by rw [hg]; exact (aM (by repeat (first | (with_reducible first | exact HB.out | apply aC | apply pw_below_drewN | apply aD) | exact HB.out))) : w.heap.size ≤ gb299)); have n3_ := aA.mk ((by rw [hg]; exact (aM (by repeat (first | (with_reducible first | exact HB.out | apply aC | apply pw_below_drewN | apply aD) | exact HB.out))) : w.heap.size ≤ gb299)); clear HB; have HB := n0_; have BK299 := n1_; have GW299 := n2_; have GE299 := n3_; clear n0_ n1_ n2_ n3_; clear hb hbox hg) | ((with_reducible refine bK (N := 3) rfl ?_); refine bG ?hg (N := 3) ?hd (cs := #[.slice A1_0 l1_0.length c1_0, .int .i64 a1_1, .int .i64 a1_2, .int .i64 a1_3]) (t := 61) ?hr ?_; (case hd => rfl); (case hg => rfl); (case hr => first | (go_simp; done) | (go_simp; rfl)); intro gb300 hg w16 hbox hb; have n0_ := aA.mk (bD (g := gb299) (o := .cells #[.slice A0_0 l0_0.length c0_0, .int .i64 a0_1, .int .i64 a0_2, .int .i64 a0_3] 61 (0, 0)) (by (with_reducible repeat (first | refine aJ ?_ _ | refine aK ?_ | refine aI ?_ _)); exact BK299.out) hb); have n1_ := aA.mk (aV (by repeat (first | (with_reducible first | exact HB.out | apply aC | apply pw_below_drewN | apply aD | refine aG ?_ GE299.out) | exact HB.out)) hb); have n2_ := aA.mk (hbox); have n3_ := aA.mk ((by rw [hg]; exact (aM (by repeat (first | (with_reducible first | exact HB.out | apply aC | apply pw_below_drewN | apply aD | refine aG ?_ GE299.out) | exact HB.out))) : w.heap.size ≤ gb300)); have n4_ := aA.mk ((by rw [hg]; exact (aM (by repeat (first | (with_reducible first | exact HB.out | apply aC | apply pw_below_drewN | apply aD | refine aG ?_ GE299.out) | exact HB.out))) : w.heap.size ≤ gb300)); have n5_ := aA.mk ((by rw [hg]; exact Nat.ne_of_lt (blk_lt (g := gb299) (o := .cells #[.slice A0_0 l0_0.length c0_0, .int .i64 a0_1, .int .i64 a0_2, .int .i64 a0_3] 61 (0, 0)) (by (with_reducible repeat (first | refine aJ ?_ _ | refine aK ?_ | refine aI ?_ _)); exact BK299.out)) : gb299 ≠ gb300)); have n6_ := aA.mk ((by rw [hg]; exact Nat.ne_of_gt (blk_lt (g := gb299) (o := .cells #[.slice A0_0 l0_0.length c0_0, .int .i64 a0_1, .int .i64 a0_2, .int .i64 a0_3] 61 (0, 0)) (by (with_reducible repeat (first | refine aJ ?_ _ | refine aK ?_ | refine aI ?_ _)); exact BK299.out)) : gb300 ≠ gb299)); clear BK299; clear HB; have BK299 := n0_; have HB := n1_; have BK300 := n2_; have GW300 := n3_; have GE300 := n4_; have NB299_300 := n5_; have NB300_299 := n6_; clear n0_ n1_ n2_ n3_ n4_ n5_ n6_; clear hb hbox hg; have hnb17 := NB299_300.out; have hnc17 := NB300_299.out; have hcz18_0 : w16.cell? ⟨gb299, 0, none⟩ = some (.slice A0_0 l0_0.length c0_0) := (aE BK299.out 0).trans rfl; have hcz18_1 : w16.cell? ⟨gb299, 1, none⟩ = some (.int .i64 a0_1) := (aE BK299.out 1).trans rfl; have hcz18_2 : w16.cell? ⟨gb299, 2, none⟩ = some (.int .i64 a0_2) := (aE BK299.out 2).trans rfl; have hcz18_3 : w16.cell? ⟨gb299, 3, none⟩ = some (.int .i64 a0_3) := (aE BK299.out 3).trans rfl; have hfz18_0 := blk_frozen BK299.out 0; have hfz18_1 := blk_frozen BK299.out 1; have hfz18_2 := blk_frozen BK299.out 2; have hfz18_3 := blk_frozen BK299.out 3; have hcz19_0 : w16.cell? ⟨gb300, 0, none⟩ = some (.slice A1_0 l1_0.length c1_0) := (aE BK300.out 0).trans rfl; have hcz19_1 : w16.cell? ⟨gb300, 1, none⟩ = some (.int .i64 a1_1) := (aE BK300.out 1).trans rfl; have hcz19_2 : w16.cell? ⟨gb300, 2, none⟩ = some (.int .i64 a1_2) := (aE BK300.out 2).trans rfl; have hcz19_3 : w16.cell? ⟨gb300, 3, none⟩ = some (.int .i64 a1_3) := (aE BK300.out 3).trans rfl; have hfz19_0 := blk_frozen BK300.out 0; have hfz19_1 := blk_frozen BK300.out 1; have hfz19_2 := blk_frozen BK300.out 2; have hfz19_3 := blk_frozen BK300.out 3) | ((with_reducible refine aZ (f := 33) rfl ?_); refine cH (some 10) rfl rfl Tryz.func33 (by kernel_rfl) rfl #[.slice A0_0 l0_0.length c0_0, .slice A1_0 l1_0.length c1_0] rfl (by (try simp only [List.map_toArray, List.map_cons, List.map_nil]); first | done | rfl | (simp only [List.length_drop, List.length_take]; rfl)) ?_; (with_reducible refine (aU.calls k _ _ l0_0 _ _ l1_0 t301 _ ?side1 ?side2 ?side3 ?side4 A3.out).mono ?_); (case side1 => repeat (first | exact (Kd.C_below HR0_0.out HB.out) | (with_reducible refine Kd.C_alloc ?_ _) | (with_reducible refine Kd.C_drewN ?_ _) | (with_reducible refine Kd.C_drew ?_))); (case side2 => exact HC0_0.out); (case side3 => repeat (first | exact (Kd.C_below HR1_0.out HB.out) | (with_reducible refine Kd.C_alloc ?_ _) | (with_reducible refine Kd.C_drewN ?_ _) | (with_reducible refine Kd.C_drew ?_))); (case side4 => exact HC1_0.out); rintro e w20 ⟨rfl, hb⟩; refine ⟨_, rfl, ?_⟩; have n0_ := aA.mk (bD (g := gb299) (o := .cells #[.slice A0_0 l0_0.length c0_0, .int .i64 a0_1, .int .i64 a0_2, .int .i64 a0_3] 61 (0, 0)) (by (with_reducible repeat (first | refine aJ ?_ _ | refine aK ?_ | refine aI ?_ _)); exact BK299.out) hb); have n1_ := aA.mk (bD (g := gb300) (o := .cells #[.slice A1_0 l1_0.length c1_0, .int .i64 a1_1, .int .i64 a1_2, .int .i64 a1_3] 61 (0, 0)) (by (with_reducible repeat (first | refine aJ ?_ _ | refine aK ?_ | refine aI ?_ _)); exact BK300.out) hb); have n2_ := aA.mk (aV (by repeat (first | (with_reducible first | exact HB.out | apply aC | apply pw_below_drewN | apply aD | refine aG ?_ GE299.out | refine aG ?_ GE300.out) | exact HB.out)) hb); clear BK299; clear BK300; clear HB; have BK299 := n0_; have BK300 := n1_; have HB := n2_; clear n0_ n1_ n2_; (try clear hb); (try clear hb2); (try clear hk); (try clear hi)))
  go_ret
  exact ⟨by first | rfl | (simp [aN, aQ] <;> rfl) | (simp [*, aN, aQ] <;> rfl), by repeat (first | (with_reducible first | exact HB.out | apply aC | apply pw_below_drewN | apply aD | refine aG ?_ GE299.out | refine aG ?_ GE300.out) | exact HB.out)⟩
end Go.Proofs.YtpflmgbpjhbmnaaGreat.B
end
section
namespace Go.Proofs.YtpflmgbpjhbmnaaGreat.B
open Go.RowKit Go.Proofs.YtpflmgbpjhbmnaaGreatW.PrintWords Go.Proofs.YtpflmgbpjhbmnaaGreatW.PrintLast Go.Proofs.YtpflmgbpjhbmnaaGreatW.PrintMore
attribute [local go_sem] Go.Proofs.YtpflmgbpjhbmnaaGreat.str_gtr bZ cA cJ cK bT bU cB cC   -- for this text's walks alone
set_option linter.unusedVariables false
set_option linter.unusedSimpArgs false
def bM.f (k : Nat) (l0 : List (S85)) (l1 : List (S85)) : Option (Bool) := (aU.f k l0 l1).bind fun t358 => (some (t358 == 0))
theorem bM.mono : ∀ a0 a1 k, LeO (bM.f k a0 a1) (bM.f (k + 1) a0 a1) := by
 intro a0 a1 k
 unfold bM.f
 repeat' first
   | (with_reducible exact aU.mono _ _ _)
   | (with_reducible exact LeO.refl _)
   | (with_reducible exact LeO.none _)
   | (with_reducible refine LeO.ite ?_ ?_)
   | (with_reducible refine LeO.bind ?_ (fun _ => ?_))
   | exact aU.mono _ _ _
   | exact LeO.none _
   | refine LeO.ite ?_ ?_
   | refine LeO.bind ?_ (fun _ => ?_)
set_option maxHeartbeats 8000000 in
set_option maxRecDepth 100000 in
theorem bM.calls (k : Nat) (A0 : Option Addr) (c0 : Nat) (l0 : List (S85)) (A1 : Option Addr) (c1 : Nat) (l1 : List (S85)) (r : Bool) (w : World) (hr0 : Kd.C k85 w A0 l0.length l0) (hc0 : l0.length ≤ c0) (hr1 : Kd.C k85 w A1 l1.length l1) (hc1 : l1.length ≤ c1) (h : bM.f k l0 l1 = some r) :
  Calls Tryz.prog 35 #[.slice A0 l0.length c0, .slice A1 l1.length c1] w fun e w' => e = .returned (.bool r) ∧ Below w.heap.size w w' := by
 have HR0 := aA.mk hr0
 have HC0 := aA.mk hc0
 clear hr0 hc0
 have HR1 := aA.mk hr1
 have HC1 := aA.mk hc1
 clear hr1 hc1
 have HB := aA.mk (Below.refl w.heap.size w)
 have H : ((aU.f k l0 l1).bind fun t358 => (some (t358 == 0))) = some r := h
 clear h
 replace H := Option.bind_eq_some_iff.mp H
 obtain ⟨t358, A30, H⟩ := H
 replace H : (some (t358 == 0)) = some r := H
 have A3 := aA.mk A30
 clear A30
 obtain rfl := Option.some.inj H
 go_enter Tryz.func35, Tryz.ntmps35
 go_wp2_with (first | ((with_reducible refine aZ (f := 33) rfl ?_); refine cH (some 7) rfl rfl Tryz.func33 (by kernel_rfl) rfl #[.slice A0 l0.length c0, .slice A1 l1.length c1] rfl (by (try simp only [List.map_toArray, List.map_cons, List.map_nil]); first | done | rfl | (simp only [List.length_drop, List.length_take]; rfl)) ?_; (with_reducible refine (aU.calls k _ _ l0 _ _ l1 t358 _ ?side1 ?side2 ?side3 ?side4 A3.out).mono ?_); (case side1 => repeat (first | exact HR0.out | (with_reducible refine Kd.C_alloc ?_ _) | (with_reducible refine Kd.C_drewN ?_ _) | (with_reducible refine Kd.C_drew ?_))); (case side2 => exact HC0.out); (case side3 => repeat (first | exact HR1.out | (with_reducible refine Kd.C_alloc ?_ _) | (with_reducible refine Kd.C_drewN ?_ _) | (with_reducible refine Kd.C_drew ?_))); (case side4 => exact HC1.out); rintro e w4 ⟨rfl, hb⟩; refine ⟨_, rfl, ?_⟩; have n0_ := aA.mk (aV (by repeat (first | (with_reducible first | exact HB.out | apply aC | apply pw_below_drewN | apply aD) | exact HB.out)) hb); clear HB; have HB := n0_; clear n0_; (try clear hb); (try clear hb2); (try clear hk); (try clear hi)))
 go_ret
 exact ⟨by first | rfl | (simp [aN, aQ] <;> rfl) | (simp [*, aN, aQ] <;> rfl), by repeat (first | (with_reducible first | exact HB.out | apply aC | apply pw_below_drewN | apply aD) | exact HB.out)⟩
end Go.Proofs.YtpflmgbpjhbmnaaGreat.B
end
section
namespace Go.Proofs.YtpflmgbpjhbmnaaGreat.B
open Go.RowKit Go.Proofs.YtpflmgbpjhbmnaaGreatW.PrintWords Go.Proofs.YtpflmgbpjhbmnaaGreatW.PrintLast Go.Proofs.YtpflmgbpjhbmnaaGreatW.PrintMore
attribute [local go_sem] Go.Proofs.YtpflmgbpjhbmnaaGreat.str_gtr bZ cA cJ cK bT bU cB cC   -- for this text's walks alone
set_option linter.unusedVariables false
set_option linter.unusedSimpArgs false
def bR.f (k : Nat) (l0 : List (List (S85))) (l1 : List (S85)) : Option (Bool) := if (l0.length : Int) > 0 then (if 0 ≤ (wrap64 ((l0.length : Int) - 1)) then (if (wrap64 ((l0.length : Int) - 1)) < (l0.length : Int) then ((bM.f k (dH l0 (wrap64 ((l0.length : Int) - 1))) l1).bind fun t360 => (some t360)) else (none)) else (none)) else (some false)
theorem bR.mono : ∀ a0 a1 k, LeO (bR.f k a0 a1) (bR.f (k + 1) a0 a1) := by
 intro a0 a1 k
 unfold bR.f
 repeat' first
   | (with_reducible exact bM.mono _ _ _)
   | (with_reducible exact LeO.refl _)
   | (with_reducible exact LeO.none _)
   | (with_reducible refine LeO.ite ?_ ?_)
   | (with_reducible refine LeO.bind ?_ (fun _ => ?_))
   | exact bM.mono _ _ _
   | exact LeO.none _
   | refine LeO.ite ?_ ?_
   | refine LeO.bind ?_ (fun _ => ?_)
set_option maxHeartbeats 8000000 in
set_option maxRecDepth 100000 in
theorem bR.calls (k : Nat) (A0 : Option Addr) (c0 : Nat) (l0 : List (List (S85))) (A1 : Option Addr) (c1 : Nat) (l1 : List (S85)) (r : Bool) (w : World) (hr0 : Kd.C (Kd.slice 85 k85) w A0 l0.length l0) (hc0 : l0.length ≤ c0) (hr1 : Kd.C k85 w A1 l1.length l1) (hc1 : l1.length ≤ c1) (h : bR.f k l0 l1 = some r) :
  Calls Tryz.prog 61 #[.slice A0 l0.length c0, .slice A1 l1.length c1] w fun e w' => e = .returned (.bool r) ∧ Below w.heap.size w w' := by
 have HR0 := aA.mk hr0
 have HC0 := aA.mk hc0
 clear hr0 hc0
 have HR1 := aA.mk hr1
 have HC1 := aA.mk hc1
 clear hr1 hc1
 have HB := aA.mk (Below.refl w.heap.size w)
 have H : (if (l0.length : Int) > 0 then (if 0 ≤ (wrap64 ((l0.length : Int) - 1)) then (if (wrap64 ((l0.length : Int) - 1)) < (l0.length : Int) then ((bM.f k (dH l0 (wrap64 ((l0.length : Int) - 1))) l1).bind fun t360 => (some t360)) else (none)) else (none)) else (some false)) = some r := h
 clear h
 by_cases c3 : (l0.length : Int) > 0
 ·rw [if_pos c3] at H
  have c3b0 : decide (0 < (l0.length : Int)) = true := decide_eq_true c3
  have c3b1 : decide (0 < l0.length) = true := decide_eq_true (by omega)
  clear c3
  obtain ⟨ji4, hji4⟩ : ∃ j_ : Int, (wrap64 ((l0.length : Int) - 1)) = j_ := ⟨_, rfl⟩
  replace H : (if 0 ≤ (ji4) then (if (ji4) < (l0.length : Int) then ((bM.f k (dH l0 (ji4)) l1).bind fun t360 => (some t360)) else (none)) else (none)) = some r := by first | (rw [hji4] at H; exact H) | (simp only [hji4] at H ⊢; exact H)
  have hji4w : (IntKind.i64.wrap ((l0.length : Int) - 1)) = ji4 := (cN _).trans hji4
  by_cases c5 : 0 ≤ (ji4)
  ·rw [if_pos c5] at H
   have c5b0 : decide (0 ≤ (ji4)) = true := decide_eq_true c5
   clear c5
   by_cases c6 : (ji4) < (l0.length : Int)
   ·rw [if_pos c6] at H
    have c6b0 : decide ((ji4) < (l0.length : Int)) = true := decide_eq_true c6
    clear c6
    replace H := Option.bind_eq_some_iff.mp H
    obtain ⟨t360, A70, H⟩ := H
    replace H : (some t360) = some r := H
    have A7 := aA.mk A70
    clear A70
    obtain rfl := Option.some.inj H
    have p359 : 0 ≤ ((ji4) : Int) := of_decide_eq_true (by first | (with_reducible assumption) | assumption)
    have q359 : (ji4) < (l0.length : Int) := of_decide_eq_true (by first | (with_reducible assumption) | assumption)
    obtain ⟨ad359, A359_0, c359_0, e359, hx359_0, hl359_0, hi359_0⟩ := jL HR0.out (ji4) p359 q359
    cases e359
    have HR359_0 := aA.mk hi359_0
    have HC359_0 := aA.mk hl359_0
    clear hi359_0 hl359_0
    replace p359 := eq_true p359
    replace q359 := eq_true q359
    go_enter Tryz.func61, Tryz.ntmps61
    go_wp2_with (first | (go_at_call 35; (with_reducible refine (bM.calls k _ _ (dH l0 (ji4)) _ _ l1 t360 _ ?side1 ?side2 ?side3 ?side4 A7.out).mono ?_); (case side1 => repeat (first | exact HR359_0.out | (with_reducible refine Kd.C_alloc ?_ _) | (with_reducible refine Kd.C_drewN ?_ _) | (with_reducible refine Kd.C_drew ?_))); (case side2 => exact HC359_0.out); (case side3 => repeat (first | exact HR1.out | (with_reducible refine Kd.C_alloc ?_ _) | (with_reducible refine Kd.C_drewN ?_ _) | (with_reducible refine Kd.C_drew ?_))); (case side4 => exact HC1.out); rintro e w8 ⟨rfl, hb⟩; have n0_ := aA.mk (aV (by repeat (first | (with_reducible first | exact HB.out | apply aC | apply pw_below_drewN | apply aD) | exact HB.out)) hb); clear HB; have HB := n0_; clear n0_; (try clear hb); (try clear hb2); (try clear hk); (try clear hi)))
    go_ret
    exact ⟨by first | rfl | (simp [aN, aQ] <;> rfl) | (simp only [← hji4]; first | rfl | (simp [aN, aQ] <;> rfl)) | (simp [*, aN, aQ] <;> rfl), by repeat (first | (with_reducible first | exact HB.out | apply aC | apply pw_below_drewN | apply aD) | exact HB.out)⟩
   ·rw [if_neg c6] at H
    exact absurd H (by simp)
  ·rw [if_neg c5] at H
   exact absurd H (by simp)
 ·rw [if_neg c3] at H
  have c3b0 : decide (0 < (l0.length : Int)) = false := decide_eq_false c3
  have c3b1 : decide (0 < l0.length) = false := decide_eq_false (by omega)
  clear c3
  obtain rfl := Option.some.inj H
  go_enter Tryz.func61, Tryz.ntmps61
  go_wp2
  go_ret
  exact ⟨by first | rfl | (simp [aN, aQ] <;> rfl) | (simp [*, aN, aQ] <;> rfl), by repeat (first | (with_reducible first | exact HB.out | apply aC | apply pw_below_drewN | apply aD) | exact HB.out)⟩
end Go.Proofs.YtpflmgbpjhbmnaaGreat.B
end
section
namespace Go.Proofs.YtpflmgbpjhbmnaaGreat.B
open Go.RowKit Go.Proofs.YtpflmgbpjhbmnaaGreatW.PrintWords Go.Proofs.YtpflmgbpjhbmnaaGreatW.PrintLast Go.Proofs.YtpflmgbpjhbmnaaGreatW.PrintMore
attribute [local go_sem] Go.Proofs.YtpflmgbpjhbmnaaGreat.str_gtr bZ cA cJ cK bT bU cB cC   -- for this text's walks alone
set_option linter.unusedVariables false
set_option linter.unusedSimpArgs false
def bF.l0 : Nat → Int → List (S61) → List (List (S85)) → Int → Option ((List (List (S85))))
 | 0, _, _, _, _ => none
 | k + 1, x0, x1, x5, x6 => if x6 < (x1.length : Int) then (if 0 ≤ x6 then (if 0 ≤ x0 then (if x0 ≤ (((aX x1 x6).f0).length : Int) then ((bR.f k x5 (((aX x1 x6).f0).take (x0 : Int).toNat)).bind fun t367 => (if t367 = true then (bF.l0 k x0 x1 x5 (wrap64 (x6 + 1))) else (if x5.length < 5864062014805 then (bF.l0 k x0 x1 (x5 ++ [(((aX x1 x6).f0).take (x0 : Int).toNat)]) (wrap64 (x6 + 1))) else (none)))) else (none)) else (none)) else (none)) else (some x5)
def bF.f (k : Nat) (a0 : Int) (l1 : List (S61)) : Option ((List (List (S85)))) := bF.l0 k a0 l1 ([] : List (List (S85))) 0
theorem bF.mono_l : ∀ k, (∀ y0 y1 y2 y3, LeO (bF.l0 k y0 y1 y2 y3) (bF.l0 (k + 1) y0 y1 y2 y3))
 | 0 => fun _ _ _ _ r h => by simp [bF.l0] at h
 | k + 1 => by
  have ih0 := bF.mono_l k
  ·intro y0 y1 y2 y3
   unfold bF.l0
   repeat' first
   | (with_reducible exact ih0 _ _ _ _)
   | (with_reducible exact bR.mono _ _ _)
   | (with_reducible exact LeO.refl _)
   | (with_reducible exact LeO.none _)
   | (with_reducible refine LeO.ite ?_ ?_)
   | (with_reducible refine LeO.bind ?_ (fun _ => ?_))
   | exact ih0 _ _ _ _
   | exact bR.mono _ _ _
   | exact LeO.none _
   | refine LeO.ite ?_ ?_
   | refine LeO.bind ?_ (fun _ => ?_)
theorem bF.mono : ∀ a0 a1 k, LeO (bF.f k a0 a1) (bF.f (k + 1) a0 a1) := by
 intro a0 a1 k
 have ih0 := bF.mono_l k
 unfold bF.f
 repeat' first
   | (with_reducible exact ih0 _ _ _ _)
   | (with_reducible exact bR.mono _ _ _)
   | (with_reducible exact LeO.refl _)
   | (with_reducible exact LeO.none _)
   | (with_reducible refine LeO.ite ?_ ?_)
   | (with_reducible refine LeO.bind ?_ (fun _ => ?_))
   | exact ih0 _ _ _ _
   | exact bR.mono _ _ _
   | exact LeO.none _
   | refine LeO.ite ?_ ?_
   | refine LeO.bind ?_ (fun _ => ?_)
set_option maxHeartbeats 8000000 in
set_option maxRecDepth 100000 in
theorem bF.calls (k : Nat) (a0 : Int) (P1_ : Nat → Prop) (A1 : Option Addr) (c1 : Nat) (l1 : List (S61)) (r : List (List (S85))) (w : World) (hs1 : Kd.V k61 61 w w.heap.size (fun k_ => P1_ k_) (.slice A1 l1.length c1) l1) (h : bF.f k a0 l1 = some r) :
  Calls Tryz.prog 16 #[.int .i64 a0, .slice A1 l1.length c1] w fun e w' => ∃ v0_ : Value, e = .returned (v0_) ∧ Kd.N (Kd.slice 85 k85) 45 w' w.heap.size (fun k_ => (P1_ k_ ∨ w.heap.size ≤ k_)) v0_ r ∧ Below w.heap.size w w' := by
 have HO1 := aA.mk (show Kd.V k61 61 w w.heap.size (fun k_ => (P1_ k_ ∨ w.heap.size ≤ k_)) (.slice A1 l1.length c1) l1 from Kd.V_mono hs1 (fun k_ hk => .inl hk))
 have HB := aA.mk (Below.refl w.heap.size w)
 have H : (bF.l0 k a0 l1 ([] : List (List (S85))) 0) = some r := h
 clear h
 have H' := aA.mk H
 clear H
 go_enter Tryz.func16, Tryz.ntmps16
 go_wp2
 go_loopg [5, 6] k (fun kq v5 v6 w' => ∃ (x5_1 : List (List (S85))) (x6_1 : Int), v6 = .int .i64 x6_1 ∧ aA (bF.l0 kq a0 l1 x5_1 x6_1 = some r) ∧ aA (kq ≤ k) ∧ aA (Kd.V k61 61 w' w.heap.size (fun k_ => (P1_ k_ ∨ w.heap.size ≤ k_) ∧ some k_ ≠ (v5 : Value).ownBlock) (.slice A1 l1.length c1) l1) ∧ aA (Kd.N (Kd.slice 85 k85) 45 w' w.heap.size (fun k_ => (P1_ k_ ∨ w.heap.size ≤ k_)) v5 x5_1) ∧ aA (Below w.heap.size w w'))
 case atStart => exact ⟨(([] : List (List (S85)))), (0), (by first | rfl | (simp; done) | (simp [*]; done)), H', ⟨Nat.le_refl _⟩, ⟨by (with_reducible repeat (first | apply Kd.V_alloc | apply Kd.V_drewN | apply Kd.V_drew)); exact Kd.V_mono HO1.out (fun _ hk => ⟨hk, (by simp [Value.ownBlock])⟩)⟩, ⟨by first | exact Kd.S_nil _ _ _ _ _ | exact Kd.N_nil _ _ _ _ _ | exact Kd.V_nil _ _ _ _ _ | exact Kd.Q_nil _ _ _ _ _ | exact Kd.R_nil _ _ _ _ _⟩, ⟨by repeat (first | (with_reducible first | exact HB.out | apply aC | apply pw_below_drewN | apply aD) | exact HB.out)⟩⟩
 case round =>
  clear H'
  try clear c1
  try clear p2
  obtain ⟨x5_1, x6_1, rfl, HA, HK1, HO_1, HO_5, HB⟩ := hrel
  cases gk with
  | zero => exact absurd HA.out (by simp [bF.l0])
  | succ k1 =>
   have H := HA.out
   clear HA
   simp only [bF.l0] at H
   by_cases c3 : x6_1 < (l1.length : Int)
   ·rw [if_pos c3] at H
    have c3b0 : decide (x6_1 < (l1.length : Int)) = true := decide_eq_true c3
    clear c3
    by_cases c4 : 0 ≤ x6_1
    ·rw [if_pos c4] at H
     have c4b0 : decide (0 ≤ x6_1) = true := decide_eq_true c4
     clear c4
     by_cases c5 : 0 ≤ a0
     ·rw [if_pos c5] at H
      have c5b0 := eq_true c5
      have c5b1 : decide (0 ≤ a0) = true := decide_eq_true c5
      clear c5
      by_cases c6 : a0 ≤ (((aX l1 x6_1).f0).length : Int)
      ·rw [if_pos c6] at H
       have c6b0 := eq_true c6
       have c6b1 : decide (a0 ≤ (((aX l1 x6_1).f0).length : Int)) = true := decide_eq_true c6
       clear c6
       obtain ⟨y362, hy362⟩ : ∃ y_ : List (S85), y_ = (((aX l1 x6_1).f0).take (a0 : Int).toNat) := ⟨_, rfl⟩
       replace H : ((bR.f k1 x5_1 y362).bind fun t367 => (if t367 = true then (bF.l0 k1 a0 l1 x5_1 (wrap64 (x6_1 + 1))) else (if x5_1.length < 5864062014805 then (bF.l0 k1 a0 l1 (x5_1 ++ [(((aX l1 x6_1).f0).take (a0 : Int).toNat)]) (wrap64 (x6_1 + 1))) else (none)))) = some r := by first | (rw [hy362]; with_reducible exact H) | (have H2_ := (Option.bind_some _ _).symm.trans H; rw [hy362]; with_reducible exact H2_) | (have H2_ := (Option.bind_some _ _).symm.trans H; with_reducible exact H2_) | with_reducible exact H | (rw [hy362]; exact H) | exact H
       have Ny362 := aA.mk hy362
       clear hy362
       replace H := Option.bind_eq_some_iff.mp H
       obtain ⟨t367, A70, H⟩ := H
       replace H : (if t367 = true then (bF.l0 k1 a0 l1 x5_1 (wrap64 (x6_1 + 1))) else (if x5_1.length < 5864062014805 then (bF.l0 k1 a0 l1 (x5_1 ++ [(((aX l1 x6_1).f0).take (a0 : Int).toNat)]) (wrap64 (x6_1 + 1))) else (none))) = some r := H
       have A7 := aA.mk A70
       clear A70
       by_cases c8 : t367 = true
       ·subst c8
        have H1 : (bF.l0 k1 a0 l1 x5_1 (wrap64 (x6_1 + 1))) = some r := by rw [if_pos rfl] at H; exact H
        clear H
        have H := H1
        clear H1
        have H' := aA.mk H
        clear H
        have p361 : 0 ≤ (x6_1 : Int) := of_decide_eq_true (by first | (with_reducible assumption) | assumption)
        have q361 : x6_1 < (l1.length : Int) := of_decide_eq_true (by first | (with_reducible assumption) | assumption)
        obtain ⟨ad361, A361_0, c361_0, e361, hx361_0, hx361_1, hx361_2, hx361_3, hl361_0, hi361_0⟩ := eJ (Kd.V_reads' HO_1.out).2.2 x6_1 p361 q361
        cases e361
        obtain ⟨ce361, hce361, hMe361, hcc361⟩ := Kd.V_get HO_1.out z61 x6_1 p361 (by first | exact q361 | exact of_decide_eq_true (by first | (with_reducible assumption) | assumption) | (have e_ := (Kd.V_reads' HO_1.out).1; omega))
        obtain ⟨ua361_0, uc361_0, rfl, ul361_0, ge361_0⟩ := eR hMe361
        have hv361_0 := hcc361 0 _ rfl
        rw [Nat.add_zero] at hv361_0
        replace hv361_0 := Option.some.inj (hv361_0.symm.trans hx361_0)
        injection hv361_0 with hva_ hvn_ hvc_
        rw [hva_] at ge361_0
        rw [hvc_] at ul361_0
        have HL361_0 := aA.mk (show Kd.V k85 85 _ w.heap.size _ _ ((aX l1 x6_1).f0) from Kd.V_mk ul361_0 ge361_0)
        clear hva_ hvn_ hvc_ ge361_0 ul361_0
        clear hcc361 hce361
        have HR361_0 := aA.mk hi361_0
        have HC361_0 := aA.mk hl361_0
        clear hi361_0 hl361_0
        replace p361 := eq_true p361
        replace q361 := eq_true q361
        have q9 : (a0 : Int) ≤ ((((aX l1 x6_1).f0).length : Int) : Int) := of_decide_eq_true (by first | (with_reducible assumption) | assumption)
        obtain ⟨i09, hi09, _, hsz9, _⟩ := info_parts gQ
        have hroom9 : ((aX l1 x6_1).f0).length ≤ c361_0 := HC361_0.out
        have hC9 : Kd.F k85 _ _ A361_0 ((aX l1 x6_1).f0).length ((aX l1 x6_1).f0) := (Kd.V_at (base := w.heap.size) HL361_0.out).2.2
        have hcut9 := kO (P := Tryz.prog) 45 85 .i64 Tryz.underlying45 hi09 A361_0 ((aX l1 x6_1).f0).length c361_0 a0 (of_decide_eq_true (by first | (with_reducible assumption) | assumption)) q9 hroom9
        have hr9 := Kd.F_take (m := (a0 : Int).toNat) hC9 (by omega)
        have hy9 : y362.length = (a0 : Int).toNat := (by rw [Ny362.out, List.length_take]; omega)
        rw [← Ny362.out] at hr9
        rw [← hy9] at hcut9
        have HO366 := aA.mk (show Kd.V k85 85 _ w.heap.size _ (.slice A361_0 y362.length c361_0) y362 from Kd.V_mk (by omega) hr9)
        have HC366 := aA.mk (show y362.length ≤ c361_0 from by omega)
        clear hr9 hC9 hroom9 hi09 hsz9
        have KY9 := aA.mk hy9
        clear hy9
        replace q9 := eq_true q9
        obtain ⟨Ao10, co10, eo10⟩ := Kd.N_slice HO_5.out
        subst eo10
        go_wp2_with (first | ((with_reducible refine aZ (f := 61) rfl ?_); refine cH (some 21) rfl rfl Tryz.func61 (by kernel_rfl) rfl #[.slice Ao10 x5_1.length co10, .slice A361_0 y362.length c361_0] rfl (by (try simp only [List.map_toArray, List.map_cons, List.map_nil]); first | done | rfl | (simp only [List.length_drop, List.length_take]; rfl)) ?_; (with_reducible refine (bR.calls k1 _ _ x5_1 _ _ y362 true _ ?side1 ?side2 ?side3 ?side4 A7.out).mono ?_); (case side1 => repeat (first | exact (Kd.N_reads' HO_5.out).2.2 | (with_reducible refine Kd.C_alloc ?_ _) | (with_reducible refine Kd.C_drewN ?_ _) | (with_reducible refine Kd.C_drew ?_))); (case side2 => exact (Kd.N_reads' HO_5.out).2.1); (case side3 => repeat (first | exact (Kd.V_reads' HO366.out).2.2 | (with_reducible refine Kd.C_alloc ?_ _) | (with_reducible refine Kd.C_drewN ?_ _) | (with_reducible refine Kd.C_drew ?_))); (case side4 => exact (Kd.V_reads' HO366.out).2.1); rintro e w11 ⟨rfl, hb⟩; refine ⟨_, rfl, ?_⟩; have n0_ := aA.mk (Kd.V_below (by (with_reducible repeat (first | apply Kd.V_alloc | apply Kd.V_drewN | apply Kd.V_drew)); exact HO_1.out) hb); have n1_ := aA.mk (Kd.N_below (by (with_reducible repeat (first | apply Kd.N_alloc | apply Kd.N_drewN | apply Kd.N_drew)); exact HO_5.out) hb); have n2_ := aA.mk (Kd.V_below (by (with_reducible repeat (first | apply Kd.V_alloc | apply Kd.V_drewN | apply Kd.V_drew)); exact HL361_0.out) hb); have n3_ := aA.mk (Kd.V_below (by (with_reducible repeat (first | apply Kd.V_alloc | apply Kd.V_drewN | apply Kd.V_drew)); exact HO366.out) hb); have n4_ := aA.mk (Kd.C_below (by repeat (first | (with_reducible exact HR361_0.out) | (with_reducible refine Kd.C_alloc ?_ _) | (with_reducible refine Kd.C_drewN ?_ _) | (with_reducible refine Kd.C_drew ?_) | exact HR361_0.out)) hb); have n5_ := aA.mk (aV (by repeat (first | (with_reducible first | exact HB.out | apply aC | apply pw_below_drewN | apply aD) | exact HB.out)) hb); clear HO_1; clear HO_5; clear HL361_0; clear HO366; clear HR361_0; clear HB; have HO_1 := n0_; have HO_5 := n1_; have HL361_0 := n2_; have HO366 := n3_; have HR361_0 := n4_; have HB := n5_; clear n0_ n1_ n2_ n3_ n4_ n5_; (try clear hb); (try clear hb2); (try clear hk); (try clear hi)))
        go_roundg k1
        case measure => have := HK1.out; omega
        case rel => exact ⟨(x5_1), (wrap64 (x6_1 + 1)), (by first | rfl | (simp; done) | (simp [*]; done)), H', ⟨by have := HK1.out; omega⟩, ⟨by (with_reducible repeat (first | apply Kd.V_alloc | apply Kd.V_drewN | apply Kd.V_drew)); exact HO_1.out⟩, ⟨by (with_reducible repeat (first | apply Kd.N_alloc | apply Kd.N_drewN | apply Kd.N_drew)); exact HO_5.out⟩, ⟨by repeat (first | (with_reducible first | exact HB.out | apply aC | apply pw_below_drewN | apply aD) | exact HB.out)⟩⟩
       ·replace c8 := Bool.eq_false_iff.mpr c8
        subst c8
        have H1 : (if x5_1.length < 5864062014805 then (bF.l0 k1 a0 l1 (x5_1 ++ [(((aX l1 x6_1).f0).take (a0 : Int).toNat)]) (wrap64 (x6_1 + 1))) else (none)) = some r := by rw [if_neg (show ¬ (false = true) by decide)] at H; exact H
        clear H
        have H := H1
        clear H1
        have c12b0 := eq_true (of_decide_eq_true (by first | (with_reducible assumption) | assumption) : 0 ≤ a0)
        have c13b0 := eq_true (of_decide_eq_true (by first | (with_reducible assumption) | assumption) : a0 ≤ (((aX l1 x6_1).f0).length : Int))
        obtain ⟨y369, hy369⟩ : ∃ y_ : List (S85), y_ = (((aX l1 x6_1).f0).take (a0 : Int).toNat) := ⟨_, rfl⟩
        replace H : (if x5_1.length < 5864062014805 then (bF.l0 k1 a0 l1 (x5_1 ++ [y369]) (wrap64 (x6_1 + 1))) else (none)) = some r := by first | (rw [hy369]; with_reducible exact H) | (have H2_ := (Option.bind_some _ _).symm.trans H; rw [hy369]; with_reducible exact H2_) | (have H2_ := (Option.bind_some _ _).symm.trans H; with_reducible exact H2_) | with_reducible exact H | (rw [hy369]; exact H) | exact H
        have Ny369 := aA.mk hy369
        clear hy369
        by_cases c14 : x5_1.length < 5864062014805
        ·rw [if_pos c14] at H
         have LMc14 := aA.mk c14
         clear c14
         obtain ⟨y374, hy374⟩ : ∃ y_ : List (List (S85)), y_ = (x5_1 ++ [y369]) := ⟨_, rfl⟩
         replace H : (bF.l0 k1 a0 l1 y374 (wrap64 (x6_1 + 1))) = some r := by first | (rw [hy374]; with_reducible exact H) | (have H2_ := (Option.bind_some _ _).symm.trans H; rw [hy374]; with_reducible exact H2_) | (have H2_ := (Option.bind_some _ _).symm.trans H; with_reducible exact H2_) | with_reducible exact H | (rw [hy374]; exact H) | exact H
         have Ny374 := aA.mk hy374
         clear hy374
         have H' := aA.mk H
         clear H
         have p361 : 0 ≤ (x6_1 : Int) := of_decide_eq_true (by first | (with_reducible assumption) | assumption)
         have q361 : x6_1 < (l1.length : Int) := of_decide_eq_true (by first | (with_reducible assumption) | assumption)
         obtain ⟨ad361, A361_0, c361_0, e361, hx361_0, hx361_1, hx361_2, hx361_3, hl361_0, hi361_0⟩ := eJ (Kd.V_reads' HO_1.out).2.2 x6_1 p361 q361
         cases e361
         obtain ⟨ce361, hce361, hMe361, hcc361⟩ := Kd.V_get HO_1.out z61 x6_1 p361 (by first | exact q361 | exact of_decide_eq_true (by first | (with_reducible assumption) | assumption) | (have e_ := (Kd.V_reads' HO_1.out).1; omega))
         obtain ⟨ua361_0, uc361_0, rfl, ul361_0, ge361_0⟩ := eR hMe361
         have hv361_0 := hcc361 0 _ rfl
         rw [Nat.add_zero] at hv361_0
         replace hv361_0 := Option.some.inj (hv361_0.symm.trans hx361_0)
         injection hv361_0 with hva_ hvn_ hvc_
         rw [hva_] at ge361_0
         rw [hvc_] at ul361_0
         have HL361_0 := aA.mk (show Kd.V k85 85 _ w.heap.size _ _ ((aX l1 x6_1).f0) from Kd.V_mk ul361_0 ge361_0)
         clear hva_ hvn_ hvc_ ge361_0 ul361_0
         clear hcc361 hce361
         have HR361_0 := aA.mk hi361_0
         have HC361_0 := aA.mk hl361_0
         clear hi361_0 hl361_0
         replace p361 := eq_true p361
         replace q361 := eq_true q361
         have q15 : (a0 : Int) ≤ ((((aX l1 x6_1).f0).length : Int) : Int) := of_decide_eq_true (by first | (with_reducible assumption) | assumption)
         obtain ⟨i015, hi015, _, hsz15, _⟩ := info_parts gQ
         have hroom15 : ((aX l1 x6_1).f0).length ≤ c361_0 := HC361_0.out
         have hC15 : Kd.F k85 _ _ A361_0 ((aX l1 x6_1).f0).length ((aX l1 x6_1).f0) := (Kd.V_at (base := w.heap.size) HL361_0.out).2.2
         have hcut15 := kO (P := Tryz.prog) 45 85 .i64 Tryz.underlying45 hi015 A361_0 ((aX l1 x6_1).f0).length c361_0 a0 (of_decide_eq_true (by first | (with_reducible assumption) | assumption)) q15 hroom15
         have hr15 := Kd.F_take (m := (a0 : Int).toNat) hC15 (by omega)
         have hy15 : y362.length = (a0 : Int).toNat := (by rw [Ny362.out, List.length_take]; omega)
         rw [← Ny362.out] at hr15
         rw [← hy15] at hcut15
         have HO366 := aA.mk (show Kd.V k85 85 _ w.heap.size _ (.slice A361_0 y362.length c361_0) y362 from Kd.V_mk (by omega) hr15)
         have HC366 := aA.mk (show y362.length ≤ c361_0 from by omega)
         clear hr15 hC15 hroom15 hi015 hsz15
         have KY15 := aA.mk hy15
         clear hy15
         replace q15 := eq_true q15
         obtain ⟨Ao16, co16, eo16⟩ := Kd.N_slice HO_5.out
         subst eo16
         go_wp2_with (first | ((with_reducible refine aZ (f := 61) rfl ?_); refine cH (some 21) rfl rfl Tryz.func61 (by kernel_rfl) rfl #[.slice Ao16 x5_1.length co16, .slice A361_0 y362.length c361_0] rfl (by (try simp only [List.map_toArray, List.map_cons, List.map_nil]); first | done | rfl | (simp only [List.length_drop, List.length_take]; rfl)) ?_; (with_reducible refine (bR.calls k1 _ _ x5_1 _ _ y362 false _ ?side1 ?side2 ?side3 ?side4 A7.out).mono ?_); (case side1 => repeat (first | exact (Kd.N_reads' HO_5.out).2.2 | (with_reducible refine Kd.C_alloc ?_ _) | (with_reducible refine Kd.C_drewN ?_ _) | (with_reducible refine Kd.C_drew ?_))); (case side2 => exact (Kd.N_reads' HO_5.out).2.1); (case side3 => repeat (first | exact (Kd.V_reads' HO366.out).2.2 | (with_reducible refine Kd.C_alloc ?_ _) | (with_reducible refine Kd.C_drewN ?_ _) | (with_reducible refine Kd.C_drew ?_))); (case side4 => exact (Kd.V_reads' HO366.out).2.1); rintro e w17 ⟨rfl, hb⟩; refine ⟨_, rfl, ?_⟩; have n0_ := aA.mk (Kd.V_below (by (with_reducible repeat (first | apply Kd.V_alloc | apply Kd.V_drewN | apply Kd.V_drew)); exact HO_1.out) hb); have n1_ := aA.mk (Kd.N_below (by (with_reducible repeat (first | apply Kd.N_alloc | apply Kd.N_drewN | apply Kd.N_drew)); exact HO_5.out) hb); have n2_ := aA.mk (Kd.V_below (by (with_reducible repeat (first | apply Kd.V_alloc | apply Kd.V_drewN | apply Kd.V_drew)); exact HL361_0.out) hb); have n3_ := aA.mk (Kd.V_below (by (with_reducible repeat (first | apply Kd.V_alloc | apply Kd.V_drewN | apply Kd.V_drew)); exact HO366.out) hb); have n4_ := aA.mk (Kd.C_below (by repeat (first | (with_reducible exact HR361_0.out) | (with_reducible refine Kd.C_alloc ?_ _) | (with_reducible refine Kd.C_drewN ?_ _) | (with_reducible refine Kd.C_drew ?_) | exact HR361_0.out)) hb); have n5_ := aA.mk (aV (by repeat (first | (with_reducible first | exact HB.out | apply aC | apply pw_below_drewN | apply aD) | exact HB.out)) hb); clear HO_1; clear HO_5; clear HL361_0; clear HO366; clear HR361_0; clear HB; have HO_1 := n0_; have HO_5 := n1_; have HL361_0 := n2_; have HO366 := n3_; have HR361_0 := n4_; have HB := n5_; clear n0_ n1_ n2_ n3_ n4_ n5_; (try clear hb); (try clear hb2); (try clear hk); (try clear hi); have p368 : 0 ≤ (x6_1 : Int) := of_decide_eq_true (by first | (with_reducible assumption) | assumption); have q368 : x6_1 < (l1.length : Int) := of_decide_eq_true (by first | (with_reducible assumption) | assumption); obtain ⟨ad368, A368_0, c368_0, e368, hx368_0, hx368_1, hx368_2, hx368_3, hl368_0, hi368_0⟩ := eJ (Kd.V_reads' HO_1.out).2.2 x6_1 p368 q368; obtain rfl : ad361 = ad368 := (by injection e368); obtain ⟨ce368, hce368, hMe368, hcc368⟩ := Kd.V_get HO_1.out z61 x6_1 p368 (by first | exact q368 | exact of_decide_eq_true (by first | (with_reducible assumption) | assumption) | (have e_ := (Kd.V_reads' HO_1.out).1; omega)); obtain ⟨ua368_0, uc368_0, rfl, ul368_0, ge368_0⟩ := eR hMe368; have hv368_0 := hcc368 0 _ rfl; rw [Nat.add_zero] at hv368_0; replace hv368_0 := Option.some.inj (hv368_0.symm.trans hx368_0); injection hv368_0 with hva_ hvn_ hvc_; rw [hva_] at ge368_0; rw [hvc_] at ul368_0; have HL368_0 := aA.mk (show Kd.V k85 85 _ w.heap.size _ _ ((aX l1 x6_1).f0) from Kd.V_mk ul368_0 ge368_0); clear hva_ hvn_ hvc_ ge368_0 ul368_0; clear hcc368 hce368; have HR368_0 := aA.mk hi368_0; have HC368_0 := aA.mk hl368_0; clear hi368_0 hl368_0; replace p368 := eq_true p368; replace q368 := eq_true q368; have q18 : (a0 : Int) ≤ ((((aX l1 x6_1).f0).length : Int) : Int) := of_decide_eq_true (by first | (with_reducible assumption) | assumption); obtain ⟨i018, hi018, _, hsz18, _⟩ := info_parts gQ; have hroom18 : ((aX l1 x6_1).f0).length ≤ c368_0 := HC368_0.out; have hC18 : Kd.F k85 _ _ A368_0 ((aX l1 x6_1).f0).length ((aX l1 x6_1).f0) := (Kd.V_at (base := w.heap.size) HL368_0.out).2.2; have hcut18 := kO (P := Tryz.prog) 45 85 .i64 Tryz.underlying45 hi018 A368_0 ((aX l1 x6_1).f0).length c368_0 a0 (of_decide_eq_true (by first | (with_reducible assumption) | assumption)) q18 hroom18; have hr18 := Kd.F_take (m := (a0 : Int).toNat) hC18 (by omega); have hy18 : y369.length = (a0 : Int).toNat := (by rw [Ny369.out, List.length_take]; omega); rw [← Ny369.out] at hr18; rw [← hy18] at hcut18; have HO373 := aA.mk (show Kd.V k85 85 _ w.heap.size _ (.slice A368_0 y369.length c368_0) y369 from Kd.V_mk (by omega) hr18); have HC373 := aA.mk (show y369.length ≤ c368_0 from by omega); clear hr18 hC18 hroom18 hi018 hsz18; have KY18 := aA.mk hy18; clear hy18; replace q18 := eq_true q18) | ((with_reducible refine cI (b := .append) (xs := #[.tmp 23, .tmp 31]) rfl ?_); at_builtin; refine Kd.N_append (Kd.slice 85 k85) (w0 := w) w.heap.size rfl (.tmp 23) (.tmp 31) 37 45 (.slice none 0 0) 24 rfl Tryz.underlying37 oD rfl (by decide) (by omega) (.slice Ao16 x5_1.length co16) x5_1 y369 [.slice A368_0 y369.length c368_0] (fun k_ => (P1_ k_ ∨ w.heap.size ≤ k_)) (fun k_ => ((fun k_ => (P1_ k_ ∨ w.heap.size ≤ k_))) k_ ∧ some k_ ≠ (.slice Ao16 x5_1.length co16 : Value).ownBlock) rfl rfl ?aP (fun _ hk => hk) ?aF ?aO ?aB ?aS ?aL ?_; (case aP => exact (Kd.FK_slice_mk (Kd.V_reads' (Kd.V_mono (ok' := (fun k_ => ((fun k_ => (P1_ k_ ∨ w.heap.size ≤ k_))) k_ ∧ some k_ ≠ (.slice Ao16 x5_1.length co16 : Value).ownBlock)) (HO373.out) (fun k_ hk => ⟨hk.1, hk.2⟩))).2.1 (Kd.V_F (Kd.V_mono (ok' := (fun k_ => ((fun k_ => (P1_ k_ ∨ w.heap.size ≤ k_))) k_ ∧ some k_ ≠ (.slice Ao16 x5_1.length co16 : Value).ownBlock)) (HO373.out) (fun k_ hk => ⟨hk.1, hk.2⟩))))); (case aB => exact (by repeat (first | (with_reducible first | exact HB.out | apply aC | apply pw_below_drewN | apply aD) | exact HB.out))); (case aF => exact (fun k_ hk => (.inr (Nat.le_trans (aM (by repeat (first | (with_reducible first | exact HB.out | apply aC | apply pw_below_drewN | apply aD) | exact HB.out))) hk)))); (case aO => exact (by (with_reducible repeat (first | apply Kd.N_alloc | apply Kd.N_drewN | apply Kd.N_drew)); exact HO_5.out)); (case aS => exact (aM (by repeat (first | (with_reducible first | exact HB.out | apply aC | apply pw_below_drewN | apply aD) | exact HB.out)))); (case aL => have := LMc14.out; omega); intro v375 w19 ho hb hg hat; rw [← Ny374.out] at ho; have n0_ := aA.mk (Kd.V_afterv (ok := (fun k_ => (P1_ k_ ∨ w.heap.size ≤ k_))) (by (with_reducible repeat (first | apply Kd.V_alloc | apply Kd.V_drewN | apply Kd.V_drew)); exact HO_1.out) hg hat); have n1_ := aA.mk (Kd.V_afterv (ok := (fun k_ => (P1_ k_ ∨ w.heap.size ≤ k_))) (by (with_reducible repeat (first | apply Kd.V_alloc | apply Kd.V_drewN | apply Kd.V_drew)); exact HL361_0.out) hg hat); have n2_ := aA.mk (Kd.V_afterv (ok := (fun k_ => (P1_ k_ ∨ w.heap.size ≤ k_))) (by (with_reducible repeat (first | apply Kd.V_alloc | apply Kd.V_drewN | apply Kd.V_drew)); exact HO366.out) hg hat); have n3_ := aA.mk (Kd.V_afterv (ok := (fun k_ => (P1_ k_ ∨ w.heap.size ≤ k_))) (by (with_reducible repeat (first | apply Kd.V_alloc | apply Kd.V_drewN | apply Kd.V_drew)); exact HL368_0.out) hg hat); have n4_ := aA.mk (Kd.V_afterv (ok := (fun k_ => (P1_ k_ ∨ w.heap.size ≤ k_))) (by (with_reducible repeat (first | apply Kd.V_alloc | apply Kd.V_drewN | apply Kd.V_drew)); exact HO373.out) hg hat); have n5_ := aA.mk (hb); have n6_ := aA.mk (ho); clear HO_1; clear HL361_0; clear HO366; clear HL368_0; clear HO373; clear HB; clear HO_5; have HO_1 := n0_; have HL361_0 := n1_; have HO366 := n2_; have HL368_0 := n3_; have HO373 := n4_; have HB := n5_; have HO376 := n6_; clear n0_ n1_ n2_ n3_ n4_ n5_ n6_; clear ho hb hg hat))
         go_roundg k1
         case measure => have := HK1.out; omega
         case rel => exact ⟨(y374), (wrap64 (x6_1 + 1)), (by first | rfl | (simp; done) | (simp [*]; done)), H', ⟨by have := HK1.out; omega⟩, ⟨by (with_reducible repeat (first | apply Kd.V_alloc | apply Kd.V_drewN | apply Kd.V_drew)); exact HO_1.out⟩, ⟨by (with_reducible repeat (first | apply Kd.N_alloc | apply Kd.N_drewN | apply Kd.N_drew)); exact HO376.out⟩, ⟨by repeat (first | (with_reducible first | exact HB.out | apply aC | apply pw_below_drewN | apply aD) | exact HB.out)⟩⟩
        ·rw [if_neg c14] at H
         exact absurd H (by simp)
      ·rw [if_neg c6] at H
       exact absurd H (by simp)
     ·rw [if_neg c5] at H
      exact absurd H (by simp)
    ·rw [if_neg c4] at H
     exact absurd H (by simp)
   ·rw [if_neg c3] at H
    have c3b0 : decide (x6_1 < (l1.length : Int)) = false := decide_eq_false c3
    clear c3
    obtain rfl := Option.some.inj H
    go_wp2
    go_ret
    exact ⟨_, by first | rfl | (simp [aN, aQ] <;> rfl) | (simp [*, aN, aQ] <;> rfl), by (with_reducible repeat (first | apply Kd.N_alloc | apply Kd.N_drewN | apply Kd.N_drew)); exact HO_5.out, by repeat (first | (with_reducible first | exact HB.out | apply aC | apply pw_below_drewN | apply aD) | exact HB.out)⟩
end Go.Proofs.YtpflmgbpjhbmnaaGreat.B
end
section
namespace Go.Proofs.YtpflmgbpjhbmnaaGreat.B
open Go.RowKit Go.Proofs.YtpflmgbpjhbmnaaGreatW.PrintWords Go.Proofs.YtpflmgbpjhbmnaaGreatW.PrintLast Go.Proofs.YtpflmgbpjhbmnaaGreatW.PrintMore
attribute [local go_sem] Go.Proofs.YtpflmgbpjhbmnaaGreat.str_gtr bZ cA cJ cK bT bU cB cC   -- for this text's walks alone
set_option linter.unusedVariables false
set_option linter.unusedSimpArgs false
def bI.l0 : Nat → Int → List (S61) → List (S85) → List (S61) → Int → Option ((List (S61)))
 | 0, _, _, _, _, _ => none
 | k + 1, x0, x1, x2, x7, x8 => if x8 < (x1.length : Int) then (if 0 ≤ x8 then (if 0 ≤ x0 then (if x0 ≤ (((aX x1 x8).f0).length : Int) then ((bM.f k (((aX x1 x8).f0).take (x0 : Int).toNat) x2).bind fun t386 => (if t386 = true then (if x7.length < 2932031007402 then (bI.l0 k x0 x1 x2 (x7 ++ [(⟨(aX x1 x8).f0, (⟨(aX x1 x8).f1.f0, (aX x1 x8).f1.f1⟩ : S59), (aX x1 x8).f2⟩ : S61)]) (wrap64 (x8 + 1))) else (none)) else (bI.l0 k x0 x1 x2 x7 (wrap64 (x8 + 1))))) else (none)) else (none)) else (none)) else (some x7)
def bI.f (k : Nat) (a0 : Int) (l1 : List (S61)) (l2 : List (S85)) : Option ((List (S61))) := bI.l0 k a0 l1 l2 ([] : List (S61)) 0
theorem bI.mono_l : ∀ k, (∀ y0 y1 y2 y3 y4, LeO (bI.l0 k y0 y1 y2 y3 y4) (bI.l0 (k + 1) y0 y1 y2 y3 y4))
 | 0 => fun _ _ _ _ _ r h => by simp [bI.l0] at h
 | k + 1 => by
  have ih0 := bI.mono_l k
  ·intro y0 y1 y2 y3 y4
   unfold bI.l0
   repeat' first
   | (with_reducible exact ih0 _ _ _ _ _)
   | (with_reducible exact bM.mono _ _ _)
   | (with_reducible exact LeO.refl _)
   | (with_reducible exact LeO.none _)
   | (with_reducible refine LeO.ite ?_ ?_)
   | (with_reducible refine LeO.bind ?_ (fun _ => ?_))
   | exact ih0 _ _ _ _ _
   | exact bM.mono _ _ _
   | exact LeO.none _
   | refine LeO.ite ?_ ?_
   | refine LeO.bind ?_ (fun _ => ?_)
theorem bI.mono : ∀ a0 a1 a2 k, LeO (bI.f k a0 a1 a2) (bI.f (k + 1) a0 a1 a2) := by
 intro a0 a1 a2 k
 have ih0 := bI.mono_l k
 unfold bI.f
 repeat' first
   | (with_reducible exact ih0 _ _ _ _ _)
   | (with_reducible exact bM.mono _ _ _)
   | (with_reducible exact LeO.refl _)
   | (with_reducible exact LeO.none _)
   | (with_reducible refine LeO.ite ?_ ?_)
   | (with_reducible refine LeO.bind ?_ (fun _ => ?_))
   | exact ih0 _ _ _ _ _
   | exact bM.mono _ _ _
   | exact LeO.none _
   | refine LeO.ite ?_ ?_
   | refine LeO.bind ?_ (fun _ => ?_)
set_option maxHeartbeats 8000000 in
set_option maxRecDepth 100000 in
theorem bI.calls (k : Nat) (a0 : Int) (P1_ : Nat → Prop) (A1 : Option Addr) (c1 : Nat) (l1 : List (S61)) (A2 : Option Addr) (c2 : Nat) (l2 : List (S85)) (r : List (S61)) (w : World) (hs1 : Kd.V k61 61 w w.heap.size (fun k_ => P1_ k_) (.slice A1 l1.length c1) l1) (hr2 : Kd.C k85 w A2 l2.length l2) (hc2 : l2.length ≤ c2) (h : bI.f k a0 l1 l2 = some r) :
  Calls Tryz.prog 23 #[.int .i64 a0, .slice A1 l1.length c1, .slice A2 l2.length c2] w fun e w' => ∃ v0_ : Value, e = .returned (v0_) ∧ Kd.N k61 61 w' w.heap.size (fun k_ => (P1_ k_ ∨ w.heap.size ≤ k_)) v0_ r ∧ Below w.heap.size w w' := by
 have hu61 := Tryz.underlying61
 have HO1 := aA.mk (show Kd.V k61 61 w w.heap.size (fun k_ => (P1_ k_ ∨ w.heap.size ≤ k_)) (.slice A1 l1.length c1) l1 from Kd.V_mono hs1 (fun k_ hk => .inl hk))
 have HR2 := aA.mk hr2
 have HC2 := aA.mk hc2
 clear hr2 hc2
 have HB := aA.mk (Below.refl w.heap.size w)
 have H : (bI.l0 k a0 l1 l2 ([] : List (S61)) 0) = some r := h
 clear h
 have H' := aA.mk H
 clear H
 go_enter Tryz.func23, Tryz.ntmps23
 go_wp2
 go_loopg [7, 8] k (fun kq v7 v8 w' => ∃ (x7_1 : List (S61)) (x8_1 : Int), v8 = .int .i64 x8_1 ∧ aA (bI.l0 kq a0 l1 l2 x7_1 x8_1 = some r) ∧ aA (kq ≤ k) ∧ aA (Kd.V k61 61 w' w.heap.size (fun k_ => (P1_ k_ ∨ w.heap.size ≤ k_) ∧ some k_ ≠ (v7 : Value).ownBlock) (.slice A1 l1.length c1) l1) ∧ aA (Kd.N k61 61 w' w.heap.size (fun k_ => (P1_ k_ ∨ w.heap.size ≤ k_)) v7 x7_1) ∧ aA (Below w.heap.size w w'))
 case atStart => exact ⟨(([] : List (S61))), (0), (by first | rfl | (simp; done) | (simp [*]; done)), H', ⟨Nat.le_refl _⟩, ⟨by (with_reducible repeat (first | apply Kd.V_alloc | apply Kd.V_drewN | apply Kd.V_drew)); exact Kd.V_mono HO1.out (fun _ hk => ⟨hk, (by simp [Value.ownBlock])⟩)⟩, ⟨by first | exact Kd.S_nil _ _ _ _ _ | exact Kd.N_nil _ _ _ _ _ | exact Kd.V_nil _ _ _ _ _ | exact Kd.Q_nil _ _ _ _ _ | exact Kd.R_nil _ _ _ _ _⟩, ⟨by repeat (first | (with_reducible first | exact HB.out | apply aC | apply pw_below_drewN | apply aD) | exact HB.out)⟩⟩
 case round =>
  clear H'
  try clear c1
  try clear c2
  try clear p2
  obtain ⟨x7_1, x8_1, rfl, HA, HK1, HO_1, HO_7, HB⟩ := hrel
  cases gk with
  | zero => exact absurd HA.out (by simp [bI.l0])
  | succ k1 =>
   have H := HA.out
   clear HA
   simp only [bI.l0] at H
   by_cases c4 : x8_1 < (l1.length : Int)
   ·rw [if_pos c4] at H
    have c4b0 : decide (x8_1 < (l1.length : Int)) = true := decide_eq_true c4
    clear c4
    by_cases c5 : 0 ≤ x8_1
    ·rw [if_pos c5] at H
     have c5b0 : decide (0 ≤ x8_1) = true := decide_eq_true c5
     clear c5
     by_cases c6 : 0 ≤ a0
     ·rw [if_pos c6] at H
      have c6b0 := eq_true c6
      have c6b1 : decide (0 ≤ a0) = true := decide_eq_true c6
      clear c6
      by_cases c7 : a0 ≤ (((aX l1 x8_1).f0).length : Int)
      ·rw [if_pos c7] at H
       have c7b0 := eq_true c7
       have c7b1 : decide (a0 ≤ (((aX l1 x8_1).f0).length : Int)) = true := decide_eq_true c7
       clear c7
       obtain ⟨y381, hy381⟩ : ∃ y_ : List (S85), y_ = (((aX l1 x8_1).f0).take (a0 : Int).toNat) := ⟨_, rfl⟩
       replace H : ((bM.f k1 y381 l2).bind fun t386 => (if t386 = true then (if x7_1.length < 2932031007402 then (bI.l0 k1 a0 l1 l2 (x7_1 ++ [(⟨(aX l1 x8_1).f0, (⟨(aX l1 x8_1).f1.f0, (aX l1 x8_1).f1.f1⟩ : S59), (aX l1 x8_1).f2⟩ : S61)]) (wrap64 (x8_1 + 1))) else (none)) else (bI.l0 k1 a0 l1 l2 x7_1 (wrap64 (x8_1 + 1))))) = some r := by first | (rw [hy381]; with_reducible exact H) | (have H2_ := (Option.bind_some _ _).symm.trans H; rw [hy381]; with_reducible exact H2_) | (have H2_ := (Option.bind_some _ _).symm.trans H; with_reducible exact H2_) | with_reducible exact H | (rw [hy381]; exact H) | exact H
       have Ny381 := aA.mk hy381
       clear hy381
       replace H := Option.bind_eq_some_iff.mp H
       obtain ⟨t386, A80, H⟩ := H
       replace H : (if t386 = true then (if x7_1.length < 2932031007402 then (bI.l0 k1 a0 l1 l2 (x7_1 ++ [(⟨(aX l1 x8_1).f0, (⟨(aX l1 x8_1).f1.f0, (aX l1 x8_1).f1.f1⟩ : S59), (aX l1 x8_1).f2⟩ : S61)]) (wrap64 (x8_1 + 1))) else (none)) else (bI.l0 k1 a0 l1 l2 x7_1 (wrap64 (x8_1 + 1)))) = some r := H
       have A8 := aA.mk A80
       clear A80
       by_cases c9 : t386 = true
       ·subst c9
        have H1 : (if x7_1.length < 2932031007402 then (bI.l0 k1 a0 l1 l2 (x7_1 ++ [(⟨(aX l1 x8_1).f0, (⟨(aX l1 x8_1).f1.f0, (aX l1 x8_1).f1.f1⟩ : S59), (aX l1 x8_1).f2⟩ : S61)]) (wrap64 (x8_1 + 1))) else (none)) = some r := by rw [if_pos rfl] at H; exact H
        clear H
        have H := H1
        clear H1
        by_cases c10 : x7_1.length < 2932031007402
        ·rw [if_pos c10] at H
         have LMc10 := aA.mk c10
         clear c10
         obtain ⟨y388, hy388⟩ : ∃ y_ : List (S61), y_ = (x7_1 ++ [(⟨(aX l1 x8_1).f0, (⟨(aX l1 x8_1).f1.f0, (aX l1 x8_1).f1.f1⟩ : S59), (aX l1 x8_1).f2⟩ : S61)]) := ⟨_, rfl⟩
         replace H : (bI.l0 k1 a0 l1 l2 y388 (wrap64 (x8_1 + 1))) = some r := by first | (rw [hy388]; with_reducible exact H) | (have H2_ := (Option.bind_some _ _).symm.trans H; rw [hy388]; with_reducible exact H2_) | (have H2_ := (Option.bind_some _ _).symm.trans H; with_reducible exact H2_) | with_reducible exact H | (rw [hy388]; exact H) | exact H
         have Ny388 := aA.mk hy388
         clear hy388
         have H' := aA.mk H
         clear H
         have p380 : 0 ≤ (x8_1 : Int) := of_decide_eq_true (by first | (with_reducible assumption) | assumption)
         have q380 : x8_1 < (l1.length : Int) := of_decide_eq_true (by first | (with_reducible assumption) | assumption)
         obtain ⟨ad380, A380_0, c380_0, e380, hx380_0, hx380_1, hx380_2, hx380_3, hl380_0, hi380_0⟩ := eJ (Kd.V_reads' HO_1.out).2.2 x8_1 p380 q380
         cases e380
         obtain ⟨ce380, hce380, hMe380, hcc380⟩ := Kd.V_get HO_1.out z61 x8_1 p380 (by first | exact q380 | exact of_decide_eq_true (by first | (with_reducible assumption) | assumption) | (have e_ := (Kd.V_reads' HO_1.out).1; omega))
         obtain ⟨ua380_0, uc380_0, rfl, ul380_0, ge380_0⟩ := eR hMe380
         have hv380_0 := hcc380 0 _ rfl
         rw [Nat.add_zero] at hv380_0
         replace hv380_0 := Option.some.inj (hv380_0.symm.trans hx380_0)
         injection hv380_0 with hva_ hvn_ hvc_
         rw [hva_] at ge380_0
         rw [hvc_] at ul380_0
         have HL380_0 := aA.mk (show Kd.V k85 85 _ w.heap.size _ _ ((aX l1 x8_1).f0) from Kd.V_mk ul380_0 ge380_0)
         clear hva_ hvn_ hvc_ ge380_0 ul380_0
         clear hcc380 hce380
         have HR380_0 := aA.mk hi380_0
         have HC380_0 := aA.mk hl380_0
         clear hi380_0 hl380_0
         replace p380 := eq_true p380
         replace q380 := eq_true q380
         have q11 : (a0 : Int) ≤ ((((aX l1 x8_1).f0).length : Int) : Int) := of_decide_eq_true (by first | (with_reducible assumption) | assumption)
         obtain ⟨i011, hi011, _, hsz11, _⟩ := info_parts gQ
         have hroom11 : ((aX l1 x8_1).f0).length ≤ c380_0 := HC380_0.out
         have hC11 : Kd.F k85 _ _ A380_0 ((aX l1 x8_1).f0).length ((aX l1 x8_1).f0) := (Kd.V_at (base := w.heap.size) HL380_0.out).2.2
         have hcut11 := kO (P := Tryz.prog) 45 85 .i64 Tryz.underlying45 hi011 A380_0 ((aX l1 x8_1).f0).length c380_0 a0 (of_decide_eq_true (by first | (with_reducible assumption) | assumption)) q11 hroom11
         have hr11 := Kd.F_take (m := (a0 : Int).toNat) hC11 (by omega)
         have hy11 : y381.length = (a0 : Int).toNat := (by rw [Ny381.out, List.length_take]; omega)
         rw [← Ny381.out] at hr11
         rw [← hy11] at hcut11
         have HO385 := aA.mk (show Kd.V k85 85 _ w.heap.size _ (.slice A380_0 y381.length c380_0) y381 from Kd.V_mk (by omega) hr11)
         have HC385 := aA.mk (show y381.length ≤ c380_0 from by omega)
         clear hr11 hC11 hroom11 hi011 hsz11
         have KY11 := aA.mk hy11
         clear hy11
         replace q11 := eq_true q11
         go_wp2_with (first | ((with_reducible refine aZ (f := 35) rfl ?_); refine cH (some 23) rfl rfl Tryz.func35 (by kernel_rfl) rfl #[.slice A380_0 y381.length c380_0, .slice A2 l2.length c2] rfl (by (try simp only [List.map_toArray, List.map_cons, List.map_nil]); first | done | rfl | (simp only [List.length_drop, List.length_take]; rfl)) ?_; (with_reducible refine (bM.calls k1 _ _ y381 _ _ l2 true _ ?side1 ?side2 ?side3 ?side4 A8.out).mono ?_); (case side1 => repeat (first | exact (Kd.V_reads' HO385.out).2.2 | (with_reducible refine Kd.C_alloc ?_ _) | (with_reducible refine Kd.C_drewN ?_ _) | (with_reducible refine Kd.C_drew ?_))); (case side2 => exact (Kd.V_reads' HO385.out).2.1); (case side3 => repeat (first | exact (Kd.C_below HR2.out HB.out) | (with_reducible refine Kd.C_alloc ?_ _) | (with_reducible refine Kd.C_drewN ?_ _) | (with_reducible refine Kd.C_drew ?_))); (case side4 => exact HC2.out); rintro e w12 ⟨rfl, hb⟩; refine ⟨_, rfl, ?_⟩; have n0_ := aA.mk (Kd.V_below (by (with_reducible repeat (first | apply Kd.V_alloc | apply Kd.V_drewN | apply Kd.V_drew)); exact HO_1.out) hb); have n1_ := aA.mk (Kd.N_below (by (with_reducible repeat (first | apply Kd.N_alloc | apply Kd.N_drewN | apply Kd.N_drew)); exact HO_7.out) hb); have n2_ := aA.mk (Kd.V_below (by (with_reducible repeat (first | apply Kd.V_alloc | apply Kd.V_drewN | apply Kd.V_drew)); exact HL380_0.out) hb); have n3_ := aA.mk (Kd.V_below (by (with_reducible repeat (first | apply Kd.V_alloc | apply Kd.V_drewN | apply Kd.V_drew)); exact HO385.out) hb); have n4_ := aA.mk (Kd.C_below (by repeat (first | (with_reducible exact HR380_0.out) | (with_reducible refine Kd.C_alloc ?_ _) | (with_reducible refine Kd.C_drewN ?_ _) | (with_reducible refine Kd.C_drew ?_) | exact HR380_0.out)) hb); have n5_ := aA.mk (aV (by repeat (first | (with_reducible first | exact HB.out | apply aC | apply pw_below_drewN | apply aD) | exact HB.out)) hb); clear HO_1; clear HO_7; clear HL380_0; clear HO385; clear HR380_0; clear HB; have HO_1 := n0_; have HO_7 := n1_; have HL380_0 := n2_; have HO385 := n3_; have HR380_0 := n4_; have HB := n5_; clear n0_ n1_ n2_ n3_ n4_ n5_; (try clear hb); (try clear hb2); (try clear hk); (try clear hi); have p387 : 0 ≤ (x8_1 : Int) := of_decide_eq_true (by first | (with_reducible assumption) | assumption); have q387 : x8_1 < (l1.length : Int) := of_decide_eq_true (by first | (with_reducible assumption) | assumption); obtain ⟨ad387, A387_0, c387_0, e387, hx387_0, hx387_1, hx387_2, hx387_3, hl387_0, hi387_0⟩ := eJ (Kd.V_reads' HO_1.out).2.2 x8_1 p387 q387; obtain rfl : ad380 = ad387 := (by injection e387); obtain ⟨ce387, hce387, hMe387, hcc387⟩ := Kd.V_get HO_1.out z61 x8_1 p387 (by first | exact q387 | exact of_decide_eq_true (by first | (with_reducible assumption) | assumption) | (have e_ := (Kd.V_reads' HO_1.out).1; omega)); obtain ⟨ua387_0, uc387_0, rfl, ul387_0, ge387_0⟩ := eR hMe387; have hv387_0 := hcc387 0 _ rfl; rw [Nat.add_zero] at hv387_0; replace hv387_0 := Option.some.inj (hv387_0.symm.trans hx387_0); injection hv387_0 with hva_ hvn_ hvc_; rw [hva_] at ge387_0; rw [hvc_] at ul387_0; have HL387_0 := aA.mk (show Kd.V k85 85 _ w.heap.size _ _ ((aX l1 x8_1).f0) from Kd.V_mk ul387_0 ge387_0); clear hva_ hvn_ hvc_ ge387_0 ul387_0; clear hcc387 hce387; have HR387_0 := aA.mk hi387_0; have HC387_0 := aA.mk hl387_0; clear hi387_0 hl387_0; replace p387 := eq_true p387; replace q387 := eq_true q387) | ((with_reducible refine cI (b := .append) (xs := #[.tmp 24, .tmp 29]) rfl ?_); at_builtin; refine Kd.N_append k61 (w0 := w) w.heap.size rfl (.tmp 24) (.tmp 29) 22 61 (.agg #[(.slice none 0 0), (.int .i64 0), (.int .i64 0), (.int .i64 0)]) 48 rfl Tryz.underlying22 mE rfl (by decide) (by omega) u7 x7_1 (⟨(aX l1 x8_1).f0, (⟨(aX l1 x8_1).f1.f0, (aX l1 x8_1).f1.f1⟩ : S59), (aX l1 x8_1).f2⟩ : S61) [.slice A387_0 ((aX l1 x8_1).f0).length c387_0, .int .i64 ((aX l1 x8_1).f1.f0), .int .i64 ((aX l1 x8_1).f1.f1), .int .i64 ((aX l1 x8_1).f2)] (fun k_ => (P1_ k_ ∨ w.heap.size ≤ k_)) (fun k_ => ((fun k_ => (P1_ k_ ∨ w.heap.size ≤ k_))) k_ ∧ some k_ ≠ (u7 : Value).ownBlock) rfl rfl ?aP (fun _ hk => hk) ?aF ?aO ?aB ?aS ?aL ?_; (case aP => exact (tN _ _ (⟨(aX l1 x8_1).f0, (⟨(aX l1 x8_1).f1.f0, (aX l1 x8_1).f1.f1⟩ : S59), (aX l1 x8_1).f2⟩ : S61) (Kd.V_reads' (Kd.V_mono (ok' := (fun k_ => ((fun k_ => (P1_ k_ ∨ w.heap.size ≤ k_))) k_ ∧ some k_ ≠ (u7 : Value).ownBlock)) (HL387_0.out) (fun k_ hk => ⟨hk.1, hk.2⟩))).2.1 (Kd.V_F (Kd.V_mono (ok' := (fun k_ => ((fun k_ => (P1_ k_ ∨ w.heap.size ≤ k_))) k_ ∧ some k_ ≠ (u7 : Value).ownBlock)) (HL387_0.out) (fun k_ hk => ⟨hk.1, hk.2⟩))))); (case aB => exact (by repeat (first | (with_reducible first | exact HB.out | apply aC | apply pw_below_drewN | apply aD) | exact HB.out))); (case aF => exact (fun k_ hk => (.inr (Nat.le_trans (aM (by repeat (first | (with_reducible first | exact HB.out | apply aC | apply pw_below_drewN | apply aD) | exact HB.out))) hk)))); (case aO => exact (by (with_reducible repeat (first | apply Kd.N_alloc | apply Kd.N_drewN | apply Kd.N_drew)); exact HO_7.out)); (case aS => exact (aM (by repeat (first | (with_reducible first | exact HB.out | apply aC | apply pw_below_drewN | apply aD) | exact HB.out)))); (case aL => have := LMc10.out; omega); intro v389 w13 ho hb hg hat; rw [← Ny388.out] at ho; have n0_ := aA.mk (Kd.V_afterv (ok := (fun k_ => (P1_ k_ ∨ w.heap.size ≤ k_))) (by (with_reducible repeat (first | apply Kd.V_alloc | apply Kd.V_drewN | apply Kd.V_drew)); exact HO_1.out) hg hat); have n1_ := aA.mk (Kd.V_afterv (ok := (fun k_ => (P1_ k_ ∨ w.heap.size ≤ k_))) (by (with_reducible repeat (first | apply Kd.V_alloc | apply Kd.V_drewN | apply Kd.V_drew)); exact HL380_0.out) hg hat); have n2_ := aA.mk (Kd.V_afterv (ok := (fun k_ => (P1_ k_ ∨ w.heap.size ≤ k_))) (by (with_reducible repeat (first | apply Kd.V_alloc | apply Kd.V_drewN | apply Kd.V_drew)); exact HO385.out) hg hat); have n3_ := aA.mk (Kd.V_afterv (ok := (fun k_ => (P1_ k_ ∨ w.heap.size ≤ k_))) (by (with_reducible repeat (first | apply Kd.V_alloc | apply Kd.V_drewN | apply Kd.V_drew)); exact HL387_0.out) hg hat); have n4_ := aA.mk (hb); have n5_ := aA.mk (ho); clear HO_1; clear HL380_0; clear HO385; clear HL387_0; clear HB; clear HO_7; have HO_1 := n0_; have HL380_0 := n1_; have HO385 := n2_; have HL387_0 := n3_; have HB := n4_; have HO390 := n5_; clear n0_ n1_ n2_ n3_ n4_ n5_; clear ho hb hg hat))
         go_roundg k1
         case measure => have := HK1.out; omega
         case rel => exact ⟨(y388), (wrap64 (x8_1 + 1)), (by first | rfl | (simp; done) | (simp [*]; done)), H', ⟨by have := HK1.out; omega⟩, ⟨by (with_reducible repeat (first | apply Kd.V_alloc | apply Kd.V_drewN | apply Kd.V_drew)); exact HO_1.out⟩, ⟨by (with_reducible repeat (first | apply Kd.N_alloc | apply Kd.N_drewN | apply Kd.N_drew)); exact HO390.out⟩, ⟨by repeat (first | (with_reducible first | exact HB.out | apply aC | apply pw_below_drewN | apply aD) | exact HB.out)⟩⟩
        ·rw [if_neg c10] at H
         exact absurd H (by simp)
       ·replace c9 := Bool.eq_false_iff.mpr c9
        subst c9
        have H1 : (bI.l0 k1 a0 l1 l2 x7_1 (wrap64 (x8_1 + 1))) = some r := by rw [if_neg (show ¬ (false = true) by decide)] at H; exact H
        clear H
        have H := H1
        clear H1
        have H' := aA.mk H
        clear H
        have p380 : 0 ≤ (x8_1 : Int) := of_decide_eq_true (by first | (with_reducible assumption) | assumption)
        have q380 : x8_1 < (l1.length : Int) := of_decide_eq_true (by first | (with_reducible assumption) | assumption)
        obtain ⟨ad380, A380_0, c380_0, e380, hx380_0, hx380_1, hx380_2, hx380_3, hl380_0, hi380_0⟩ := eJ (Kd.V_reads' HO_1.out).2.2 x8_1 p380 q380
        cases e380
        obtain ⟨ce380, hce380, hMe380, hcc380⟩ := Kd.V_get HO_1.out z61 x8_1 p380 (by first | exact q380 | exact of_decide_eq_true (by first | (with_reducible assumption) | assumption) | (have e_ := (Kd.V_reads' HO_1.out).1; omega))
        obtain ⟨ua380_0, uc380_0, rfl, ul380_0, ge380_0⟩ := eR hMe380
        have hv380_0 := hcc380 0 _ rfl
        rw [Nat.add_zero] at hv380_0
        replace hv380_0 := Option.some.inj (hv380_0.symm.trans hx380_0)
        injection hv380_0 with hva_ hvn_ hvc_
        rw [hva_] at ge380_0
        rw [hvc_] at ul380_0
        have HL380_0 := aA.mk (show Kd.V k85 85 _ w.heap.size _ _ ((aX l1 x8_1).f0) from Kd.V_mk ul380_0 ge380_0)
        clear hva_ hvn_ hvc_ ge380_0 ul380_0
        clear hcc380 hce380
        have HR380_0 := aA.mk hi380_0
        have HC380_0 := aA.mk hl380_0
        clear hi380_0 hl380_0
        replace p380 := eq_true p380
        replace q380 := eq_true q380
        have q14 : (a0 : Int) ≤ ((((aX l1 x8_1).f0).length : Int) : Int) := of_decide_eq_true (by first | (with_reducible assumption) | assumption)
        obtain ⟨i014, hi014, _, hsz14, _⟩ := info_parts gQ
        have hroom14 : ((aX l1 x8_1).f0).length ≤ c380_0 := HC380_0.out
        have hC14 : Kd.F k85 _ _ A380_0 ((aX l1 x8_1).f0).length ((aX l1 x8_1).f0) := (Kd.V_at (base := w.heap.size) HL380_0.out).2.2
        have hcut14 := kO (P := Tryz.prog) 45 85 .i64 Tryz.underlying45 hi014 A380_0 ((aX l1 x8_1).f0).length c380_0 a0 (of_decide_eq_true (by first | (with_reducible assumption) | assumption)) q14 hroom14
        have hr14 := Kd.F_take (m := (a0 : Int).toNat) hC14 (by omega)
        have hy14 : y381.length = (a0 : Int).toNat := (by rw [Ny381.out, List.length_take]; omega)
        rw [← Ny381.out] at hr14
        rw [← hy14] at hcut14
        have HO385 := aA.mk (show Kd.V k85 85 _ w.heap.size _ (.slice A380_0 y381.length c380_0) y381 from Kd.V_mk (by omega) hr14)
        have HC385 := aA.mk (show y381.length ≤ c380_0 from by omega)
        clear hr14 hC14 hroom14 hi014 hsz14
        have KY14 := aA.mk hy14
        clear hy14
        replace q14 := eq_true q14
        go_wp2_with (first | ((with_reducible refine aZ (f := 35) rfl ?_); refine cH (some 23) rfl rfl Tryz.func35 (by kernel_rfl) rfl #[.slice A380_0 y381.length c380_0, .slice A2 l2.length c2] rfl (by (try simp only [List.map_toArray, List.map_cons, List.map_nil]); first | done | rfl | (simp only [List.length_drop, List.length_take]; rfl)) ?_; (with_reducible refine (bM.calls k1 _ _ y381 _ _ l2 false _ ?side1 ?side2 ?side3 ?side4 A8.out).mono ?_); (case side1 => repeat (first | exact (Kd.V_reads' HO385.out).2.2 | (with_reducible refine Kd.C_alloc ?_ _) | (with_reducible refine Kd.C_drewN ?_ _) | (with_reducible refine Kd.C_drew ?_))); (case side2 => exact (Kd.V_reads' HO385.out).2.1); (case side3 => repeat (first | exact (Kd.C_below HR2.out HB.out) | (with_reducible refine Kd.C_alloc ?_ _) | (with_reducible refine Kd.C_drewN ?_ _) | (with_reducible refine Kd.C_drew ?_))); (case side4 => exact HC2.out); rintro e w15 ⟨rfl, hb⟩; refine ⟨_, rfl, ?_⟩; have n0_ := aA.mk (Kd.V_below (by (with_reducible repeat (first | apply Kd.V_alloc | apply Kd.V_drewN | apply Kd.V_drew)); exact HO_1.out) hb); have n1_ := aA.mk (Kd.N_below (by (with_reducible repeat (first | apply Kd.N_alloc | apply Kd.N_drewN | apply Kd.N_drew)); exact HO_7.out) hb); have n2_ := aA.mk (Kd.V_below (by (with_reducible repeat (first | apply Kd.V_alloc | apply Kd.V_drewN | apply Kd.V_drew)); exact HL380_0.out) hb); have n3_ := aA.mk (Kd.V_below (by (with_reducible repeat (first | apply Kd.V_alloc | apply Kd.V_drewN | apply Kd.V_drew)); exact HO385.out) hb); have n4_ := aA.mk (Kd.C_below (by repeat (first | (with_reducible exact HR380_0.out) | (with_reducible refine Kd.C_alloc ?_ _) | (with_reducible refine Kd.C_drewN ?_ _) | (with_reducible refine Kd.C_drew ?_) | exact HR380_0.out)) hb); have n5_ := aA.mk (aV (by repeat (first | (with_reducible first | exact HB.out | apply aC | apply pw_below_drewN | apply aD) | exact HB.out)) hb); clear HO_1; clear HO_7; clear HL380_0; clear HO385; clear HR380_0; clear HB; have HO_1 := n0_; have HO_7 := n1_; have HL380_0 := n2_; have HO385 := n3_; have HR380_0 := n4_; have HB := n5_; clear n0_ n1_ n2_ n3_ n4_ n5_; (try clear hb); (try clear hb2); (try clear hk); (try clear hi)))
        go_roundg k1
        case measure => have := HK1.out; omega
        case rel => exact ⟨(x7_1), (wrap64 (x8_1 + 1)), (by first | rfl | (simp; done) | (simp [*]; done)), H', ⟨by have := HK1.out; omega⟩, ⟨by (with_reducible repeat (first | apply Kd.V_alloc | apply Kd.V_drewN | apply Kd.V_drew)); exact HO_1.out⟩, ⟨by (with_reducible repeat (first | apply Kd.N_alloc | apply Kd.N_drewN | apply Kd.N_drew)); exact HO_7.out⟩, ⟨by repeat (first | (with_reducible first | exact HB.out | apply aC | apply pw_below_drewN | apply aD) | exact HB.out)⟩⟩
      ·rw [if_neg c7] at H
       exact absurd H (by simp)
     ·rw [if_neg c6] at H
      exact absurd H (by simp)
    ·rw [if_neg c5] at H
     exact absurd H (by simp)
   ·rw [if_neg c4] at H
    have c4b0 : decide (x8_1 < (l1.length : Int)) = false := decide_eq_false c4
    clear c4
    obtain rfl := Option.some.inj H
    go_wp2
    go_ret
    exact ⟨_, by first | rfl | (simp [aN, aQ] <;> rfl) | (simp [*, aN, aQ] <;> rfl), by (with_reducible repeat (first | apply Kd.N_alloc | apply Kd.N_drewN | apply Kd.N_drew)); exact HO_7.out, by repeat (first | (with_reducible first | exact HB.out | apply aC | apply pw_below_drewN | apply aD) | exact HB.out)⟩
end Go.Proofs.YtpflmgbpjhbmnaaGreat.B
end
section
namespace Go.Proofs.YtpflmgbpjhbmnaaGreat.B
open Go.RowKit Go.Proofs.YtpflmgbpjhbmnaaGreatW.PrintWords Go.Proofs.YtpflmgbpjhbmnaaGreatW.PrintLast Go.Proofs.YtpflmgbpjhbmnaaGreatW.PrintMore
attribute [local go_sem] Go.Proofs.YtpflmgbpjhbmnaaGreat.str_gtr bZ cA cJ cK bT bU cB cC   -- for this text's walks alone
set_option linter.unusedVariables false
set_option linter.unusedSimpArgs false
def bA.l0 : Nat → Int → List (S61) → List (List (S85)) → Int → Option ((List (List (S85))))
 | 0, _, _, _, _ => none
 | k + 1, x0, x1, x5, x6 => if x6 < (x1.length : Int) then (if 0 ≤ x6 then (if 0 ≤ x0 then (if x0 ≤ (((aX x1 x6).f0).length : Int) then ((bR.f k x5 (((aX x1 x6).f0).drop (x0 : Int).toNat)).bind fun t397 => (if t397 = true then (bA.l0 k x0 x1 x5 (wrap64 (x6 + 1))) else (if x5.length < 5864062014805 then (bA.l0 k x0 x1 (x5 ++ [(((aX x1 x6).f0).drop (x0 : Int).toNat)]) (wrap64 (x6 + 1))) else (none)))) else (none)) else (none)) else (none)) else (some x5)
def bA.f (k : Nat) (a0 : Int) (l1 : List (S61)) : Option ((List (List (S85)))) := bA.l0 k a0 l1 ([] : List (List (S85))) 0
theorem bA.mono_l : ∀ k, (∀ y0 y1 y2 y3, LeO (bA.l0 k y0 y1 y2 y3) (bA.l0 (k + 1) y0 y1 y2 y3))
 | 0 => fun _ _ _ _ r h => by simp [bA.l0] at h
 | k + 1 => by
  have ih0 := bA.mono_l k
  ·intro y0 y1 y2 y3
   unfold bA.l0
   repeat' first
   | (with_reducible exact ih0 _ _ _ _)
   | (with_reducible exact bR.mono _ _ _)
   | (with_reducible exact LeO.refl _)
   | (with_reducible exact LeO.none _)
   | (with_reducible refine LeO.ite ?_ ?_)
   | (with_reducible refine LeO.bind ?_ (fun _ => ?_))
   | exact ih0 _ _ _ _
   | exact bR.mono _ _ _
   | exact LeO.none _
   | refine LeO.ite ?_ ?_
   | refine LeO.bind ?_ (fun _ => ?_)
theorem bA.mono : ∀ a0 a1 k, LeO (bA.f k a0 a1) (bA.f (k + 1) a0 a1) := by
 intro a0 a1 k
 have ih0 := bA.mono_l k
 unfold bA.f
 repeat' first
   | (with_reducible exact ih0 _ _ _ _)
   | (with_reducible exact bR.mono _ _ _)
   | (with_reducible exact LeO.refl _)
   | (with_reducible exact LeO.none _)
   | (with_reducible refine LeO.ite ?_ ?_)
   | (with_reducible refine LeO.bind ?_ (fun _ => ?_))
   | exact ih0 _ _ _ _
   | exact bR.mono _ _ _
   | exact LeO.none _
   | refine LeO.ite ?_ ?_
   | refine LeO.bind ?_ (fun _ => ?_)
set_option maxHeartbeats 8000000 in
set_option maxRecDepth 100000 in
theorem bA.calls (k : Nat) (a0 : Int) (P1_ : Nat → Prop) (A1 : Option Addr) (c1 : Nat) (l1 : List (S61)) (r : List (List (S85))) (w : World) (hs1 : Kd.V k61 61 w w.heap.size (fun k_ => P1_ k_) (.slice A1 l1.length c1) l1) (h : bA.f k a0 l1 = some r) :
  Calls Tryz.prog 26 #[.int .i64 a0, .slice A1 l1.length c1] w fun e w' => ∃ v0_ : Value, e = .returned (v0_) ∧ Kd.N (Kd.slice 85 k85) 45 w' w.heap.size (fun k_ => (P1_ k_ ∨ w.heap.size ≤ k_)) v0_ r ∧ Below w.heap.size w w' := by
 have HO1 := aA.mk (show Kd.V k61 61 w w.heap.size (fun k_ => (P1_ k_ ∨ w.heap.size ≤ k_)) (.slice A1 l1.length c1) l1 from Kd.V_mono hs1 (fun k_ hk => .inl hk))
 have HB := aA.mk (Below.refl w.heap.size w)
 have H : (bA.l0 k a0 l1 ([] : List (List (S85))) 0) = some r := h
 clear h
 have H' := aA.mk H
 clear H
 go_enter Tryz.func26, Tryz.ntmps26
 go_wp2
 go_loopg [5, 6] k (fun kq v5 v6 w' => ∃ (x5_1 : List (List (S85))) (x6_1 : Int), v6 = .int .i64 x6_1 ∧ aA (bA.l0 kq a0 l1 x5_1 x6_1 = some r) ∧ aA (kq ≤ k) ∧ aA (Kd.V k61 61 w' w.heap.size (fun k_ => (P1_ k_ ∨ w.heap.size ≤ k_) ∧ some k_ ≠ (v5 : Value).ownBlock) (.slice A1 l1.length c1) l1) ∧ aA (Kd.N (Kd.slice 85 k85) 45 w' w.heap.size (fun k_ => (P1_ k_ ∨ w.heap.size ≤ k_)) v5 x5_1) ∧ aA (Below w.heap.size w w'))
 case atStart => exact ⟨(([] : List (List (S85)))), (0), (by first | rfl | (simp; done) | (simp [*]; done)), H', ⟨Nat.le_refl _⟩, ⟨by (with_reducible repeat (first | apply Kd.V_alloc | apply Kd.V_drewN | apply Kd.V_drew)); exact Kd.V_mono HO1.out (fun _ hk => ⟨hk, (by simp [Value.ownBlock])⟩)⟩, ⟨by first | exact Kd.S_nil _ _ _ _ _ | exact Kd.N_nil _ _ _ _ _ | exact Kd.V_nil _ _ _ _ _ | exact Kd.Q_nil _ _ _ _ _ | exact Kd.R_nil _ _ _ _ _⟩, ⟨by repeat (first | (with_reducible first | exact HB.out | apply aC | apply pw_below_drewN | apply aD) | exact HB.out)⟩⟩
 case round =>
  clear H'
  try clear c1
  try clear c2
  try clear p2
  obtain ⟨x5_1, x6_1, rfl, HA, HK1, HO_1, HO_5, HB⟩ := hrel
  cases gk with
  | zero => exact absurd HA.out (by simp [bA.l0])
  | succ k1 =>
   have H := HA.out
   clear HA
   simp only [bA.l0] at H
   by_cases c3 : x6_1 < (l1.length : Int)
   ·rw [if_pos c3] at H
    have c3b0 : decide (x6_1 < (l1.length : Int)) = true := decide_eq_true c3
    clear c3
    by_cases c4 : 0 ≤ x6_1
    ·rw [if_pos c4] at H
     have c4b0 : decide (0 ≤ x6_1) = true := decide_eq_true c4
     clear c4
     by_cases c5 : 0 ≤ a0
     ·rw [if_pos c5] at H
      have c5b0 := eq_true c5
      have c5b1 : decide (0 ≤ a0) = true := decide_eq_true c5
      clear c5
      by_cases c6 : a0 ≤ (((aX l1 x6_1).f0).length : Int)
      ·rw [if_pos c6] at H
       have c6b0 := eq_true c6
       have c6b1 : decide (a0 ≤ (((aX l1 x6_1).f0).length : Int)) = true := decide_eq_true c6
       clear c6
       obtain ⟨y392, hy392⟩ : ∃ y_ : List (S85), y_ = (((aX l1 x6_1).f0).drop (a0 : Int).toNat) := ⟨_, rfl⟩
       replace H : ((bR.f k1 x5_1 y392).bind fun t397 => (if t397 = true then (bA.l0 k1 a0 l1 x5_1 (wrap64 (x6_1 + 1))) else (if x5_1.length < 5864062014805 then (bA.l0 k1 a0 l1 (x5_1 ++ [(((aX l1 x6_1).f0).drop (a0 : Int).toNat)]) (wrap64 (x6_1 + 1))) else (none)))) = some r := by first | (rw [hy392]; with_reducible exact H) | (have H2_ := (Option.bind_some _ _).symm.trans H; rw [hy392]; with_reducible exact H2_) | (have H2_ := (Option.bind_some _ _).symm.trans H; with_reducible exact H2_) | with_reducible exact H | (rw [hy392]; exact H) | exact H
       have Ny392 := aA.mk hy392
       clear hy392
       replace H := Option.bind_eq_some_iff.mp H
       obtain ⟨t397, A70, H⟩ := H
       replace H : (if t397 = true then (bA.l0 k1 a0 l1 x5_1 (wrap64 (x6_1 + 1))) else (if x5_1.length < 5864062014805 then (bA.l0 k1 a0 l1 (x5_1 ++ [(((aX l1 x6_1).f0).drop (a0 : Int).toNat)]) (wrap64 (x6_1 + 1))) else (none))) = some r := H
       have A7 := aA.mk A70
       clear A70
       by_cases c8 : t397 = true
       ·subst c8
        have H1 : (bA.l0 k1 a0 l1 x5_1 (wrap64 (x6_1 + 1))) = some r := by rw [if_pos rfl] at H; exact H
        clear H
        have H := H1
        clear H1
        have H' := aA.mk H
        clear H
        have p391 : 0 ≤ (x6_1 : Int) := of_decide_eq_true (by first | (with_reducible assumption) | assumption)
        have q391 : x6_1 < (l1.length : Int) := of_decide_eq_true (by first | (with_reducible assumption) | assumption)
        obtain ⟨ad391, A391_0, c391_0, e391, hx391_0, hx391_1, hx391_2, hx391_3, hl391_0, hi391_0⟩ := eJ (Kd.V_reads' HO_1.out).2.2 x6_1 p391 q391
        cases e391
        obtain ⟨ce391, hce391, hMe391, hcc391⟩ := Kd.V_get HO_1.out z61 x6_1 p391 (by first | exact q391 | exact of_decide_eq_true (by first | (with_reducible assumption) | assumption) | (have e_ := (Kd.V_reads' HO_1.out).1; omega))
        obtain ⟨ua391_0, uc391_0, rfl, ul391_0, ge391_0⟩ := eR hMe391
        have hv391_0 := hcc391 0 _ rfl
        rw [Nat.add_zero] at hv391_0
        replace hv391_0 := Option.some.inj (hv391_0.symm.trans hx391_0)
        injection hv391_0 with hva_ hvn_ hvc_
        rw [hva_] at ge391_0
        rw [hvc_] at ul391_0
        have HL391_0 := aA.mk (show Kd.V k85 85 _ w.heap.size _ _ ((aX l1 x6_1).f0) from Kd.V_mk ul391_0 ge391_0)
        clear hva_ hvn_ hvc_ ge391_0 ul391_0
        clear hcc391 hce391
        have HR391_0 := aA.mk hi391_0
        have HC391_0 := aA.mk hl391_0
        clear hi391_0 hl391_0
        replace p391 := eq_true p391
        replace q391 := eq_true q391
        have q9 : (a0 : Int) ≤ ((((aX l1 x6_1).f0).length : Int) : Int) := of_decide_eq_true (by first | (with_reducible assumption) | assumption)
        obtain ⟨i09, hi09, _, hsz9, _⟩ := info_parts gQ
        have hroom9 : ((aX l1 x6_1).f0).length ≤ c391_0 := HC391_0.out
        have hC9 : Kd.F k85 _ _ A391_0 ((aX l1 x6_1).f0).length ((aX l1 x6_1).f0) := (Kd.V_at (base := w.heap.size) HL391_0.out).2.2
        have q09 : (0 : Int) ≤ (a0 : Int) := of_decide_eq_true (by first | (with_reducible assumption) | assumption)
        have hcut9 := iD (P := Tryz.prog) 45 85 .i64 Tryz.underlying45 hi09 3 hsz9 A391_0 ((aX l1 x6_1).f0).length c391_0 a0 q09 q9
        have hr9 := Kd.F_cut (m := (a0 : Int).toNat) (c := c391_0) hC9 (by omega) hroom9
        obtain ⟨A9, hA9⟩ : ∃ A1, A1 = (if c391_0 = (a0 : Int).toNat then A391_0 else (A391_0 : Option Addr).map (·.add ((a0 : Int).toNat * 3))) := ⟨_, rfl⟩
        obtain ⟨c9, hc9⟩ : ∃ c1, c1 = c391_0 - (a0 : Int).toNat := ⟨_, rfl⟩
        have hy9 : y392.length = ((aX l1 x6_1).f0).length - (a0 : Int).toNat := (by rw [Ny392.out, List.length_drop] <;> omega)
        rw [show ((aX l1 x6_1).f0).drop (a0 : Int).toNat = y392 from Ny392.out.symm] at hr9
        replace hr9 : Kd.F k85 _ _ A9 y392.length y392 := (by rw [hA9]; exact hr9)
        rw [← hy9, ← hA9, ← hc9] at hcut9
        have HO396 := aA.mk (show Kd.V k85 85 _ w.heap.size _ (.slice A9 y392.length c9) y392 from Kd.V_mk (by rw [hy9, hc9]; exact Nat.sub_le_sub_right hroom9 _) hr9)
        have HC396 := aA.mk (show y392.length ≤ c9 from by rw [hy9, hc9]; exact Nat.sub_le_sub_right hroom9 _)
        clear hr9 hC9 hroom9 hi09 hsz9 hc9
        have KY9 := aA.mk hy9
        have KA9 := aA.mk hA9
        clear hy9 hA9
        replace q9 := eq_true q9
        obtain ⟨Ao10, co10, eo10⟩ := Kd.N_slice HO_5.out
        subst eo10
        go_wp2_with (first | ((with_reducible refine aZ (f := 61) rfl ?_); refine cH (some 21) rfl rfl Tryz.func61 (by kernel_rfl) rfl #[.slice Ao10 x5_1.length co10, .slice A9 y392.length c9] rfl (by (try simp only [List.map_toArray, List.map_cons, List.map_nil]); first | done | rfl | (simp only [List.length_drop, List.length_take]; rfl)) ?_; (with_reducible refine (bR.calls k1 _ _ x5_1 _ _ y392 true _ ?side1 ?side2 ?side3 ?side4 A7.out).mono ?_); (case side1 => repeat (first | exact (Kd.N_reads' HO_5.out).2.2 | (with_reducible refine Kd.C_alloc ?_ _) | (with_reducible refine Kd.C_drewN ?_ _) | (with_reducible refine Kd.C_drew ?_))); (case side2 => exact (Kd.N_reads' HO_5.out).2.1); (case side3 => repeat (first | exact (Kd.V_reads' HO396.out).2.2 | (with_reducible refine Kd.C_alloc ?_ _) | (with_reducible refine Kd.C_drewN ?_ _) | (with_reducible refine Kd.C_drew ?_))); (case side4 => exact (Kd.V_reads' HO396.out).2.1); rintro e w11 ⟨rfl, hb⟩; refine ⟨_, rfl, ?_⟩; have n0_ := aA.mk (Kd.V_below (by (with_reducible repeat (first | apply Kd.V_alloc | apply Kd.V_drewN | apply Kd.V_drew)); exact HO_1.out) hb); have n1_ := aA.mk (Kd.N_below (by (with_reducible repeat (first | apply Kd.N_alloc | apply Kd.N_drewN | apply Kd.N_drew)); exact HO_5.out) hb); have n2_ := aA.mk (Kd.V_below (by (with_reducible repeat (first | apply Kd.V_alloc | apply Kd.V_drewN | apply Kd.V_drew)); exact HL391_0.out) hb); have n3_ := aA.mk (Kd.V_below (by (with_reducible repeat (first | apply Kd.V_alloc | apply Kd.V_drewN | apply Kd.V_drew)); exact HO396.out) hb); have n4_ := aA.mk (Kd.C_below (by repeat (first | (with_reducible exact HR391_0.out) | (with_reducible refine Kd.C_alloc ?_ _) | (with_reducible refine Kd.C_drewN ?_ _) | (with_reducible refine Kd.C_drew ?_) | exact HR391_0.out)) hb); have n5_ := aA.mk (aV (by repeat (first | (with_reducible first | exact HB.out | apply aC | apply pw_below_drewN | apply aD) | exact HB.out)) hb); clear HO_1; clear HO_5; clear HL391_0; clear HO396; clear HR391_0; clear HB; have HO_1 := n0_; have HO_5 := n1_; have HL391_0 := n2_; have HO396 := n3_; have HR391_0 := n4_; have HB := n5_; clear n0_ n1_ n2_ n3_ n4_ n5_; (try clear hb); (try clear hb2); (try clear hk); (try clear hi)))
        go_roundg k1
        case measure => have := HK1.out; omega
        case rel => exact ⟨(x5_1), (wrap64 (x6_1 + 1)), (by first | rfl | (simp; done) | (simp [*]; done)), H', ⟨by have := HK1.out; omega⟩, ⟨by (with_reducible repeat (first | apply Kd.V_alloc | apply Kd.V_drewN | apply Kd.V_drew)); exact HO_1.out⟩, ⟨by (with_reducible repeat (first | apply Kd.N_alloc | apply Kd.N_drewN | apply Kd.N_drew)); exact HO_5.out⟩, ⟨by repeat (first | (with_reducible first | exact HB.out | apply aC | apply pw_below_drewN | apply aD) | exact HB.out)⟩⟩
       ·replace c8 := Bool.eq_false_iff.mpr c8
        subst c8
        have H1 : (if x5_1.length < 5864062014805 then (bA.l0 k1 a0 l1 (x5_1 ++ [(((aX l1 x6_1).f0).drop (a0 : Int).toNat)]) (wrap64 (x6_1 + 1))) else (none)) = some r := by rw [if_neg (show ¬ (false = true) by decide)] at H; exact H
        clear H
        have H := H1
        clear H1
        have c12b0 := eq_true (of_decide_eq_true (by first | (with_reducible assumption) | assumption) : 0 ≤ a0)
        have c13b0 := eq_true (of_decide_eq_true (by first | (with_reducible assumption) | assumption) : a0 ≤ (((aX l1 x6_1).f0).length : Int))
        obtain ⟨y399, hy399⟩ : ∃ y_ : List (S85), y_ = (((aX l1 x6_1).f0).drop (a0 : Int).toNat) := ⟨_, rfl⟩
        replace H : (if x5_1.length < 5864062014805 then (bA.l0 k1 a0 l1 (x5_1 ++ [y399]) (wrap64 (x6_1 + 1))) else (none)) = some r := by first | (rw [hy399]; with_reducible exact H) | (have H2_ := (Option.bind_some _ _).symm.trans H; rw [hy399]; with_reducible exact H2_) | (have H2_ := (Option.bind_some _ _).symm.trans H; with_reducible exact H2_) | with_reducible exact H | (rw [hy399]; exact H) | exact H
        have Ny399 := aA.mk hy399
        clear hy399
        by_cases c14 : x5_1.length < 5864062014805
        ·rw [if_pos c14] at H
         have LMc14 := aA.mk c14
         clear c14
         obtain ⟨y404, hy404⟩ : ∃ y_ : List (List (S85)), y_ = (x5_1 ++ [y399]) := ⟨_, rfl⟩
         replace H : (bA.l0 k1 a0 l1 y404 (wrap64 (x6_1 + 1))) = some r := by first | (rw [hy404]; with_reducible exact H) | (have H2_ := (Option.bind_some _ _).symm.trans H; rw [hy404]; with_reducible exact H2_) | (have H2_ := (Option.bind_some _ _).symm.trans H; with_reducible exact H2_) | with_reducible exact H | (rw [hy404]; exact H) | exact H
         have Ny404 := aA.mk hy404
         clear hy404
         have H' := aA.mk H
         clear H
         have p391 : 0 ≤ (x6_1 : Int) := of_decide_eq_true (by first | (with_reducible assumption) | assumption)
         have q391 : x6_1 < (l1.length : Int) := of_decide_eq_true (by first | (with_reducible assumption) | assumption)
         obtain ⟨ad391, A391_0, c391_0, e391, hx391_0, hx391_1, hx391_2, hx391_3, hl391_0, hi391_0⟩ := eJ (Kd.V_reads' HO_1.out).2.2 x6_1 p391 q391
         cases e391
         obtain ⟨ce391, hce391, hMe391, hcc391⟩ := Kd.V_get HO_1.out z61 x6_1 p391 (by first | exact q391 | exact of_decide_eq_true (by first | (with_reducible assumption) | assumption) | (have e_ := (Kd.V_reads' HO_1.out).1; omega))
         obtain ⟨ua391_0, uc391_0, rfl, ul391_0, ge391_0⟩ := eR hMe391
         have hv391_0 := hcc391 0 _ rfl
         rw [Nat.add_zero] at hv391_0
         replace hv391_0 := Option.some.inj (hv391_0.symm.trans hx391_0)
         injection hv391_0 with hva_ hvn_ hvc_
         rw [hva_] at ge391_0
         rw [hvc_] at ul391_0
         have HL391_0 := aA.mk (show Kd.V k85 85 _ w.heap.size _ _ ((aX l1 x6_1).f0) from Kd.V_mk ul391_0 ge391_0)
         clear hva_ hvn_ hvc_ ge391_0 ul391_0
         clear hcc391 hce391
         have HR391_0 := aA.mk hi391_0
         have HC391_0 := aA.mk hl391_0
         clear hi391_0 hl391_0
         replace p391 := eq_true p391
         replace q391 := eq_true q391
         have q15 : (a0 : Int) ≤ ((((aX l1 x6_1).f0).length : Int) : Int) := of_decide_eq_true (by first | (with_reducible assumption) | assumption)
         obtain ⟨i015, hi015, _, hsz15, _⟩ := info_parts gQ
         have hroom15 : ((aX l1 x6_1).f0).length ≤ c391_0 := HC391_0.out
         have hC15 : Kd.F k85 _ _ A391_0 ((aX l1 x6_1).f0).length ((aX l1 x6_1).f0) := (Kd.V_at (base := w.heap.size) HL391_0.out).2.2
         have q015 : (0 : Int) ≤ (a0 : Int) := of_decide_eq_true (by first | (with_reducible assumption) | assumption)
         have hcut15 := iD (P := Tryz.prog) 45 85 .i64 Tryz.underlying45 hi015 3 hsz15 A391_0 ((aX l1 x6_1).f0).length c391_0 a0 q015 q15
         have hr15 := Kd.F_cut (m := (a0 : Int).toNat) (c := c391_0) hC15 (by omega) hroom15
         obtain ⟨A15, hA15⟩ : ∃ A1, A1 = (if c391_0 = (a0 : Int).toNat then A391_0 else (A391_0 : Option Addr).map (·.add ((a0 : Int).toNat * 3))) := ⟨_, rfl⟩
         obtain ⟨c15, hc15⟩ : ∃ c1, c1 = c391_0 - (a0 : Int).toNat := ⟨_, rfl⟩
         have hy15 : y392.length = ((aX l1 x6_1).f0).length - (a0 : Int).toNat := (by rw [Ny392.out, List.length_drop] <;> omega)
         rw [show ((aX l1 x6_1).f0).drop (a0 : Int).toNat = y392 from Ny392.out.symm] at hr15
         replace hr15 : Kd.F k85 _ _ A15 y392.length y392 := (by rw [hA15]; exact hr15)
         rw [← hy15, ← hA15, ← hc15] at hcut15
         have HO396 := aA.mk (show Kd.V k85 85 _ w.heap.size _ (.slice A15 y392.length c15) y392 from Kd.V_mk (by rw [hy15, hc15]; exact Nat.sub_le_sub_right hroom15 _) hr15)
         have HC396 := aA.mk (show y392.length ≤ c15 from by rw [hy15, hc15]; exact Nat.sub_le_sub_right hroom15 _)
         clear hr15 hC15 hroom15 hi015 hsz15 hc15
         have KY15 := aA.mk hy15
         have KA15 := aA.mk hA15
         clear hy15 hA15
         replace q15 := eq_true q15
         obtain ⟨Ao16, co16, eo16⟩ := Kd.N_slice HO_5.out
         subst eo16
         go_wp2_with (first | ((with_reducible refine aZ (f := 61) rfl ?_); refine cH (some 21) rfl rfl Tryz.func61 (by kernel_rfl) rfl #[.slice Ao16 x5_1.length co16, .slice A15 y392.length c15] rfl (by (try simp only [List.map_toArray, List.map_cons, List.map_nil]); first | done | rfl | (simp only [List.length_drop, List.length_take]; rfl)) ?_; (with_reducible refine (bR.calls k1 _ _ x5_1 _ _ y392 false _ ?side1 ?side2 ?side3 ?side4 A7.out).mono ?_); (case side1 => repeat (first | exact (Kd.N_reads' HO_5.out).2.2 | (with_reducible refine Kd.C_alloc ?_ _) | (with_reducible refine Kd.C_drewN ?_ _) | (with_reducible refine Kd.C_drew ?_))); (case side2 => exact (Kd.N_reads' HO_5.out).2.1); (case side3 => repeat (first | exact (Kd.V_reads' HO396.out).2.2 | (with_reducible refine Kd.C_alloc ?_ _) | (with_reducible refine Kd.C_drewN ?_ _) | (with_reducible refine Kd.C_drew ?_))); (case side4 => exact (Kd.V_reads' HO396.out).2.1); rintro e w17 ⟨rfl, hb⟩; refine ⟨_, rfl, ?_⟩; have n0_ := aA.mk (Kd.V_below (by (with_reducible repeat (first | apply Kd.V_alloc | apply Kd.V_drewN | apply Kd.V_drew)); exact HO_1.out) hb); have n1_ := aA.mk (Kd.N_below (by (with_reducible repeat (first | apply Kd.N_alloc | apply Kd.N_drewN | apply Kd.N_drew)); exact HO_5.out) hb); have n2_ := aA.mk (Kd.V_below (by (with_reducible repeat (first | apply Kd.V_alloc | apply Kd.V_drewN | apply Kd.V_drew)); exact HL391_0.out) hb); have n3_ := aA.mk (Kd.V_below (by (with_reducible repeat (first | apply Kd.V_alloc | apply Kd.V_drewN | apply Kd.V_drew)); exact HO396.out) hb); have n4_ := aA.mk (Kd.C_below (by repeat (first | (with_reducible exact HR391_0.out) | (with_reducible refine Kd.C_alloc ?_ _) | (with_reducible refine Kd.C_drewN ?_ _) | (with_reducible refine Kd.C_drew ?_) | exact HR391_0.out)) hb); have n5_ := aA.mk (aV (by repeat (first | (with_reducible first | exact HB.out | apply aC | apply pw_below_drewN | apply aD) | exact HB.out)) hb); clear HO_1; clear HO_5; clear HL391_0; clear HO396; clear HR391_0; clear HB; have HO_1 := n0_; have HO_5 := n1_; have HL391_0 := n2_; have HO396 := n3_; have HR391_0 := n4_; have HB := n5_; clear n0_ n1_ n2_ n3_ n4_ n5_; (try clear hb); (try clear hb2); (try clear hk); (try clear hi); have p398 : 0 ≤ (x6_1 : Int) := of_decide_eq_true (by first | (with_reducible assumption) | assumption); have q398 : x6_1 < (l1.length : Int) := of_decide_eq_true (by first | (with_reducible assumption) | assumption); obtain ⟨ad398, A398_0, c398_0, e398, hx398_0, hx398_1, hx398_2, hx398_3, hl398_0, hi398_0⟩ := eJ (Kd.V_reads' HO_1.out).2.2 x6_1 p398 q398; obtain rfl : ad391 = ad398 := (by injection e398); obtain ⟨ce398, hce398, hMe398, hcc398⟩ := Kd.V_get HO_1.out z61 x6_1 p398 (by first | exact q398 | exact of_decide_eq_true (by first | (with_reducible assumption) | assumption) | (have e_ := (Kd.V_reads' HO_1.out).1; omega)); obtain ⟨ua398_0, uc398_0, rfl, ul398_0, ge398_0⟩ := eR hMe398; have hv398_0 := hcc398 0 _ rfl; rw [Nat.add_zero] at hv398_0; replace hv398_0 := Option.some.inj (hv398_0.symm.trans hx398_0); injection hv398_0 with hva_ hvn_ hvc_; rw [hva_] at ge398_0; rw [hvc_] at ul398_0; have HL398_0 := aA.mk (show Kd.V k85 85 _ w.heap.size _ _ ((aX l1 x6_1).f0) from Kd.V_mk ul398_0 ge398_0); clear hva_ hvn_ hvc_ ge398_0 ul398_0; clear hcc398 hce398; have HR398_0 := aA.mk hi398_0; have HC398_0 := aA.mk hl398_0; clear hi398_0 hl398_0; replace p398 := eq_true p398; replace q398 := eq_true q398; have q18 : (a0 : Int) ≤ ((((aX l1 x6_1).f0).length : Int) : Int) := of_decide_eq_true (by first | (with_reducible assumption) | assumption); obtain ⟨i018, hi018, _, hsz18, _⟩ := info_parts gQ; have hroom18 : ((aX l1 x6_1).f0).length ≤ c398_0 := HC398_0.out; have hC18 : Kd.F k85 _ _ A398_0 ((aX l1 x6_1).f0).length ((aX l1 x6_1).f0) := (Kd.V_at (base := w.heap.size) HL398_0.out).2.2; have q018 : (0 : Int) ≤ (a0 : Int) := of_decide_eq_true (by first | (with_reducible assumption) | assumption); have hcut18 := iD (P := Tryz.prog) 45 85 .i64 Tryz.underlying45 hi018 3 hsz18 A398_0 ((aX l1 x6_1).f0).length c398_0 a0 q018 q18; have hr18 := Kd.F_cut (m := (a0 : Int).toNat) (c := c398_0) hC18 (by omega) hroom18; obtain ⟨A18, hA18⟩ : ∃ A1, A1 = (if c398_0 = (a0 : Int).toNat then A398_0 else (A398_0 : Option Addr).map (·.add ((a0 : Int).toNat * 3))) := ⟨_, rfl⟩; obtain ⟨c18, hc18⟩ : ∃ c1, c1 = c398_0 - (a0 : Int).toNat := ⟨_, rfl⟩; have hy18 : y399.length = ((aX l1 x6_1).f0).length - (a0 : Int).toNat := (by rw [Ny399.out, List.length_drop] <;> omega); rw [show ((aX l1 x6_1).f0).drop (a0 : Int).toNat = y399 from Ny399.out.symm] at hr18; replace hr18 : Kd.F k85 _ _ A18 y399.length y399 := (by rw [hA18]; exact hr18); rw [← hy18, ← hA18, ← hc18] at hcut18; have HO403 := aA.mk (show Kd.V k85 85 _ w.heap.size _ (.slice A18 y399.length c18) y399 from Kd.V_mk (by rw [hy18, hc18]; exact Nat.sub_le_sub_right hroom18 _) hr18); have HC403 := aA.mk (show y399.length ≤ c18 from by rw [hy18, hc18]; exact Nat.sub_le_sub_right hroom18 _); clear hr18 hC18 hroom18 hi018 hsz18 hc18; have KY18 := aA.mk hy18; have KA18 := aA.mk hA18; clear hy18 hA18; replace q18 := eq_true q18) | ((with_reducible refine cI (b := .append) (xs := #[.tmp 23, .tmp 31]) rfl ?_); at_builtin; refine Kd.N_append (Kd.slice 85 k85) (w0 := w) w.heap.size rfl (.tmp 23) (.tmp 31) 37 45 (.slice none 0 0) 24 rfl Tryz.underlying37 oD rfl (by decide) (by omega) (.slice Ao16 x5_1.length co16) x5_1 y399 [.slice A18 y399.length c18] (fun k_ => (P1_ k_ ∨ w.heap.size ≤ k_)) (fun k_ => ((fun k_ => (P1_ k_ ∨ w.heap.size ≤ k_))) k_ ∧ some k_ ≠ (.slice Ao16 x5_1.length co16 : Value).ownBlock) rfl rfl ?aP (fun _ hk => hk) ?aF ?aO ?aB ?aS ?aL ?_; (case aP => exact (Kd.FK_slice_mk (Kd.V_reads' (Kd.V_mono (ok' := (fun k_ => ((fun k_ => (P1_ k_ ∨ w.heap.size ≤ k_))) k_ ∧ some k_ ≠ (.slice Ao16 x5_1.length co16 : Value).ownBlock)) (HO403.out) (fun k_ hk => ⟨hk.1, hk.2⟩))).2.1 (Kd.V_F (Kd.V_mono (ok' := (fun k_ => ((fun k_ => (P1_ k_ ∨ w.heap.size ≤ k_))) k_ ∧ some k_ ≠ (.slice Ao16 x5_1.length co16 : Value).ownBlock)) (HO403.out) (fun k_ hk => ⟨hk.1, hk.2⟩))))); (case aB => exact (by repeat (first | (with_reducible first | exact HB.out | apply aC | apply pw_below_drewN | apply aD) | exact HB.out))); (case aF => exact (fun k_ hk => (.inr (Nat.le_trans (aM (by repeat (first | (with_reducible first | exact HB.out | apply aC | apply pw_below_drewN | apply aD) | exact HB.out))) hk)))); (case aO => exact (by (with_reducible repeat (first | apply Kd.N_alloc | apply Kd.N_drewN | apply Kd.N_drew)); exact HO_5.out)); (case aS => exact (aM (by repeat (first | (with_reducible first | exact HB.out | apply aC | apply pw_below_drewN | apply aD) | exact HB.out)))); (case aL => have := LMc14.out; omega); intro v405 w19 ho hb hg hat; rw [← Ny404.out] at ho; have n0_ := aA.mk (Kd.V_afterv (ok := (fun k_ => (P1_ k_ ∨ w.heap.size ≤ k_))) (by (with_reducible repeat (first | apply Kd.V_alloc | apply Kd.V_drewN | apply Kd.V_drew)); exact HO_1.out) hg hat); have n1_ := aA.mk (Kd.V_afterv (ok := (fun k_ => (P1_ k_ ∨ w.heap.size ≤ k_))) (by (with_reducible repeat (first | apply Kd.V_alloc | apply Kd.V_drewN | apply Kd.V_drew)); exact HL391_0.out) hg hat); have n2_ := aA.mk (Kd.V_afterv (ok := (fun k_ => (P1_ k_ ∨ w.heap.size ≤ k_))) (by (with_reducible repeat (first | apply Kd.V_alloc | apply Kd.V_drewN | apply Kd.V_drew)); exact HO396.out) hg hat); have n3_ := aA.mk (Kd.V_afterv (ok := (fun k_ => (P1_ k_ ∨ w.heap.size ≤ k_))) (by (with_reducible repeat (first | apply Kd.V_alloc | apply Kd.V_drewN | apply Kd.V_drew)); exact HL398_0.out) hg hat); have n4_ := aA.mk (Kd.V_afterv (ok := (fun k_ => (P1_ k_ ∨ w.heap.size ≤ k_))) (by (with_reducible repeat (first | apply Kd.V_alloc | apply Kd.V_drewN | apply Kd.V_drew)); exact HO403.out) hg hat); have n5_ := aA.mk (hb); have n6_ := aA.mk (ho); clear HO_1; clear HL391_0; clear HO396; clear HL398_0; clear HO403; clear HB; clear HO_5; have HO_1 := n0_; have HL391_0 := n1_; have HO396 := n2_; have HL398_0 := n3_; have HO403 := n4_; have HB := n5_; have HO406 := n6_; clear n0_ n1_ n2_ n3_ n4_ n5_ n6_; clear ho hb hg hat))
         go_roundg k1
         case measure => have := HK1.out; omega
         case rel => exact ⟨(y404), (wrap64 (x6_1 + 1)), (by first | rfl | (simp; done) | (simp [*]; done)), H', ⟨by have := HK1.out; omega⟩, ⟨by (with_reducible repeat (first | apply Kd.V_alloc | apply Kd.V_drewN | apply Kd.V_drew)); exact HO_1.out⟩, ⟨by (with_reducible repeat (first | apply Kd.N_alloc | apply Kd.N_drewN | apply Kd.N_drew)); exact HO406.out⟩, ⟨by repeat (first | (with_reducible first | exact HB.out | apply aC | apply pw_below_drewN | apply aD) | exact HB.out)⟩⟩
        ·rw [if_neg c14] at H
         exact absurd H (by simp)
      ·rw [if_neg c6] at H
       exact absurd H (by simp)
     ·rw [if_neg c5] at H
      exact absurd H (by simp)
    ·rw [if_neg c4] at H
     exact absurd H (by simp)
   ·rw [if_neg c3] at H
    have c3b0 : decide (x6_1 < (l1.length : Int)) = false := decide_eq_false c3
    clear c3
    obtain rfl := Option.some.inj H
    go_wp2
    go_ret
    exact ⟨_, by first | rfl | (simp [aN, aQ] <;> rfl) | (simp [*, aN, aQ] <;> rfl), by (with_reducible repeat (first | apply Kd.N_alloc | apply Kd.N_drewN | apply Kd.N_drew)); exact HO_5.out, by repeat (first | (with_reducible first | exact HB.out | apply aC | apply pw_below_drewN | apply aD) | exact HB.out)⟩
end Go.Proofs.YtpflmgbpjhbmnaaGreat.B
end
section
namespace Go.Proofs.YtpflmgbpjhbmnaaGreat.B
open Go.RowKit Go.Proofs.YtpflmgbpjhbmnaaGreatW.PrintWords Go.Proofs.YtpflmgbpjhbmnaaGreatW.PrintLast Go.Proofs.YtpflmgbpjhbmnaaGreatW.PrintMore
attribute [local go_sem] Go.Proofs.YtpflmgbpjhbmnaaGreat.str_gtr bZ cA cJ cK bT bU cB cC   -- for this text's walks alone
set_option linter.unusedVariables false
set_option linter.unusedSimpArgs false
def aW.l0 : Nat → List (List (S85)) → List (List (S85)) → Int → Option (Bool)
 | 0, _, _, _ => none
 | k + 1, x0, x1, x5 => if x5 < (x0.length : Int) then (if 0 ≤ x5 then (if x5 < (x1.length : Int) then ((bM.f k (dH x0 x5) (dH x1 x5)).bind fun t379 => (if t379 = true then (aW.l0 k x0 x1 (wrap64 (x5 + 1))) else (some false))) else (none)) else (none)) else (some true)
def aW.f (k : Nat) (l0 : List (List (S85))) (l1 : List (List (S85))) : Option (Bool) := if (l0.length : Int) = (l1.length : Int) then (aW.l0 k l0 l1 0) else (some false)
theorem aW.mono_l : ∀ k, (∀ y0 y1 y2, LeO (aW.l0 k y0 y1 y2) (aW.l0 (k + 1) y0 y1 y2))
 | 0 => fun _ _ _ r h => by simp [aW.l0] at h
 | k + 1 => by
  have ih0 := aW.mono_l k
  ·intro y0 y1 y2
   unfold aW.l0
   repeat' first
   | (with_reducible exact ih0 _ _ _)
   | (with_reducible exact bM.mono _ _ _)
   | (with_reducible exact LeO.refl _)
   | (with_reducible exact LeO.none _)
   | (with_reducible refine LeO.ite ?_ ?_)
   | (with_reducible refine LeO.bind ?_ (fun _ => ?_))
   | exact ih0 _ _ _
   | exact bM.mono _ _ _
   | exact LeO.none _
   | refine LeO.ite ?_ ?_
   | refine LeO.bind ?_ (fun _ => ?_)
theorem aW.mono : ∀ a0 a1 k, LeO (aW.f k a0 a1) (aW.f (k + 1) a0 a1) := by
 intro a0 a1 k
 have ih0 := aW.mono_l k
 unfold aW.f
 repeat' first
   | (with_reducible exact ih0 _ _ _)
   | (with_reducible exact bM.mono _ _ _)
   | (with_reducible exact LeO.refl _)
   | (with_reducible exact LeO.none _)
   | (with_reducible refine LeO.ite ?_ ?_)
   | (with_reducible refine LeO.bind ?_ (fun _ => ?_))
   | exact ih0 _ _ _
   | exact bM.mono _ _ _
   | exact LeO.none _
   | refine LeO.ite ?_ ?_
   | refine LeO.bind ?_ (fun _ => ?_)
def aW.T6 : Bool × List (List Nat × List Nat) := (true, [([], []), ([], []), ([0, 1], [0, 1]), ([2], [2]), ([], []), ([], []), ([4, 5], [4, 5]), ([6], [6]), ([3, 7], [3, 7]), ([8], [8])])
def aW.B6 : List Nat := [0, 0, 3, 7, 0, 0, 48, 112, 255, 511]
theorem aW.tab6 : rtab .any (wJ Tryz.f21 6) = aW.T6 := by kernel_rfl
theorem aW.bits6 : gV aW.T6.2 aW.B6 = true := by kernel_rfl
set_option maxHeartbeats 8000000 in
set_option maxRecDepth 100000 in
theorem aW.calls (k : Nat) (A0 : Option Addr) (c0 : Nat) (l0 : List (List (S85))) (A1 : Option Addr) (c1 : Nat) (l1 : List (List (S85))) (r : Bool) (w : World) (hr0 : Kd.C (Kd.slice 85 k85) w A0 l0.length l0) (hc0 : l0.length ≤ c0) (hr1 : Kd.C (Kd.slice 85 k85) w A1 l1.length l1) (hc1 : l1.length ≤ c1) (h : aW.f k l0 l1 = some r) :
  Calls Tryz.prog 21 #[.slice A0 l0.length c0, .slice A1 l1.length c1] w fun e w' => e = .returned (.bool r) ∧ Below w.heap.size w w' := by
 have HR0 := aA.mk hr0
 have HC0 := aA.mk hc0
 clear hr0 hc0
 have HR1 := aA.mk hr1
 have HC1 := aA.mk hc1
 clear hr1 hc1
 have HB := aA.mk (Below.refl w.heap.size w)
 have H : (if (l0.length : Int) = (l1.length : Int) then (aW.l0 k l0 l1 0) else (some false)) = some r := h
 clear h
 by_cases c3 : (l0.length : Int) = (l1.length : Int)
 ·rw [if_pos c3] at H
  have c3b0 : ((l0.length : Int) == (l1.length : Int)) = true := beq_iff_eq.mpr c3
  have c3b1 : ((l0.length : Int) != (l1.length : Int)) = false := bne_eq_false_iff_eq.mpr c3
  have c3b2 : (l0.length == l1.length) = true := by first | simpa using c3 | (simp at c3 ⊢; omega)
  clear c3
  have H' := aA.mk H
  clear H
  go_enter Tryz.func21, Tryz.ntmps21
  go_wp2
  go_loopg [5] k (fun kq v5 w' => ∃ (x5_1 : Int), v5 = .int .i64 x5_1 ∧ aA (aW.l0 kq l0 l1 x5_1 = some r) ∧ aA (kq ≤ k) ∧ aA (Below w.heap.size w w'))
  case atStart => exact ⟨(0), (by first | rfl | (simp; done) | (simp [*]; done)), H', ⟨Nat.le_refl _⟩, ⟨by repeat (first | (with_reducible first | exact HB.out | apply aC | apply pw_below_drewN | apply aD) | exact HB.out)⟩⟩
  case round =>
   clear H'
   try clear c1
   try clear c2
   try clear p2
   try clear c3
   try clear c3b0
   try clear c3b1
   try clear c3b2
   obtain ⟨x5_1, rfl, HA, HK1, HB⟩ := hrel
   cases gk with
   | zero => exact absurd HA.out (by simp [aW.l0])
   | succ k1 =>
    have H := HA.out
    clear HA
    simp only [aW.l0] at H
    by_cases c4 : x5_1 < (l0.length : Int)
    ·rw [if_pos c4] at H
     have c4b0 : decide (x5_1 < (l0.length : Int)) = true := decide_eq_true c4
     clear c4
     by_cases c5 : 0 ≤ x5_1
     ·rw [if_pos c5] at H
      have c5b0 : decide (0 ≤ x5_1) = true := decide_eq_true c5
      clear c5
      by_cases c6 : x5_1 < (l1.length : Int)
      ·rw [if_pos c6] at H
       have c6b0 : decide (x5_1 < (l1.length : Int)) = true := decide_eq_true c6
       clear c6
       replace H := Option.bind_eq_some_iff.mp H
       obtain ⟨t379, A70, H⟩ := H
       replace H : (if t379 = true then (aW.l0 k1 l0 l1 (wrap64 (x5_1 + 1))) else (some false)) = some r := H
       have A7 := aA.mk A70
       clear A70
       by_cases c8 : t379 = true
       ·subst c8
        have H1 : (aW.l0 k1 l0 l1 (wrap64 (x5_1 + 1))) = some r := by rw [if_pos rfl] at H; exact H
        clear H
        have H := H1
        clear H1
        have H' := aA.mk H
        clear H
        try go_wp2
        have n0_ := aA.mk (aD HB.out)
        clear HB
        have HB := n0_
        clear n0_
        have p377 : 0 ≤ (x5_1 : Int) := of_decide_eq_true (by first | (with_reducible assumption) | assumption)
        have q377 : x5_1 < (l0.length : Int) := of_decide_eq_true (by first | (with_reducible assumption) | assumption)
        obtain ⟨ad377, A377_0, c377_0, e377, hx377_0, hl377_0, hi377_0⟩ := jL HR0.out x5_1 p377 q377
        have hw377_0 := hx377_0
        cases e377
        replace hx377_0 := (HB.out.cell (World.block_lt_of_cell? w _ hx377_0)).trans hx377_0
        have HR377_0 := aA.mk hi377_0
        have HC377_0 := aA.mk hl377_0
        clear hi377_0 hl377_0
        replace p377 := eq_true p377
        replace q377 := eq_true q377
        have p378 : 0 ≤ (x5_1 : Int) := of_decide_eq_true (by first | (with_reducible assumption) | assumption)
        have q378 : x5_1 < (l1.length : Int) := of_decide_eq_true (by first | (with_reducible assumption) | assumption)
        obtain ⟨ad378, A378_0, c378_0, e378, hx378_0, hl378_0, hi378_0⟩ := jL HR1.out x5_1 p378 q378
        have hw378_0 := hx378_0
        cases e378
        replace hx378_0 := (HB.out.cell (World.block_lt_of_cell? w _ hx378_0)).trans hx378_0
        have HR378_0 := aA.mk hi378_0
        have HC378_0 := aA.mk hl378_0
        clear hi378_0 hl378_0
        replace p378 := eq_true p378
        replace q378 := eq_true q378
        refine jX (n := 10) (S := fun w' => w'.cell? (ad377.add (x5_1).toNat) = some (.slice A377_0 (dH l0 x5_1).length c377_0) ∧ w'.cell? (ad378.add (x5_1).toNat) = some (.slice A378_0 (dH l1 x5_1).length c378_0)) (ds := []) #[false, false, false, false, false, false, false, false, false, false] (by kernel_rfl) rfl rfl ⟨((HB.out.cell (World.block_lt_of_cell? w _ hw377_0)).trans hw377_0), ((HB.out.cell (World.block_lt_of_cell? w _ hw378_0)).trans hw378_0)⟩ (fun hHeld => ?_); refine fY aW.tab6 aW.bits6 (fun HT_ HW_ => ?_)
        generalize wr.drew = w9 at HB HR377_0 HR378_0 hx377_0 hx378_0 hHeld ⊢
        refine dJ (i := 0) (N := some 17) (v := ?_) (a' := ?_) #[true, false, false, false, false, false, false, false, false, false] rfl rfl (cV HT_.out (by kernel_rfl)) (fun _ _ _ h => h) (Or.inl ⟨by rfl, ?_⟩) ?_ ?_
        rotate_left
        ·intro w'
         go_simp
         with_reducible rfl
        rotate_left
        ·simp only [Act.put, List.setIfInBounds_toArray, List.set_cons_zero, List.set_cons_succ, cN, cO]
         rfl
        refine dJ (i := 1) (N := some 18) (v := ?_) (a' := ?_) #[true, true, false, false, false, false, false, false, false, false] rfl rfl (cV HT_.out (by kernel_rfl)) (fun _ _ _ h => h) (Or.inl ⟨by rfl, ?_⟩) ?_ ?_
        rotate_left
        ·intro w'
         go_simp
         with_reducible rfl
        rotate_left
        ·simp only [Act.put, List.setIfInBounds_toArray, List.set_cons_zero, List.set_cons_succ, cN, cO]
         rfl
        refine dJ (i := 2) (N := some 19) (v := ?_) (a' := ?_) #[true, true, true, false, false, false, false, false, false, false] rfl rfl (cV HT_.out (by kernel_rfl)) (fun _ _ _ h => h) (Or.inl ⟨by rfl, ?_⟩) ?_ ?_
        rotate_left
        ·intro w'
         go_simp
         with_reducible rfl
        rotate_left
        ·simp only [Act.put, List.setIfInBounds_toArray, List.set_cons_zero, List.set_cons_succ, cN, cO]
         rfl
        refine dJ (i := 4) (N := some 21) (v := ?_) (a' := ?_) #[true, true, true, false, true, false, false, false, false, false] rfl rfl (cV HT_.out (by kernel_rfl)) (fun _ _ _ h => h) (Or.inl ⟨by rfl, ?_⟩) ?_ ?_
        rotate_left
        ·intro w'
         go_simp
         with_reducible rfl
        rotate_left
        ·simp only [Act.put, List.setIfInBounds_toArray, List.set_cons_zero, List.set_cons_succ, cN, cO]
         rfl
        refine dJ (i := 5) (N := some 22) (v := ?_) (a' := ?_) #[true, true, true, false, true, true, false, false, false, false] rfl rfl (cV HT_.out (by kernel_rfl)) (fun _ _ _ h => h) (Or.inl ⟨by rfl, ?_⟩) ?_ ?_
        rotate_left
        ·intro w'
         go_simp
         with_reducible rfl
        rotate_left
        ·simp only [Act.put, List.setIfInBounds_toArray, List.set_cons_zero, List.set_cons_succ, cN, cO]
         rfl
        refine dJ (i := 6) (N := some 23) (v := ?_) (a' := ?_) #[true, true, true, false, true, true, true, false, false, false] rfl rfl (cV HT_.out (by kernel_rfl)) (fun _ _ _ h => h) (Or.inl ⟨by rfl, ?_⟩) ?_ ?_
        rotate_left
        ·intro w'
         go_simp
         with_reducible rfl
        rotate_left
        ·simp only [Act.put, List.setIfInBounds_toArray, List.set_cons_zero, List.set_cons_succ, cN, cO]
         rfl
        refine take_ (i := 3) (N := some 20) (v := ?_) (a' := ?_) #[true, true, true, true, true, true, true, false, false, false] rfl rfl (eP HT_.out HW_.out (by kernel_rfl)) (fun _ _ _ h => h) (Or.inl ⟨by rfl, ?_⟩) hHeld ?_ ?_
        rotate_left
        ·rintro w' ⟨s0, s1⟩
         go_simp
         with_reducible rfl
        rotate_left
        ·simp only [Act.put, List.setIfInBounds_toArray, List.set_cons_zero, List.set_cons_succ, cN, cO]
         rfl
        refine take_ (i := 7) (N := some 24) (v := ?_) (a' := ?_) #[true, true, true, true, true, true, true, true, false, false] rfl rfl (eP HT_.out HW_.out (by kernel_rfl)) (fun _ _ _ h => h) (Or.inl ⟨by rfl, ?_⟩) hHeld ?_ ?_
        rotate_left
        ·rintro w' ⟨s0, s1⟩
         go_simp
         with_reducible rfl
        rotate_left
        ·simp only [Act.put, List.setIfInBounds_toArray, List.set_cons_zero, List.set_cons_succ, cN, cO]
         rfl
        refine pL (i := 8) (N := some 25) #[true, true, true, true, true, true, true, true, true, false] rfl rfl (iI HT_.out (by kernel_rfl)) (by decide) (fun K hK => ?_)
        refine kB Tryz.func35 (by kernel_rfl) rfl #[.slice A377_0 (dH l0 x5_1).length c377_0, .slice A378_0 (dH l1 x5_1).length c378_0] (by rfl) rfl rfl (by (try simp only [List.map_toArray, List.map_cons, List.map_nil]); first | done | rfl | (simp only [List.length_drop, List.length_take]; rfl)) ?_
        with_reducible refine (bM.calls k1 _ _ (dH l0 x5_1) _ _ (dH l1 x5_1) true _ ?side1 ?side2 ?side3 ?side4 A7.out).mono ?_
        (case side1 => repeat (first | exact (Kd.C_below HR377_0.out HB.out) | (with_reducible refine Kd.C_alloc ?_ _) | (with_reducible refine Kd.C_drewN ?_ _) | (with_reducible refine Kd.C_drew ?_)))
        (case side2 => exact HC377_0.out)
        (case side3 => repeat (first | exact (Kd.C_below HR378_0.out HB.out) | (with_reducible refine Kd.C_alloc ?_ _) | (with_reducible refine Kd.C_drewN ?_ _) | (with_reducible refine Kd.C_drew ?_)))
        (case side4 => exact HC378_0.out)
        rintro e w10 ⟨rfl, hb⟩
        refine ⟨_, rfl, ?_⟩
        have n0_ := aA.mk (aV (by repeat (first | (with_reducible first | exact HB.out | apply aC | apply pw_below_drewN | apply aD) | exact HB.out)) hb)
        clear HB
        have HB := n0_
        clear n0_
        (try clear hb)
        (try clear hb2)
        (try clear hk)
        (try clear hi)
        refine hK.out _ _ ⟨((HB.out.cell (World.block_lt_of_cell? w _ hw377_0)).trans hw377_0), ((HB.out.cell (World.block_lt_of_cell? w _ hw378_0)).trans hw378_0)⟩ (fun hHeld => ?_)
        clear hK K
        refine gG (a' := ?_) ?_ ?_
        rotate_left
        ·show Act.put _ (some 25) _ = _
         simp only [Act.put, List.setIfInBounds_toArray, List.set_cons_zero, List.set_cons_succ, cN, cO]
         rfl
        refine dJ (i := 9) (N := some 26) (v := ?_) (a' := ?_) #[true, true, true, true, true, true, true, true, true, true] rfl rfl (cV HT_.out (by kernel_rfl)) (fun _ _ _ h => h) (Or.inl ⟨by rfl, ?_⟩) ?_ ?_
        rotate_left
        ·intro w'
         go_simp
         with_reducible rfl
        rotate_left
        ·simp only [Act.put, List.setIfInBounds_toArray, List.set_cons_zero, List.set_cons_succ, cN, cO]
         rfl
        refine oA (jJ HT_.out (by kernel_rfl)) ?_
        try go_wp2
        go_roundg k1
        case measure => have := HK1.out; omega
        case rel => exact ⟨(wrap64 (x5_1 + 1)), (by first | rfl | (simp; done) | (simp [*]; done)), H', ⟨by have := HK1.out; omega⟩, ⟨by repeat (first | (with_reducible first | exact HB.out | apply aC | apply pw_below_drewN | apply aD) | exact HB.out)⟩⟩
       ·replace c8 := Bool.eq_false_iff.mpr c8
        subst c8
        have H1 : (some false) = some r := by rw [if_neg (show ¬ (false = true) by decide)] at H; exact H
        clear H
        have H := H1
        clear H1
        obtain rfl := Option.some.inj H
        try go_wp2
        have n0_ := aA.mk (aD HB.out)
        clear HB
        have HB := n0_
        clear n0_
        have p377 : 0 ≤ (x5_1 : Int) := of_decide_eq_true (by first | (with_reducible assumption) | assumption)
        have q377 : x5_1 < (l0.length : Int) := of_decide_eq_true (by first | (with_reducible assumption) | assumption)
        obtain ⟨ad377, A377_0, c377_0, e377, hx377_0, hl377_0, hi377_0⟩ := jL HR0.out x5_1 p377 q377
        have hw377_0 := hx377_0
        cases e377
        replace hx377_0 := (HB.out.cell (World.block_lt_of_cell? w _ hx377_0)).trans hx377_0
        have HR377_0 := aA.mk hi377_0
        have HC377_0 := aA.mk hl377_0
        clear hi377_0 hl377_0
        replace p377 := eq_true p377
        replace q377 := eq_true q377
        have p378 : 0 ≤ (x5_1 : Int) := of_decide_eq_true (by first | (with_reducible assumption) | assumption)
        have q378 : x5_1 < (l1.length : Int) := of_decide_eq_true (by first | (with_reducible assumption) | assumption)
        obtain ⟨ad378, A378_0, c378_0, e378, hx378_0, hl378_0, hi378_0⟩ := jL HR1.out x5_1 p378 q378
        have hw378_0 := hx378_0
        cases e378
        replace hx378_0 := (HB.out.cell (World.block_lt_of_cell? w _ hx378_0)).trans hx378_0
        have HR378_0 := aA.mk hi378_0
        have HC378_0 := aA.mk hl378_0
        clear hi378_0 hl378_0
        replace p378 := eq_true p378
        replace q378 := eq_true q378
        refine jX (n := 10) (S := fun w' => w'.cell? (ad377.add (x5_1).toNat) = some (.slice A377_0 (dH l0 x5_1).length c377_0) ∧ w'.cell? (ad378.add (x5_1).toNat) = some (.slice A378_0 (dH l1 x5_1).length c378_0)) (ds := []) #[false, false, false, false, false, false, false, false, false, false] (by kernel_rfl) rfl rfl ⟨((HB.out.cell (World.block_lt_of_cell? w _ hw377_0)).trans hw377_0), ((HB.out.cell (World.block_lt_of_cell? w _ hw378_0)).trans hw378_0)⟩ (fun hHeld => ?_); refine fY aW.tab6 aW.bits6 (fun HT_ HW_ => ?_)
        generalize wr.drew = w11 at HB HR377_0 HR378_0 hx377_0 hx378_0 hHeld ⊢
        refine dJ (i := 0) (N := some 17) (v := ?_) (a' := ?_) #[true, false, false, false, false, false, false, false, false, false] rfl rfl (cV HT_.out (by kernel_rfl)) (fun _ _ _ h => h) (Or.inl ⟨by rfl, ?_⟩) ?_ ?_
        rotate_left
        ·intro w'
         go_simp
         with_reducible rfl
        rotate_left
        ·simp only [Act.put, List.setIfInBounds_toArray, List.set_cons_zero, List.set_cons_succ, cN, cO]
         rfl
        refine dJ (i := 1) (N := some 18) (v := ?_) (a' := ?_) #[true, true, false, false, false, false, false, false, false, false] rfl rfl (cV HT_.out (by kernel_rfl)) (fun _ _ _ h => h) (Or.inl ⟨by rfl, ?_⟩) ?_ ?_
        rotate_left
        ·intro w'
         go_simp
         with_reducible rfl
        rotate_left
        ·simp only [Act.put, List.setIfInBounds_toArray, List.set_cons_zero, List.set_cons_succ, cN, cO]
         rfl
        refine dJ (i := 2) (N := some 19) (v := ?_) (a' := ?_) #[true, true, true, false, false, false, false, false, false, false] rfl rfl (cV HT_.out (by kernel_rfl)) (fun _ _ _ h => h) (Or.inl ⟨by rfl, ?_⟩) ?_ ?_
        rotate_left
        ·intro w'
         go_simp
         with_reducible rfl
        rotate_left
        ·simp only [Act.put, List.setIfInBounds_toArray, List.set_cons_zero, List.set_cons_succ, cN, cO]
         rfl
        refine dJ (i := 4) (N := some 21) (v := ?_) (a' := ?_) #[true, true, true, false, true, false, false, false, false, false] rfl rfl (cV HT_.out (by kernel_rfl)) (fun _ _ _ h => h) (Or.inl ⟨by rfl, ?_⟩) ?_ ?_
        rotate_left
        ·intro w'
         go_simp
         with_reducible rfl
        rotate_left
        ·simp only [Act.put, List.setIfInBounds_toArray, List.set_cons_zero, List.set_cons_succ, cN, cO]
         rfl
        refine dJ (i := 5) (N := some 22) (v := ?_) (a' := ?_) #[true, true, true, false, true, true, false, false, false, false] rfl rfl (cV HT_.out (by kernel_rfl)) (fun _ _ _ h => h) (Or.inl ⟨by rfl, ?_⟩) ?_ ?_
        rotate_left
        ·intro w'
         go_simp
         with_reducible rfl
        rotate_left
        ·simp only [Act.put, List.setIfInBounds_toArray, List.set_cons_zero, List.set_cons_succ, cN, cO]
         rfl
        refine dJ (i := 6) (N := some 23) (v := ?_) (a' := ?_) #[true, true, true, false, true, true, true, false, false, false] rfl rfl (cV HT_.out (by kernel_rfl)) (fun _ _ _ h => h) (Or.inl ⟨by rfl, ?_⟩) ?_ ?_
        rotate_left
        ·intro w'
         go_simp
         with_reducible rfl
        rotate_left
        ·simp only [Act.put, List.setIfInBounds_toArray, List.set_cons_zero, List.set_cons_succ, cN, cO]
         rfl
        refine take_ (i := 3) (N := some 20) (v := ?_) (a' := ?_) #[true, true, true, true, true, true, true, false, false, false] rfl rfl (eP HT_.out HW_.out (by kernel_rfl)) (fun _ _ _ h => h) (Or.inl ⟨by rfl, ?_⟩) hHeld ?_ ?_
        rotate_left
        ·rintro w' ⟨s0, s1⟩
         go_simp
         with_reducible rfl
        rotate_left
        ·simp only [Act.put, List.setIfInBounds_toArray, List.set_cons_zero, List.set_cons_succ, cN, cO]
         rfl
        refine take_ (i := 7) (N := some 24) (v := ?_) (a' := ?_) #[true, true, true, true, true, true, true, true, false, false] rfl rfl (eP HT_.out HW_.out (by kernel_rfl)) (fun _ _ _ h => h) (Or.inl ⟨by rfl, ?_⟩) hHeld ?_ ?_
        rotate_left
        ·rintro w' ⟨s0, s1⟩
         go_simp
         with_reducible rfl
        rotate_left
        ·simp only [Act.put, List.setIfInBounds_toArray, List.set_cons_zero, List.set_cons_succ, cN, cO]
         rfl
        refine pL (i := 8) (N := some 25) #[true, true, true, true, true, true, true, true, true, false] rfl rfl (iI HT_.out (by kernel_rfl)) (by decide) (fun K hK => ?_)
        refine kB Tryz.func35 (by kernel_rfl) rfl #[.slice A377_0 (dH l0 x5_1).length c377_0, .slice A378_0 (dH l1 x5_1).length c378_0] (by rfl) rfl rfl (by (try simp only [List.map_toArray, List.map_cons, List.map_nil]); first | done | rfl | (simp only [List.length_drop, List.length_take]; rfl)) ?_
        with_reducible refine (bM.calls k1 _ _ (dH l0 x5_1) _ _ (dH l1 x5_1) false _ ?side1 ?side2 ?side3 ?side4 A7.out).mono ?_
        (case side1 => repeat (first | exact (Kd.C_below HR377_0.out HB.out) | (with_reducible refine Kd.C_alloc ?_ _) | (with_reducible refine Kd.C_drewN ?_ _) | (with_reducible refine Kd.C_drew ?_)))
        (case side2 => exact HC377_0.out)
        (case side3 => repeat (first | exact (Kd.C_below HR378_0.out HB.out) | (with_reducible refine Kd.C_alloc ?_ _) | (with_reducible refine Kd.C_drewN ?_ _) | (with_reducible refine Kd.C_drew ?_)))
        (case side4 => exact HC378_0.out)
        rintro e w12 ⟨rfl, hb⟩
        refine ⟨_, rfl, ?_⟩
        have n0_ := aA.mk (aV (by repeat (first | (with_reducible first | exact HB.out | apply aC | apply pw_below_drewN | apply aD) | exact HB.out)) hb)
        clear HB
        have HB := n0_
        clear n0_
        (try clear hb)
        (try clear hb2)
        (try clear hk)
        (try clear hi)
        refine hK.out _ _ ⟨((HB.out.cell (World.block_lt_of_cell? w _ hw377_0)).trans hw377_0), ((HB.out.cell (World.block_lt_of_cell? w _ hw378_0)).trans hw378_0)⟩ (fun hHeld => ?_)
        clear hK K
        refine gG (a' := ?_) ?_ ?_
        rotate_left
        ·show Act.put _ (some 25) _ = _
         simp only [Act.put, List.setIfInBounds_toArray, List.set_cons_zero, List.set_cons_succ, cN, cO]
         rfl
        refine dJ (i := 9) (N := some 26) (v := ?_) (a' := ?_) #[true, true, true, true, true, true, true, true, true, true] rfl rfl (cV HT_.out (by kernel_rfl)) (fun _ _ _ h => h) (Or.inl ⟨by rfl, ?_⟩) ?_ ?_
        rotate_left
        ·intro w'
         go_simp
         with_reducible rfl
        rotate_left
        ·simp only [Act.put, List.setIfInBounds_toArray, List.set_cons_zero, List.set_cons_succ, cN, cO]
         rfl
        refine oA (jJ HT_.out (by kernel_rfl)) ?_
        try go_wp2
        go_ret
        exact ⟨by first | rfl | (simp [aN, aQ] <;> rfl) | (simp [*, aN, aQ] <;> rfl), by repeat (first | (with_reducible first | exact HB.out | apply aC | apply pw_below_drewN | apply aD) | exact HB.out)⟩
      ·rw [if_neg c6] at H
       exact absurd H (by simp)
     ·rw [if_neg c5] at H
      exact absurd H (by simp)
    ·rw [if_neg c4] at H
     have c4b0 : decide (x5_1 < (l0.length : Int)) = false := decide_eq_false c4
     clear c4
     obtain rfl := Option.some.inj H
     go_wp2
     go_ret
     exact ⟨by first | rfl | (simp [aN, aQ] <;> rfl) | (simp [*, aN, aQ] <;> rfl), by repeat (first | (with_reducible first | exact HB.out | apply aC | apply pw_below_drewN | apply aD) | exact HB.out)⟩
 ·rw [if_neg c3] at H
  have c3b0 : ((l0.length : Int) == (l1.length : Int)) = false := beq_eq_false_iff_ne.mpr c3
  have c3b1 : ((l0.length : Int) != (l1.length : Int)) = true := bne_iff_ne.mpr c3
  have c3b2 : (l0.length == l1.length) = false := by first | simpa using c3 | (simp at c3 ⊢; omega)
  obtain rfl := Option.some.inj H
  go_enter Tryz.func21, Tryz.ntmps21
  go_wp2
  go_ret
  exact ⟨by first | rfl | (simp [aN, aQ] <;> rfl) | (simp [*, aN, aQ] <;> rfl), by repeat (first | (with_reducible first | exact HB.out | apply aC | apply pw_below_drewN | apply aD) | exact HB.out)⟩
end Go.Proofs.YtpflmgbpjhbmnaaGreat.B
end
