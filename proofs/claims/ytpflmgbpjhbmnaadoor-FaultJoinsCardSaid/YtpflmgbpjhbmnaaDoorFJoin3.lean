/- errors.is, fault.All at a wrapped join. -/
import Derived.Test.YtpflmgbpjhbmnaaDoorFJoin2
namespace Go.Proofs.YtpflmgbpjhbmnaaDoor.F
open Go.RowKit Go.Extern.Stop Go.Stop Go.Extern Go.Proofs.YtpflmgbpjhbmnaaDoorW.PrintWords Go.Proofs.YtpflmgbpjhbmnaaDoorW.PrintLast Go.Proofs.YtpflmgbpjhbmnaaDoorW.PrintMore
set_option linter.unusedVariables false
set_option linter.unusedSimpArgs false
set_option maxRecDepth 100000

theorem any_step (l : List Int) (m : Int) (i : Nat) (h : i < l.length) : (l.drop i).any (· == m) = ((l[i] == m) || (l.drop (i + 1)).any (· == m)) := by
  rw [List.drop_eq_getElem_cons h, List.any_cons]

set_option maxHeartbeats 4000000 in
theorem is_join (o : ByteArray) (b : Nat) (m : Int) (l : List Int) (w : World) (hJ : JoinAt w b l) :
    Calls Tryd.prog 28 #[fail o (jv b), num m, .bool true] w fun e w' => e = .returned (.bool (l.any (· == m))) ∧ Below w.heap.size w w' := by
  obtain ⟨A, c, j1, j2, j3, j4, j5, j6⟩ := hJ
  have HR := Aside0.mk j3
  have H5 := Aside0.mk j5
  have KI : Aside0 (∀ n W, n ≠ 0 → Below w.heap.size w W → Calls Tryd.prog 28 #[.iface 47 (.agg #[.string xB, num n]), .iface 27 (.int .i64 m), .bool true] W fun e w' => e = .returned (.bool (n == m)) ∧ Below w.heap.size w w') :=
    ⟨fun n W hn hW => (is_chain n m [xB] W).mono fun e w' ⟨h1, h2⟩ => ⟨h1, hW.trans (h2.mono hW.size)⟩⟩
  have HB := Aside0.mk (Below.refl w.heap.size w)
  have e2 := eq_fn
  have e3 := eq_jn
  have c1 := ta_fail_Is
  have c2 := ta_fail_1
  have c3 := ta_join_Is
  have c4 := ta_join_1
  have c5 := ta_join_N
  have m1 := mU
  have m2 := mJ
  have hlen0 : (0 : Int) ≤ (l.length : Int) := by omega
  clear j3 j4 j5
  unfold jv fail
  rw [show num m = .iface 27 (.int .i64 m) from rfl]
  go_enter Tryd.func28, Tryd.ntmps28
  go_wp2
  refine wp_loop_rounds 2 ?_
  rw [rounds_succ]
  go_wp2_with (go_at_call 50; refine (failUnwrap _ _ _).mono ?_; rintro e w1 ⟨rfl, hc⟩; have g5 := below_cell hc (Nat.le_refl _) j1; have HC := Aside0.mk hc; clear hc HB)
  rw [rounds_succ]
  go_wp2_with (go_at_call 55; refine (joinUnwrap _ _ _ g5).mono ?_; rintro e w2 ⟨rfl, hw⟩; have hw1 := hw.symm; subst hw1; clear hw)
  go_loopw [45] (fun v45 wr => ∃ i : Nat, v45 = .int .i64 i ∧ i ≤ l.length ∧ Aside0 ((l.drop i).any (· == m) = l.any (· == m)) ∧ Aside0 (Below w.heap.size w wr)) (fun v45 wr => l.length - (intOf v45).toNat)
  case atStart => exact ⟨0, rfl, Nat.zero_le _, ⟨rfl⟩, HC⟩
  case round =>
    obtain ⟨i, rfl, hi, HD, HB⟩ := hrel
    by_cases hlt : i < l.length
    · have hb1 : decide ((i : Int) < (l.length : Int)) = true := decide_eq_true (by omega)
      have hb2 : decide (i < l.length) = true := decide_eq_true hlt
      obtain ⟨ad, e, hx0⟩ := at_err HR.out (i : Int) (by omega) (by omega)
      cases e
      have hn0 : l[i] ≠ 0 := H5.out _ (List.getElem_mem hlt)
      have hx := below_cell HB.out (Nat.le_refl _) hx0
      clear hx0
      rw [Int.toNat_natCast, rdOf_nat 0 l i hlt, errV_some _ hn0] at hx
      have hD := HD.out
      rw [any_step l m i hlt] at hD
      by_cases hm : l[i] = m
      · have hq : (l[i] == m) = true := beq_iff_eq.2 hm
        have KI2 : Aside0 (∀ W, Below w.heap.size w W → Calls Tryd.prog 28 #[.iface 47 (.agg #[.string xB, num l[i]]), .iface 27 (.int .i64 m), .bool true] W fun e w' => e = .returned (.bool true) ∧ Below w.heap.size w w') := ⟨fun W hW => by have := KI.out l[i] W hn0 hW; rwa [hq] at this⟩
        have HD2 : Aside0 (true = l.any (· == m)) := ⟨by rw [← hD, hq]; rfl⟩
        clear hD hq hm HD HR H5 KI
        generalize l[i] = x at hx KI2 hn0
        go_wp2_with (go_at_call 28; refine (KI2.out _ HB.out).mono ?_; rintro e w3 ⟨rfl, hW⟩)
        go_ret
        exact ⟨by rw [← HD2.out]; rfl, hW⟩
      · have hq : (l[i] == m) = false := beq_eq_false_iff_ne.2 hm
        have KI2 : Aside0 (∀ W, Below w.heap.size w W → Calls Tryd.prog 28 #[.iface 47 (.agg #[.string xB, num l[i]]), .iface 27 (.int .i64 m), .bool true] W fun e w' => e = .returned (.bool false) ∧ Below w.heap.size w w') := ⟨fun W hW => by have := KI.out l[i] W hn0 hW; rwa [hq] at this⟩
        have HD2 : Aside0 ((l.drop (i + 1)).any (· == m) = l.any (· == m)) := ⟨by rw [← hD, hq]; rfl⟩
        clear hD
        go_wp2_with (go_at_call 28; refine (KI2.out _ HB.out).mono ?_; rintro e w3 ⟨rfl, hW⟩)
        exact ⟨⟨i + 1, by simp, by omega, HD2, ⟨hW⟩⟩, by simp [intOf]; omega⟩
    · have hin : i = l.length := by omega
      subst hin
      have hb1 : decide ((l.length : Int) < (l.length : Int)) = false := decide_eq_false (by omega)
      have HD2 : Aside0 (false = l.any (· == m)) := ⟨by rw [← HD.out, List.drop_length]; rfl⟩
      go_wp2
      go_ret
      exact ⟨by rw [← HD2.out]; rfl, HB.out⟩
end Go.Proofs.YtpflmgbpjhbmnaaDoor.F
