/- FaultDeep, walked. -/
import Derived.Test.YtpflmgbpjhbmnaaDoorFLive
namespace Go.Proofs.YtpflmgbpjhbmnaaDoor.F
open Go.RowKit Go.Extern.Stop Go.Stop Go.Extern Go.Proofs.YtpflmgbpjhbmnaaDoorW.PrintWords Go.Proofs.YtpflmgbpjhbmnaaDoorW.PrintLast Go.Proofs.YtpflmgbpjhbmnaaDoorW.PrintMore
set_option linter.unusedVariables false
set_option linter.unusedSimpArgs false
set_option maxRecDepth 100000

def again : ByteArray := ByteArray.mk #[97, 103, 97, 105, 110]

set_option maxHeartbeats 4000000 in
theorem law_deep (e0 n0 : Int) (w : World) (hL : Laid w) (hn0 : 0 ≤ n0) (hn1 : n0 ≤ 65535) : Calls Tryd.prog 3 #[.int .i64 e0, .int .u16 n0] w fun e w' => e = .returned (.bool true) ∧ Below w.heap.size w w' := by
  obtain ⟨n, rfl⟩ := Int.eq_ofNat_of_zero_le hn0
  have KL : Aside0 (∀ W, Below w.heap.size w W → Calls Tryd.prog 6 #[] W fun e w' => e = .returned (.bool true) ∧ Below w.heap.size w w') :=
    ⟨fun W hW => (live_ok W (hL.below hW (Nat.le_refl _))).mono fun e w' ⟨h1, h2⟩ => ⟨h1, hW.trans (h2.mono hW.size)⟩⟩
  have HB := Below.refl w.heap.size w
  by_cases he : e0 = 0
  · subst he
    go_enter Tryd.func3, Tryd.ntmps3
    go_wp2_with (go_at_call 6; refine (KL.out _ HB).mono ?_; rintro e w' ⟨rfl, hB4⟩)
    go_ret
    exact ⟨rfl, hB4⟩
  · have K2 : Aside0 (Calls Tryd.prog 9 #[mk e0 (List.replicate n again)] w fun e w' => e = .returned (.int .i64 e0) ∧ Below w.heap.size w w') := ⟨code_mk e0 _ w hL⟩
    have K3 : Aside0 (∀ W, Below w.heap.size w W → Calls Tryd.prog 10 #[mk e0 (List.replicate n again)] W fun e w' => ∃ (A : Option Addr) (c : Nat), e = .returned (.slice A n c) ∧ Below w.heap.size w w') :=
      ⟨fun W hW => (ops_mk e0 he _ (by rw [List.length_replicate]; omega) W).mono fun e w' ⟨A, c, h1, h2, h3, h4⟩ => ⟨A, c, by rw [List.length_replicate] at h1; exact h1, hW.trans (h4.mono hW.size)⟩⟩
    have hb0 : (e0 == 0) = false := beq_eq_false_iff_ne.2 he
    go_enter Tryd.func3, Tryd.ntmps3
    go_wp2_with (go_at_call 7; refine (new_mk _ _).mono ?_; rintro e w' ⟨rfl, hw⟩; have hw1 := hw.symm; subst hw1; clear hw)
    go_loopw [5, 6] (fun v5 v6 wr => ∃ i : Nat, v6 = .int .i64 i ∧ i ≤ n ∧ v5 = mk e0 (List.replicate i again) ∧ wr = w) (fun v5 v6 wr => n - (intOf v6).toNat)
    case atStart => exact ⟨0, rfl, Nat.zero_le _, rfl, rfl⟩
    case round =>
      obtain ⟨i, rfl, hi, rfl, hwr⟩ := hrel
      subst wr
      by_cases hlt : i < n
      · have hb1 : decide ((i : Int) < (n : Int)) = true := decide_eq_true (by omega)
        have hb2 : decide (i < n) = true := decide_eq_true hlt
        have KW : Aside0 (Calls Tryd.prog 8 #[.string again, mk e0 (List.replicate i again)] w fun e w' => e = .returned (mk e0 (List.replicate (i + 1) again)) ∧ w' = w) := ⟨wrap_mk again e0 _ w⟩
        unfold again at KW
        go_wp2_with (go_at_call 8; refine KW.out.mono ?_; rintro e w' ⟨rfl, hw⟩; have hw1 := hw.symm; subst hw1; clear hw)
        exact ⟨⟨i + 1, by simp, by omega, rfl, trivial⟩, by simp [intOf]; omega⟩
      · have hin : i = n := by omega
        subst hin
        have hb1 : decide ((i : Int) < (i : Int)) = false := decide_eq_false (by omega)
        go_wp2_with (first
          | (go_at_call 9; refine K2.out.mono ?_; rintro e w' ⟨rfl, hB2⟩)
          | (go_at_call 10; refine (K3.out _ hB2).mono ?_; rintro e w' ⟨A, c, rfl, hB3⟩)
          | (go_at_call 6; refine (KL.out _ hB3).mono ?_; rintro e w' ⟨rfl, hB4⟩))
        go_ret
        exact ⟨rfl, hB4⟩
end Go.Proofs.YtpflmgbpjhbmnaaDoor.F
