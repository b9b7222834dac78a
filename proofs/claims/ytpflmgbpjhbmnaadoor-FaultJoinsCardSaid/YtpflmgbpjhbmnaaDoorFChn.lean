/- The law's own chain. -/
import Derived.Test.YtpflmgbpjhbmnaaDoorFOps
namespace Go.Proofs.YtpflmgbpjhbmnaaDoor.F
open Go.RowKit Go.Extern.Stop Go.Stop Go.Extern Go.Proofs.YtpflmgbpjhbmnaaDoorW.PrintWords Go.Proofs.YtpflmgbpjhbmnaaDoorW.PrintLast Go.Proofs.YtpflmgbpjhbmnaaDoorW.PrintMore
set_option linter.unusedVariables false
set_option linter.unusedSimpArgs false
set_option maxRecDepth 100000

/-- What New makes of a number, and what Wrap makes of that. -/
def mk (n : Int) (ops : List ByteArray) : Value := if n = 0 then .nilIface else chn ops (num n)
theorem new_mk (n : Int) (w : World) : Calls Tryd.prog 7 #[.int .i64 n] w fun e w' => e = .returned (mk n []) ∧ w' = w := by
  by_cases h : n = 0
  · subst h; exact new_ok w
  · rw [mk, if_neg h]; exact new_num n w h
theorem wrap_mk (o : ByteArray) (n : Int) (ops : List ByteArray) (w : World) : Calls Tryd.prog 8 #[.string o, mk n ops] w fun e w' => e = .returned (mk n (o :: ops)) ∧ w' = w := by
  by_cases h : n = 0
  · rw [mk, mk, if_pos h, if_pos h]; exact wrap_nil o w
  · rw [mk, mk, if_neg h, if_neg h]
    obtain ⟨t2, v2, hv2⟩ := chn_iface (End.num n) ops
    rw [chn_cons, hv2]; exact wrap_some o t2 v2 w

theorem rdOf_nat {α : Type} (d : α) (l : List α) (j : Nat) (h : j < l.length) : rdOf d l (j : Int) = l[j] := by
  simp [rdOf, List.getD, h]

set_option maxHeartbeats 4000000 in
theorem chain_mk (A0 : Option Addr) (c0 : Nat) (l : List ByteArray) (n : Int) (w : World) (hr : Kd.C Kd.string w A0 l.length l) (hl : l.length ≤ 200) :
    Calls Tryd.prog 11 #[.slice A0 l.length c0, .int .i64 n] w fun e w' => e = .returned (mk n l) ∧ Below w.heap.size w w' := by
  have HR := Aside0.mk hr
  clear hr
  go_enter Tryd.func11, Tryd.ntmps11
  go_wp2_with ((go_at_call 7; refine (new_mk _ _).mono ?_; rintro e w' ⟨rfl, hw⟩; have hw1 := hw.symm; subst hw1; clear hw))
  go_loopw [5, 6] (fun v5 v6 wr => ∃ j : Nat, v6 = .int .i64 ((j : Int) - 1) ∧ j ≤ l.length ∧ v5 = mk n (l.drop j) ∧ wr = w) (fun v5 v6 wr => (intOf v6 + 1).toNat)
  case atStart => exact ⟨l.length, by go_num, Nat.le_refl _, by simp, rfl⟩
  case round =>
    obtain ⟨j, rfl, hj, rfl, hwr⟩ := hrel
    subst wr
    cases j with
    | zero =>
      have hb1 : decide ((0 : Int) ≤ ((0 : Nat) : Int) - 1) = false := by decide
      go_wp2
      go_ret
      exact ⟨by simp, Below.refl _ _⟩
    | succ j =>
      rw [show (((j + 1 : Nat) : Int) - 1) = (j : Int) by omega]
      have hb1 : decide ((0 : Int) ≤ (j : Int)) = true := decide_eq_true (by omega)
      obtain ⟨ad, e, hx⟩ := Kd.at_string HR.out (j : Int) (by omega) (by omega)
      cases e
      rw [Int.toNat_natCast] at hx
      have hlt : (j : Int) < (l.length : Int) := by omega
      go_wp2_with ((go_at_call 8; refine (wrap_mk _ n _ _).mono ?_; rintro e w' ⟨rfl, hw⟩; have hw1 := hw.symm; subst hw1; clear hw))
      refine ⟨⟨j, rfl, by omega, ?_, trivial⟩, by simp [intOf]⟩
      rw [List.drop_eq_getElem_cons (show j < l.length by omega), rdOf_nat ByteArray.empty l j (by omega)]
end Go.Proofs.YtpflmgbpjhbmnaaDoor.F
