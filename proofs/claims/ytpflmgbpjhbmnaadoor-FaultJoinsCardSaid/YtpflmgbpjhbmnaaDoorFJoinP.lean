/- The reference's Some, First, Has, plainly. -/
import Derived.Test.YtpflmgbpjhbmnaaDoorFJoin
namespace Go.Proofs.YtpflmgbpjhbmnaaDoor.F
open Go.RowKit Go.Proofs.YtpflmgbpjhbmnaaDoorW.PrintWords Go.Proofs.YtpflmgbpjhbmnaaDoorW.PrintLast Go.Proofs.YtpflmgbpjhbmnaaDoorW.PrintMore
open Go.Proofs.YtpflmgbpjhbmnaaDoor.B
set_option linter.unusedVariables false
set_option linter.unusedSimpArgs false

theorem rd_nat (l : List Int) (i : Nat) (h : i < l.length) : rd l (i : Int) = l[i] := by
  simp [rd, List.getD, h]
theorem nz_drop (l : List Int) (i : Nat) (h : i < l.length) : nz (l.drop i) = (if l[i] = 0 then nz (l.drop (i + 1)) else l[i] :: nz (l.drop (i + 1))) := by
  unfold nz
  rw [List.drop_eq_getElem_cons h, List.filter_cons]
  by_cases h0 : l[i] = 0 <;> simp [h0]
theorem step_nat (l : List Int) (i : Nat) (h : i < l.length) (hl : l.length ≤ 200) : wrap64 ((i : Int) + 1) = ((i + 1 : Nat) : Int) := by unfold wrap64; omega

theorem some_pure (l : List Int) (hl : l.length ≤ 200) : ∃ k, runnelref02_Some.f k l = some (nz l) := by
  have h : ∀ (n i : Nat) (xs : List Int), i + n = l.length → xs.length ≤ i → runnelref02_Some.l0 (n + 1) l xs (i : Int) = some (xs ++ nz (l.drop i)) := by
    intro n
    induction n with
    | zero =>
      intro i xs hi hx
      unfold runnelref02_Some.l0
      rw [if_neg (by omega), List.drop_eq_nil_of_le (by omega)]
      simp [nz]
    | succ n ih =>
      intro i xs hi hx
      have hlt : i < l.length := by omega
      unfold runnelref02_Some.l0
      rw [if_pos (by omega), if_pos (by omega), rd_nat l i hlt, step_nat l i hlt hl, nz_drop l i hlt]
      by_cases h0 : l[i] = 0
      · rw [if_pos h0, if_pos h0]; exact ih (i + 1) xs (by omega) (by omega)
      · rw [if_neg h0, if_neg h0, if_pos (by omega), ih (i + 1) (xs ++ [l[i]]) (by omega) (by simp; omega)]; simp
  exact ⟨l.length + 1, by unfold runnelref02_Some.f; simpa using h l.length 0 [] (by omega) (by simp)⟩
theorem first_pure (l : List Int) (hl : l.length ≤ 200) : ∃ k, runnelref02_First.f k l = some ((nz l).headD 0) := by
  have h : ∀ (n i : Nat), i + n = l.length → runnelref02_First.l0 (n + 1) l (i : Int) = some ((nz (l.drop i)).headD 0) := by
    intro n
    induction n with
    | zero =>
      intro i hi
      unfold runnelref02_First.l0
      rw [if_neg (by omega), List.drop_eq_nil_of_le (by omega)]
      simp [nz]
    | succ n ih =>
      intro i hi
      have hlt : i < l.length := by omega
      unfold runnelref02_First.l0
      rw [if_pos (by omega), if_pos (by omega), rd_nat l i hlt, step_nat l i hlt hl, nz_drop l i hlt]
      by_cases h0 : l[i] = 0
      · rw [if_pos h0, if_pos h0]; exact ih (i + 1) (by omega)
      · rw [if_neg h0, if_neg h0]; rfl
  exact ⟨l.length + 1, by unfold runnelref02_First.f; simpa using h l.length 0 (by omega)⟩
theorem has_pure (l : List Int) (m : Int) (hl : l.length ≤ 200) : ∃ k, runnelref02_Has.f k l m = some ((nz l).any (· == m)) := by
  have h : ∀ (n i : Nat), i + n = l.length → runnelref02_Has.l0 (n + 1) l m (i : Int) = some ((nz (l.drop i)).any (· == m)) := by
    intro n
    induction n with
    | zero =>
      intro i hi
      unfold runnelref02_Has.l0
      rw [if_neg (by omega), List.drop_eq_nil_of_le (by omega)]
      simp [nz]
    | succ n ih =>
      intro i hi
      have hlt : i < l.length := by omega
      unfold runnelref02_Has.l0
      rw [if_pos (by omega), if_pos (by omega), rd_nat l i hlt, step_nat l i hlt hl, nz_drop l i hlt, ih (i + 1) (by omega)]
      by_cases h0 : l[i] = 0
      · rw [if_pos h0]
        by_cases hm : l[i] = m
        · rw [if_pos hm, if_pos (hm ▸ h0)]
        · rw [if_neg hm]
      · rw [if_neg h0, List.any_cons]
        by_cases hm : l[i] = m
        · rw [if_pos hm, if_neg (hm ▸ h0), beq_iff_eq.2 hm]; rfl
        · rw [if_neg hm, beq_eq_false_iff_ne.2 hm]; rfl
  exact ⟨l.length + 1, by unfold runnelref02_Has.f; simpa using h l.length 0 (by omega)⟩
end Go.Proofs.YtpflmgbpjhbmnaaDoor.F
