/- Plain laws on the order of rows: a total preorder; the reference's order is the same. No condition. -/
import Derived.Test.YtpflmgbpjhbmnaaOrd
import Derived.Test.YtpflmgbpjhbmnaaBx6
import Derived.Test.YtpflmgbpjhbmnaaBx2
namespace Go.Proofs.Ytpflmgbpjhbmnaa.B
open Go.RowKit Go.Proofs.YtpflmgbpjhbmnaaW.PrintWords Go.Proofs.YtpflmgbpjhbmnaaW.PrintLast Go.Proofs.YtpflmgbpjhbmnaaW.PrintMore
set_option linter.unusedVariables false
set_option linter.unusedSimpArgs false

def cmpI (x y : Int) : Int := if x < y then -1 else if y < x then 1 else 0
def cmpS (x y : ByteArray) : Int := if Op.bytesLess x.toList y.toList = true then -1 else if Op.bytesLess y.toList x.toList = true then 1 else 0
theorem compareI (x y : Int) : cmp_Compare_int.f x y = some (cmpI x y) := by
  unfold cmp_Compare_int.f cmp_isNaN_int.f cmpI
  simp only [Option.bind_some, bne_self_eq_false, Bool.false_eq_true, if_false]
  split
  · rfl
  · split <;> rfl
theorem compareS (x y : ByteArray) : cmp_Compare_string.f x y = some (cmpS x y) := by
  unfold cmp_Compare_string.f cmp_isNaN_string.f cmpS
  simp only [Option.bind_some, bne_self_eq_false, Bool.false_eq_true, if_false]
  split
  · rfl
  · split <;> rfl
theorem cmpV_eq (a b : S56) : cmpV a b = if a.f0 = b.f0 then (if a.f0 = 0 then cmpI a.f1 b.f1 else if a.f0 = 1 then cmpS a.f2 b.f2 else 0) else cmpI a.f0 b.f0 := by
  unfold cmpV row_Cmp.f
  rw [compareI, compareI, compareS]
  simp only [Option.bind_some]
  repeat' split
  all_goals rfl
theorem cmpI_sw (x y : Int) : cmpI y x = - cmpI x y := by unfold cmpI; repeat' split <;> omega
theorem cmpI_tr (x y z : Int) : cmpI x y ≤ 0 → cmpI y z ≤ 0 → cmpI x z ≤ 0 := by unfold cmpI; repeat' split <;> omega
theorem cmpI_0 (x y : Int) : cmpI x y = 0 ↔ x = y := by unfold cmpI; repeat' split <;> omega
theorem cmpS_sw (x y : ByteArray) : cmpS y x = - cmpS x y := by
  unfold cmpS
  rcases bl_tri x.toList y.toList with ⟨h1, _, h3⟩ | ⟨h1, _, h3⟩ | ⟨h1, _, h3⟩ <;> simp [h1, h3]
theorem cmpS_tr (x y z : ByteArray) : cmpS x y ≤ 0 → cmpS y z ≤ 0 → cmpS x z ≤ 0 := by
  unfold cmpS
  rcases bl_tri x.toList y.toList with ⟨h1, h2, h3⟩ | ⟨h1, h2, h3⟩ | ⟨h1, h2, h3⟩ <;> rcases bl_tri y.toList z.toList with ⟨k1, k2, k3⟩ | ⟨k1, k2, k3⟩ | ⟨k1, k2, k3⟩ <;> simp [h1, h3, k1, k3]
  · simp [bl_trans _ _ _ h1 k1]
  · rw [← k2]; simp [h1]
  · rw [h2]; simp [k1]
  · rw [h2, k2]; simp [bl_irrefl]
theorem cmpV_sw (a b : S56) : cmpV b a = - cmpV a b := by
  rw [cmpV_eq, cmpV_eq]
  by_cases h : a.f0 = b.f0
  · rw [if_pos h, if_pos h.symm, ← h]
    split
    · exact cmpI_sw _ _
    · split
      · exact cmpS_sw _ _
      · rfl
  · rw [if_neg h, if_neg (fun e => h e.symm)]
    exact cmpI_sw _ _
theorem cmpV_tr (a b c : S56) (h1 : cmpV a b ≤ 0) (h2 : cmpV b c ≤ 0) : cmpV a c ≤ 0 := by
  rw [cmpV_eq] at *
  by_cases e1 : a.f0 = b.f0
  · by_cases e2 : b.f0 = c.f0
    · rw [if_pos e1] at h1
      rw [if_pos e2, ← e1] at h2
      rw [if_pos (e1.trans e2)]
      split
      · rename_i h; rw [if_pos h] at h1 h2; exact cmpI_tr _ _ _ h1 h2
      · rename_i h; rw [if_neg h] at h1 h2
        split
        · rename_i h'; rw [if_pos h'] at h1 h2; exact cmpS_tr _ _ _ h1 h2
        · omega
    · rw [if_neg e2] at h2
      rw [if_neg (by omega), e1]; exact h2
  · rw [if_neg e1] at h1
    by_cases e2 : b.f0 = c.f0
    · rw [if_neg (by omega), ← e2]; exact h1
    · rw [if_neg e2] at h2
      have h3 := cmpI_tr _ _ _ h1 h2
      by_cases e3 : a.f0 = c.f0
      · exfalso
        have k1 := cmpI_sw b.f0 c.f0
        rw [← e3] at k1 h2
        have := (cmpI_0 a.f0 b.f0).1 (by omega)
        exact e1 this
      · rw [if_neg e3]; exact h3
theorem cmpV_refl (a : S56) : cmpV a a = 0 := by have := cmpV_sw a a; omega

abbrev Row := List S56
theorem ordR_sw : ∀ x y : Row, ordR y x = - ordR x y
  | [], [] => rfl
  | [], _ :: _ => rfl
  | _ :: _, [] => rfl
  | a :: x, b :: y => by
    simp only [ordR]
    have h := cmpV_sw a b
    by_cases e : cmpV a b = 0
    · rw [if_pos e, if_pos (by omega)]; exact ordR_sw x y
    · rw [if_neg e, if_neg (by omega)]; exact h
theorem ordR_tr : ∀ x y z : Row, ordR x y ≤ 0 → ordR y z ≤ 0 → ordR x z ≤ 0
  | [], _, [] => fun _ _ => by simp [ordR]
  | [], _, _ :: _ => fun _ _ => by simp [ordR]
  | _ :: _, [], _ => fun h _ => by simp [ordR] at h
  | _ :: _, _ :: _, [] => fun _ h => by simp [ordR] at h
  | a :: x, b :: y, c :: z => by
    simp only [ordR]
    intro h1 h2
    have s1 := cmpV_sw a b
    have s2 := cmpV_sw b c
    have s3 := cmpV_sw a c
    have l1 : cmpV a b ≤ 0 := by
      by_cases e : cmpV a b = 0
      · omega
      · rw [if_neg e] at h1; exact h1
    have l2 : cmpV b c ≤ 0 := by
      by_cases e : cmpV b c = 0
      · omega
      · rw [if_neg e] at h2; exact h2
    have l3 := cmpV_tr a b c l1 l2
    by_cases e : cmpV a c = 0
    · have k1 := cmpV_tr b c a l2 (by omega)
      have k2 := cmpV_tr c a b (by omega) l1
      rw [if_pos (show cmpV a b = 0 by omega)] at h1
      rw [if_pos (show cmpV b c = 0 by omega)] at h2
      rw [if_pos e]
      exact ordR_tr x y z h1 h2
    · rw [if_neg e]; exact l3
theorem ordR_refl (x : Row) : ordR x x = 0 := by have := ordR_sw x x; omega
theorem ordR_lt_of_le_lt {x y z : Row} (h1 : ordR x y ≤ 0) (h2 : ordR y z < 0) : ordR x z < 0 := by
  have := ordR_tr z x y; have := ordR_sw x z; have := ordR_sw y z; omega
theorem ordR_lt_of_lt_le {x y z : Row} (h1 : ordR x y < 0) (h2 : ordR y z ≤ 0) : ordR x z < 0 := by
  have := ordR_tr y z x; have := ordR_sw x z; have := ordR_sw x y; omega

/-! The reference's. -/
theorem refCmp (a b : S56) : Ev (fun k => runnelref03_Cmp.f k a.f0 a.f1 a.f2 b.f0 b.f1 b.f2) (cmpV a b) := by
  refine ⟨1, fun k hk => ?_⟩
  obtain ⟨k, rfl⟩ : ∃ m, k = m + 1 := ⟨k - 1, by omega⟩
  rw [cmpV_eq]
  unfold runnelref03_Cmp.f
  simp only [runnelref03_Cmp.j0, if_true, Bool.false_eq_true, if_false, cmpI, cmpS]
  by_cases e : a.f0 = b.f0
  · by_cases e0 : a.f0 = 0
    · have e1 : ¬ a.f0 = 1 := by omega
      have e2 : ¬ b.f0 < b.f0 := by omega
      rcases Int.lt_trichotomy a.f1 b.f1 with h | h | h <;> simp [e, e0, h, show ¬ b.f0 = 1 by omega, show b.f0 = 0 by omega, e2] <;> (try omega)
      all_goals (repeat' split) <;> (try rfl) <;> (try omega)
    · by_cases e1 : a.f0 = 1
      · have b0 : ¬ b.f0 = 0 := by omega
        have b1 : b.f0 = 1 := by omega
        rcases bl_tri a.f2.toList b.f2.toList with ⟨h1, _, h3⟩ | ⟨h1, _, h3⟩ | ⟨h1, _, h3⟩ <;> simp [e, e1, b0, b1, h1, h3]
      · have b0 : ¬ b.f0 = 0 := by omega
        have b1 : ¬ b.f0 = 1 := by omega
        simp [e, b0, b1]
  · rcases Int.lt_trichotomy a.f0 b.f0 with h | h | h
    · simp [h, e]
    · exact absurd h e
    · simp [e, h, show ¬ a.f0 < b.f0 by omega]
theorem refOrder_l (x y : Row) : ∀ d k : Nat, x.length - k = d → k ≤ x.length → k ≤ y.length → x.length ≤ 9223372036854775807 → Ev (fun n => runnelref03_Order.l0 n x y k) (ordR (x.drop k) (y.drop k)) := by
  intro d
  induction d with
  | zero =>
    intro k hd hx hy hm
    refine ⟨2, fun n hn => ?_⟩
    obtain ⟨n, rfl⟩ : ∃ m, n = m + 1 + 1 := ⟨n - 2, by omega⟩
    have hk : k = x.length := by omega
    rw [ordR_end x y k hk hy]
    simp only [runnelref03_Order.l0]
    rw [if_neg (by omega)]
    simp only [runnelref03_Order.j1, Bool.false_eq_true, if_false]
    by_cases h : x.length < y.length
    · rw [if_pos (by omega), if_pos h]
    · rw [if_neg (by omega), if_neg (by omega), if_neg h]
  | succ d ih =>
    intro k hd hx hy hm
    have hkx : k < x.length := by omega
    by_cases hky : k < y.length
    · obtain ⟨K1, h1⟩ := refCmp (rd_T56 x k) (rd_T56 y k)
      simp only [] at h1
      obtain ⟨K2, h2⟩ := ih (k + 1) (by omega) (by omega) (by omega) hm
      refine ⟨max K1 K2 + 2, fun n hn => ?_⟩
      obtain ⟨n, rfl⟩ : ∃ m, n = m + 1 + 1 := ⟨n - 2, by omega⟩
      simp only [runnelref03_Order.l0]
      rw [if_pos (by omega), decide_eq_true (by omega)]
      simp only [runnelref03_Order.j1, if_true]
      rw [if_pos (by omega), if_pos (by omega), if_pos (by omega), h1 n (by omega)]
      simp only [Option.bind_some]
      rw [ordR_drop x y k hkx hky]
      by_cases hc : cmpV (rd_T56 x k) (rd_T56 y k) = 0
      · rw [if_pos hc, if_pos hc, show wrap64 ((k : Int) + 1) = ((k + 1 : Nat) : Int) by unfold wrap64; omega]
        exact h2 n (by omega)
      · rw [if_neg hc, if_neg hc]
    · refine ⟨2, fun n hn => ?_⟩
      obtain ⟨n, rfl⟩ : ∃ m, n = m + 1 + 1 := ⟨n - 2, by omega⟩
      rw [ordR_over x y k hkx (by omega)]
      simp only [runnelref03_Order.l0]
      rw [if_pos (by omega), decide_eq_false (by omega)]
      simp only [runnelref03_Order.j1, Bool.false_eq_true, if_false]
      rw [if_neg (by omega), if_pos (by omega)]
theorem refOrder (x y : Row) (hm : x.length ≤ 9223372036854775807) : Ev (fun n => runnelref03_Order.f n x y) (ordR x y) := by
  have h := refOrder_l x y x.length 0 (by omega) (by omega) (by omega) hm
  simp only [List.drop_zero] at h
  exact h

/-- Is a row longer than is asked in statements? -/
def longR (x : Row) : Bool := decide (30 < x.length) || x.any fun v => decide (5000 < v.f2.size)
theorem refLong_l (x : Row) (hm : x.length ≤ 30) : ∀ d k : Nat, x.length - k = d → k ≤ x.length → Ev (fun n => runnelref03_Long.l0 n x k) ((x.drop k).any fun v => decide (5000 < v.f2.size)) := by
  intro d
  induction d with
  | zero =>
    intro k hd hx
    refine ⟨1, fun n hn => ?_⟩
    obtain ⟨n, rfl⟩ : ∃ m, n = m + 1 := ⟨n - 1, by omega⟩
    rw [List.drop_of_length_le (by omega)]
    simp only [runnelref03_Long.l0]
    rw [if_neg (by omega)]; rfl
  | succ d ih =>
    intro k hd hx
    have hkx : k < x.length := by omega
    obtain ⟨K2, h2⟩ := ih (k + 1) (by omega) (by omega)
    refine ⟨K2 + 1, fun n hn => ?_⟩
    obtain ⟨n, rfl⟩ : ∃ m, n = m + 1 := ⟨n - 1, by omega⟩
    simp only [runnelref03_Long.l0]
    rw [if_pos (by omega), if_pos (by omega), List.drop_eq_getElem_cons hkx, List.any_cons]
    have hr : rd_T56 x k = x[k] := by simp [rd_T56, List.getD, hkx]
    rw [hr]
    by_cases hc : (x[k].f2.size : Int) > 5000
    · rw [if_pos hc, decide_eq_true (by omega : 5000 < x[k].f2.size)]; rfl
    · rw [if_neg hc, decide_eq_false (by omega : ¬ 5000 < x[k].f2.size), Bool.false_or, show wrap64 ((k : Int) + 1) = ((k + 1 : Nat) : Int) by unfold wrap64; omega]
      exact h2 n (by omega)
theorem refLong (x : Row) : Ev (fun n => runnelref03_Long.f n x) (longR x) := by
  unfold runnelref03_Long.f longR
  by_cases h : 30 < x.length
  · refine ⟨0, fun n _ => ?_⟩
    simp only []
    rw [if_pos (by omega), decide_eq_true h]; rfl
  · obtain ⟨K, hk⟩ := refLong_l x (by omega) x.length 0 (by omega) (by omega)
    refine ⟨K, fun n hn => ?_⟩
    simp only []
    rw [if_neg (by omega), decide_eq_false h, Bool.false_or]
    simpa using hk n hn
end Go.Proofs.Ytpflmgbpjhbmnaa.B
