/- The order of two rows: slices.CompareFunc over row.Cmp, row.Order, row.Same come to 'ordR'. No condition. -/
import Derived.Test.YtpflmgbpjhbmnaaBx16
namespace Go.Proofs.Ytpflmgbpjhbmnaa.B
open Go.RowKit Go.Proofs.YtpflmgbpjhbmnaaW.PrintWords Go.Proofs.YtpflmgbpjhbmnaaW.PrintLast Go.Proofs.YtpflmgbpjhbmnaaW.PrintMore
attribute [local go_sem] Go.Proofs.Ytpflmgbpjhbmnaa.str_gtr max2_int min2_int max_two min_two max_three min_three max_four min_four
set_option linter.unusedVariables false
set_option linter.unusedSimpArgs false

/-- The order of two values. -/
def cmpV (a b : S56) : Int := (row_Cmp.f a.f0 a.f1 a.f2 b.f0 b.f1 b.f2).getD 0
theorem cmpV_f (a b : S56) : row_Cmp.f a.f0 a.f1 a.f2 b.f0 b.f1 b.f2 = some (cmpV a b) := by
  have h : ∀ o : Option Int, o.isSome → o = some (o.getD 0) := by intro o ho; cases o <;> simp_all
  refine h _ ?_
  have hi : ∀ x y : Int, ∃ r, cmp_Compare_int.f x y = some r := by
    intro x y; unfold cmp_Compare_int.f cmp_isNaN_int.f; simp only [Option.bind_some]; repeat' split
    all_goals exact ⟨_, rfl⟩
  have hs : ∀ x y : ByteArray, ∃ r, cmp_Compare_string.f x y = some r := by
    intro x y; unfold cmp_Compare_string.f cmp_isNaN_string.f; simp only [Option.bind_some]; repeat' split
    all_goals exact ⟨_, rfl⟩
  obtain ⟨r0, h0⟩ := hi a.f0 b.f0
  obtain ⟨r1, h1⟩ := hi a.f1 b.f1
  obtain ⟨r2, h2⟩ := hs a.f2 b.f2
  unfold row_Cmp.f
  rw [h0, h1, h2]
  simp only [Option.bind_some]
  repeat' split
  all_goals rfl
/-- The order of two rows. -/
def ordR : List S56 → List S56 → Int
  | [], [] => 0
  | [], _ :: _ => -1
  | _ :: _, [] => 1
  | a :: x, b :: y => if cmpV a b = 0 then ordR x y else cmpV a b
theorem ordR_drop (x y : List S56) (k : Nat) (hx : k < x.length) (hy : k < y.length) :
    ordR (x.drop k) (y.drop k) = if cmpV (rd_T56 x k) (rd_T56 y k) = 0 then ordR (x.drop (k + 1)) (y.drop (k + 1)) else cmpV (rd_T56 x k) (rd_T56 y k) := by
  rw [List.drop_eq_getElem_cons hx, List.drop_eq_getElem_cons hy, ordR]
  simp [rd_T56, List.getD, hx, hy]
theorem ordR_over (x y : List S56) (k : Nat) (hx : k < x.length) (hy : y.length = k) : ordR (x.drop k) (y.drop k) = 1 := by
  rw [List.drop_eq_getElem_cons hx, show y.drop k = [] from List.drop_of_length_le (by omega)]; rfl
theorem ordR_end (x y : List S56) (k : Nat) (hx : k = x.length) (hy : k ≤ y.length) : ordR (x.drop k) (y.drop k) = if x.length < y.length then -1 else 0 := by
  rw [List.drop_of_length_le (by omega : x.length ≤ k)]
  by_cases h : k < y.length
  · rw [List.drop_eq_getElem_cons h, if_pos (by omega)]; rfl
  · rw [List.drop_of_length_le (by omega), if_neg (by omega)]; rfl

theorem ret_i {a b : Int} (h : b = a) : Ending.returned (.int .i64 a) = .returned (.int .i64 b) := by rw [h]
theorem ret_b {a b : Bool} (h : b = a) : Ending.returned (.bool a) = .returned (.bool b) := by rw [h]
/-- An element's cells, the index a natural number. -/
theorem at_V {w : World} {A : Option Addr} {n : Nat} {xs : List S56} (h : Kd.C k56 w A n xs) (k : Nat) (hk : k < n) : ∃ ad, A = some ad ∧ w.cell? (ad.add (k * 3)) = some (.int .i64 (rd_T56 xs k).f0) ∧ w.cell? ⟨(ad.add (k * 3)).block, (ad.add (k * 3)).off + 1, none⟩ = some (.int .i64 (rd_T56 xs k).f1) ∧ w.cell? ⟨(ad.add (k * 3)).block, (ad.add (k * 3)).off + 2, none⟩ = some (.string (rd_T56 xs k).f2) :=
  at_T56 h (k : Int) (by omega) (by omega)

set_option maxHeartbeats 2000000 in
set_option maxRecDepth 100000 in
theorem compareFunc (A0 : Option Addr) (c0 : Nat) (l0 : List S56) (A1 : Option Addr) (c1 : Nat) (l1 : List S56) (w : World) (hr0 : Kd.C k56 w A0 l0.length l0) (hc0 : l0.length ≤ c0) (hr1 : Kd.C k56 w A1 l1.length l1) (hc1 : l1.length ≤ c1) :
    Calls Try.prog 92 #[.slice A0 l0.length c0, .slice A1 l1.length c1, .func (.func 93) #[] #[]] w fun e w' => e = .returned (.int .i64 (ordR l0 l1)) ∧ Below w.heap.size w w' := by
  have HR0 := Aside0.mk hr0
  have HR1 := Aside0.mk hr1
  have HC0 := Aside0.mk hc0
  have hm0 : l0.length ≤ 9223372036854775807 := hr0.2.1
  have hm1 : l1.length ≤ 9223372036854775807 := hr1.2.1
  clear hr0 hr1 hc0 hc1
  go_enter Try.func92, Try.ntmps92
  go_wp2_with fail
  go_loopw [13] (fun i wr => ∃ k : Nat, i = .int .i64 k ∧ k ≤ l0.length ∧ k ≤ l1.length ∧ Aside0 (ordR l0 l1 = ordR (l0.drop k) (l1.drop k)) ∧ Below w.heap.size w wr) (fun i wr => l0.length - (intOf i).toNat)
  case atStart => exact ⟨0, rfl, by omega, by omega, ⟨rfl⟩, Below.refl _ _⟩
  case round =>
    obtain ⟨k, rfl, hk0, hk1, HE, hB⟩ := hrel
    have HB := Aside0.mk hB
    clear hB
    by_cases hlt : k < l0.length
    · obtain ⟨ad0, e0, g0, g1, g2⟩ := at_V (Kd.C_below HR0.out HB.out) k hlt
      cases e0
      have bt0 : decide (k < l0.length) = true := decide_eq_true hlt
      by_cases hl1 : k < l1.length
      · obtain ⟨ad1, e1, -, -, -⟩ := at_V (Kd.C_below HR1.out HB.out) k hl1
        cases e1
        have g3 : ∀ o, (wr.alloc o).cell? (ad1.add (k * 3)) = some (.int .i64 (rd_T56 l1 k).f0) := fun o => by
          obtain ⟨ad, e, h, _, _⟩ := at_V (Kd.C_below HR1.out (HB.out.alloc HB.out.size o)) k hl1; cases e; exact h
        have g4 : ∀ o, (wr.alloc o).cell? ⟨(ad1.add (k * 3)).block, (ad1.add (k * 3)).off + 1, none⟩ = some (.int .i64 (rd_T56 l1 k).f1) := fun o => by
          obtain ⟨ad, e, _, h, _⟩ := at_V (Kd.C_below HR1.out (HB.out.alloc HB.out.size o)) k hl1; cases e; exact h
        have g5 : ∀ o, (wr.alloc o).cell? ⟨(ad1.add (k * 3)).block, (ad1.add (k * 3)).off + 2, none⟩ = some (.string (rd_T56 l1 k).f2) := fun o => by
          obtain ⟨ad, e, _, _, h⟩ := at_V (Kd.C_below HR1.out (HB.out.alloc HB.out.size o)) k hl1; cases e; exact h
        have bt1 : decide (l1.length ≤ k) = false := decide_eq_false (by omega)
        by_cases hc : cmpV (rd_T56 l0 k) (rd_T56 l1 k) = 0
        · have hcc := cmpV_f (rd_T56 l0 k) (rd_T56 l1 k)
          have HN := Aside0.mk (HE.out.trans (by rw [ordR_drop l0 l1 k hlt hl1, if_pos hc]))
          rw [hc] at hcc
          have HC := Aside0.mk hcc
          clear hc hcc
          go_wp2_with (go_at_call 93; refine (row_Cmp.calls _ _ _ _ _ _ _ _ HC.out).mono ?_; rintro e w' ⟨rfl, hb⟩)
          go_roundw
          case rel => exact ⟨k + 1, by go_num, by omega, by omega, HN, ((HB.out.alloc HB.out.size _).alloc (by have := HB.out.size; simp; omega) _).trans (hb.mono (by have := HB.out.size; simp; omega))⟩
          case measure => simp [intOf]; omega
        · have HC := Aside0.mk (cmpV_f (rd_T56 l0 k) (rd_T56 l1 k))
          have HN := Aside0.mk (HE.out.trans (by rw [ordR_drop l0 l1 k hlt hl1, if_neg hc]))
          have bn : (cmpV (rd_T56 l0 k) (rd_T56 l1 k) != 0) = true := bne_iff_ne.2 hc
          clear hc
          go_wp2_with (go_at_call 93; refine (row_Cmp.calls _ _ _ _ _ _ _ _ HC.out).mono ?_; rintro e w' ⟨rfl, hb⟩)
          go_ret
          exact ⟨ret_i HN.out, ((HB.out.alloc HB.out.size _).alloc (by have := HB.out.size; simp; omega) _).trans (hb.mono (by have := HB.out.size; simp; omega))⟩
      · have bt1 : decide (l1.length ≤ k) = true := decide_eq_true (by omega)
        have HN := Aside0.mk (HE.out.trans (ordR_over l0 l1 k hlt (by omega)))
        clear hl1
        go_wp2
        go_ret
        exact ⟨ret_i HN.out, HB.out.alloc HB.out.size _⟩
    · have bt0 : decide (k < l0.length) = false := decide_eq_false hlt
      have HN := Aside0.mk (HE.out.trans (ordR_end l0 l1 k (by omega) hk1))
      by_cases hl : l0.length < l1.length
      · have bt2 : decide (l0.length < l1.length) = true := decide_eq_true hl
        clear hlt
        go_wp2
        go_ret
        exact ⟨ret_i (HN.out.trans (if_pos hl)), HB.out⟩
      · have bt2 : decide (l0.length < l1.length) = false := decide_eq_false hl
        clear hlt
        go_wp2
        go_ret
        exact ⟨ret_i (HN.out.trans (if_neg hl)), HB.out⟩

set_option maxHeartbeats 2000000 in
set_option maxRecDepth 100000 in
/-- row.Order. -/
theorem row_Order (A0 : Option Addr) (c0 : Nat) (l0 : List S56) (A1 : Option Addr) (c1 : Nat) (l1 : List S56) (w : World) (hr0 : Kd.C k56 w A0 l0.length l0) (hc0 : l0.length ≤ c0) (hr1 : Kd.C k56 w A1 l1.length l1) (hc1 : l1.length ≤ c1) :
    Calls Try.prog 61 #[.slice A0 l0.length c0, .slice A1 l1.length c1] w fun e w' => e = .returned (.int .i64 (ordR l0 l1)) ∧ Below w.heap.size w w' := by
  have HC := compareFunc A0 c0 l0 A1 c1 l1 w hr0 hc0 hr1 hc1
  clear hr0 hc0 hr1 hc1
  go_enter Try.func61, Try.ntmps61
  go_wp2_with (go_at_call 92; refine HC.mono ?_; rintro e w' ⟨rfl, hb⟩)
  go_ret
  exact ⟨rfl, hb⟩
end Go.Proofs.Ytpflmgbpjhbmnaa.B
