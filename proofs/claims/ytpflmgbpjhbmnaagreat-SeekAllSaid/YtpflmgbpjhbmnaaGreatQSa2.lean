/- So2, So3, So4, So5, So6, So7, So8, So9, St5, KOrd, KClone, KUp, POrd, KSort. -/
import Derived.Test.YtpflmgbpjhbmnaaGreatQSa1
import Derived.Sort.LotB
import Derived.Sort.LotC
import Derived.Sort.LotD3
import Derived.Sort.LotD1
import Derived.Test.YtpflmgbpjhbmnaaGreatProg
section
namespace Go.Eng
open Go Go.Sort
set_option linter.unusedSimpArgs false
set_option linter.unusedVariables false
set_option linter.unusedSectionVars false
set_option maxRecDepth 10000
def AX (sz : Nat) (ag : Bool) : AFn := ⟨82, 5, [], (.seq (.ops [oo 12 (.mov (.t 1)), oo 10 (.mov (.t 12))]) (.block 0 (.loop (.block 1 (.seq (.ops [oo 13 (.mov (.t 10)), oo 14 (.bin .mul (.v (.int .i64 2)) (.t 13)), oo 15 (.bin .add (.t 14) (.v (.int .i64 1))), oo 11 (.mov (.t 15))]) (.seq (.seq (.ops [oo 16 (.mov (.t 11)), oo 17 (.mov (.t 2)), oo 18 (.bin .geq (.t 16) (.t 17))]) (.cond (.t 18) (.exit 0) .skip)) (.seq (.seq (.ops [oo 82 (.mov (.t 11)), oo 83 (.bin .add (.t 82) (.v (.int .i64 1))), oo 84 (.mov (.t 2)), oo 85 (.bin .lss (.t 83) (.t 84)), oo 86 (.mov (.t 85)), og 87 86 true (.mov (.t 4)), og 88 86 true (.mov (.t 0)), og 89 86 true (.mov (.t 3)), og 90 86 true (.mov (.t 11)), og 91 86 true (.bin .add (.t 89) (.t 90)), og 92 86 true (.iaddr sz (.t 88) (.t 91)), og 93 86 true (.load ag sz (.t 92)), og 94 86 true (.mov (.t 0)), og 95 86 true (.mov (.t 3)), og 96 86 true (.mov (.t 11)), og 97 86 true (.bin .add (.t 95) (.t 96)), og 98 86 true (.bin .add (.t 97) (.v (.int .i64 1))), og 99 86 true (.iaddr sz (.t 94) (.t 98)), og 100 86 true (.load ag sz (.t 99)), og 101 86 true (.callv (.t 87) [(.t 93), (.t 100)]), og 102 86 true (.bin .lss (.t 101) (.v (.int .i64 0))), oo 103 (.pick (.t 86) (.t 102) (.v (.bool false))), oo 19 (.mov (.t 82)), oo 20 (.mov (.t 83)), oo 21 (.mov (.t 84)), oo 22 (.mov (.t 85)), oo 23 (.mov (.t 86)), oo 24 (.mov (.t 87)), oo 25 (.mov (.t 88)), oo 26 (.mov (.t 89)), oo 27 (.mov (.t 90)), oo 28 (.mov (.t 91)), oo 29 (.mov (.t 92)), oo 30 (.mov (.t 93)), oo 31 (.mov (.t 94)), oo 32 (.mov (.t 95)), oo 33 (.mov (.t 96)), oo 34 (.mov (.t 97)), oo 35 (.mov (.t 98)), oo 36 (.mov (.t 99)), oo 37 (.mov (.t 100)), oo 38 (.mov (.t 101)), oo 39 (.mov (.t 102)), oo 40 (.mov (.t 103))]) (.cond (.t 40) (.ops [oo 41 (.mov (.t 11)), oo 42 (.bin .add (.t 41) (.v (.int .i64 1))), oo 11 (.mov (.t 42))]) .skip)) (.seq (.seq (.ops [oo 82 (.mov (.t 4)), oo 83 (.mov (.t 0)), oo 84 (.mov (.t 3)), oo 85 (.mov (.t 10)), oo 86 (.bin .add (.t 84) (.t 85)), oo 87 (.iaddr sz (.t 83) (.t 86)), oo 88 (.load ag sz (.t 87)), oo 89 (.mov (.t 0)), oo 90 (.mov (.t 3)), oo 91 (.mov (.t 11)), oo 92 (.bin .add (.t 90) (.t 91)), oo 93 (.iaddr sz (.t 89) (.t 92)), oo 94 (.load ag sz (.t 93)), oo 95 (.callv (.t 82) [(.t 88), (.t 94)]), oo 96 (.bin .lss (.t 95) (.v (.int .i64 0))), oo 97 (.un .not (.t 96)), oo 43 (.mov (.t 82)), oo 44 (.mov (.t 83)), oo 45 (.mov (.t 84)), oo 46 (.mov (.t 85)), oo 47 (.mov (.t 86)), oo 48 (.mov (.t 87)), oo 49 (.mov (.t 88)), oo 50 (.mov (.t 89)), oo 51 (.mov (.t 90)), oo 52 (.mov (.t 91)), oo 53 (.mov (.t 92)), oo 54 (.mov (.t 93)), oo 55 (.mov (.t 94)), oo 56 (.mov (.t 95)), oo 57 (.mov (.t 96)), oo 58 (.mov (.t 97))]) (.cond (.t 58) .ret .skip)) (.seq (.ops [oo 82 (.mov (.t 0)), oo 83 (.mov (.t 3)), oo 84 (.mov (.t 10)), oo 85 (.bin .add (.t 83) (.t 84)), oo 86 (.mov (.t 0)), oo 87 (.mov (.t 3)), oo 88 (.mov (.t 11)), oo 89 (.bin .add (.t 87) (.t 88)), oo 90 (.mov (.t 0)), oo 91 (.mov (.t 3)), oo 92 (.mov (.t 11)), oo 93 (.bin .add (.t 91) (.t 92)), oo 94 (.iaddr sz (.t 90) (.t 93)), oo 95 (.load ag sz (.t 94)), oo 96 (.mov (.t 0)), oo 97 (.mov (.t 3)), oo 98 (.mov (.t 10)), oo 99 (.bin .add (.t 97) (.t 98)), oo 100 (.iaddr sz (.t 96) (.t 99)), oo 101 (.load ag sz (.t 100)), oo 102 (.iaddr sz (.t 82) (.t 85)), oo 103 (.store sz (.t 102) (.t 95)), oo 104 (.iaddr sz (.t 86) (.t 89)), oo 105 (.store sz (.t 104) (.t 101)), oo 59 (.mov (.t 82)), oo 60 (.mov (.t 83)), oo 61 (.mov (.t 84)), oo 62 (.mov (.t 85)), oo 63 (.mov (.t 86)), oo 64 (.mov (.t 87)), oo 65 (.mov (.t 88)), oo 66 (.mov (.t 89)), oo 67 (.mov (.t 90)), oo 68 (.mov (.t 91)), oo 69 (.mov (.t 92)), oo 70 (.mov (.t 93)), oo 71 (.mov (.t 94)), oo 72 (.mov (.t 95)), oo 73 (.mov (.t 96)), oo 74 (.mov (.t 97)), oo 75 (.mov (.t 98)), oo 76 (.mov (.t 99)), oo 77 (.mov (.t 100)), oo 78 (.mov (.t 101)), oo 79 (.mov (.t 102)), oo 80 (.mov (.t 104))]) (.ops [oo 81 (.mov (.t 11)), oo 10 (.mov (.t 81))]))))))))))⟩
def GE (sz : Nat) (ag : Bool) (ks : Nat) : AFn := ⟨60, 4, [], (.seq (.ops [oo 13 (.mov (.t 1)), oo 8 (.mov (.t 13))]) (.seq (.ops [oo 9 (.mov (.v (.int .i64 0)))]) (.seq (.ops [oo 14 (.mov (.t 2)), oo 15 (.mov (.t 1)), oo 16 (.bin .sub (.t 14) (.t 15)), oo 10 (.mov (.t 16))]) (.seq (.seq (.ops [oo 17 (.mov (.t 10)), oo 18 (.bin .sub (.t 17) (.v (.int .i64 1))), oo 19 (.bin .quo (.t 18) (.v (.int .i64 2))), oo 11 (.mov (.t 19))]) (.block 0 (.loop (.seq (.seq (.ops [oo 20 (.mov (.t 11)), oo 21 (.bin .geq (.t 20) (.v (.int .i64 0)))]) (.cond (.t 21) .skip (.exit 0))) (.seq (.block 1 (.ops [oo 24 (.mov (.t 0)), oo 25 (.mov (.t 11)), oo 26 (.mov (.t 10)), oo 27 (.mov (.t 8)), oo 28 (.mov (.t 3)), oo 29 (.call ks [(.t 24), (.t 25), (.t 26), (.t 27), (.t 28)])])) (.ops [oo 22 (.mov (.t 11)), oo 23 (.bin .sub (.t 22) (.v (.int .i64 1))), oo 11 (.mov (.t 23))])))))) (.seq (.ops [oo 30 (.mov (.t 10)), oo 31 (.bin .sub (.t 30) (.v (.int .i64 1))), oo 12 (.mov (.t 31))]) (.block 2 (.loop (.seq (.seq (.ops [oo 32 (.mov (.t 12)), oo 33 (.bin .geq (.t 32) (.v (.int .i64 0)))]) (.cond (.t 33) .skip (.exit 2))) (.seq (.block 3 (.seq (.ops [oo 60 (.mov (.t 0)), oo 61 (.mov (.t 8)), oo 62 (.mov (.t 0)), oo 63 (.mov (.t 8)), oo 64 (.mov (.t 12)), oo 65 (.bin .add (.t 63) (.t 64)), oo 66 (.mov (.t 0)), oo 67 (.mov (.t 8)), oo 68 (.mov (.t 12)), oo 69 (.bin .add (.t 67) (.t 68)), oo 70 (.iaddr sz (.t 66) (.t 69)), oo 71 (.load ag sz (.t 70)), oo 72 (.mov (.t 0)), oo 73 (.mov (.t 8)), oo 74 (.iaddr sz (.t 72) (.t 73)), oo 75 (.load ag sz (.t 74)), oo 76 (.iaddr sz (.t 60) (.t 61)), oo 77 (.store sz (.t 76) (.t 71)), oo 78 (.iaddr sz (.t 62) (.t 65)), oo 79 (.store sz (.t 78) (.t 75)), oo 36 (.mov (.t 60)), oo 37 (.mov (.t 61)), oo 38 (.mov (.t 62)), oo 39 (.mov (.t 63)), oo 40 (.mov (.t 64)), oo 41 (.mov (.t 65)), oo 42 (.mov (.t 66)), oo 43 (.mov (.t 67)), oo 44 (.mov (.t 68)), oo 45 (.mov (.t 69)), oo 46 (.mov (.t 70)), oo 47 (.mov (.t 71)), oo 48 (.mov (.t 72)), oo 49 (.mov (.t 73)), oo 50 (.mov (.t 74)), oo 51 (.mov (.t 75)), oo 52 (.mov (.t 76)), oo 53 (.mov (.t 78))]) (.ops [oo 54 (.mov (.t 0)), oo 55 (.mov (.t 9)), oo 56 (.mov (.t 12)), oo 57 (.mov (.t 8)), oo 58 (.mov (.t 3)), oo 59 (.call ks [(.t 54), (.t 55), (.t 56), (.t 57), (.t 58)])]))) (.ops [oo 34 (.mov (.t 12)), oo 35 (.bin .sub (.t 34) (.v (.int .i64 1))), oo 12 (.mov (.t 35))]))))))))))⟩
def SR (sz : Nat) (ag : Bool) : AFn := ⟨34, 4, [], (.seq (.ops [oo 10 (.mov (.t 1)), oo 8 (.mov (.t 10))]) (.seq (.ops [oo 11 (.mov (.t 2)), oo 12 (.bin .sub (.t 11) (.v (.int .i64 1))), oo 9 (.mov (.t 12))]) (.block 0 (.loop (.seq (.seq (.ops [oo 13 (.mov (.t 8)), oo 14 (.mov (.t 9)), oo 15 (.bin .lss (.t 13) (.t 14))]) (.cond (.t 15) .skip (.exit 0))) (.block 1 (.seq (.ops [oo 34 (.mov (.t 0)), oo 35 (.mov (.t 8)), oo 36 (.mov (.t 0)), oo 37 (.mov (.t 9)), oo 38 (.mov (.t 0)), oo 39 (.mov (.t 9)), oo 40 (.iaddr sz (.t 38) (.t 39)), oo 41 (.load ag sz (.t 40)), oo 42 (.mov (.t 0)), oo 43 (.mov (.t 8)), oo 44 (.iaddr sz (.t 42) (.t 43)), oo 45 (.load ag sz (.t 44)), oo 46 (.iaddr sz (.t 34) (.t 35)), oo 47 (.store sz (.t 46) (.t 41)), oo 48 (.iaddr sz (.t 36) (.t 37)), oo 49 (.store sz (.t 48) (.t 45)), oo 16 (.mov (.t 34)), oo 17 (.mov (.t 35)), oo 18 (.mov (.t 36)), oo 19 (.mov (.t 37)), oo 20 (.mov (.t 38)), oo 21 (.mov (.t 39)), oo 22 (.mov (.t 40)), oo 23 (.mov (.t 41)), oo 24 (.mov (.t 42)), oo 25 (.mov (.t 43)), oo 26 (.mov (.t 44)), oo 27 (.mov (.t 45)), oo 28 (.mov (.t 46)), oo 29 (.mov (.t 48))]) (.seq (.ops [oo 30 (.mov (.t 8)), oo 31 (.bin .add (.t 30) (.v (.int .i64 1))), oo 8 (.mov (.t 31))]) (.ops [oo 32 (.mov (.t 9)), oo 33 (.bin .sub (.t 32) (.v (.int .i64 1))), oo 9 (.mov (.t 33))])))))))))⟩
section
variable {β : Type} [Inhabited β] {enc : β → AV} {sz t : Nat} {H : AH} {P : Program} {c : β → β → Int} {ag : Bool} {k : FuncId} {as0 bs : List AV}
theorem swp_size' (d : Array β) (i j : Nat) : (swp d i j).size = d.size := by simp [swp]
theorem iK (lt : β → β → Bool) (hi first : Nat) : ∀ (n root : Nat) (d : Array β), hi - root ≤ n → (siftDown lt hi first root d).size = d.size := by
  intro n
  induction n with
  | zero => intro root d h; rw [siftDown, dif_pos (by omega)]
  | succ n ih =>
    intro root d h
    rw [siftDown]
    split
    · rfl
    · split
      · split
        · rfl
        · split
          · rw [ih _ _ (by omega), swp_size']
          · rfl
      · split
        · rfl
        · rw [ih _ _ (by omega), swp_size']
theorem qL {n : FuncId} (hc : aD P n = some (AX sz ag)) (E : cY P enc c sz ag k as0 bs) (h : t < H.length) (d : Array β) {m cp : Nat} {ex : Bool} (hm : m = d.size) (hs : m < 1099511627776) (lo hi first : Nat) (hlo : lo < 1099511627776) (hhi : first + hi ≤ m) :
    aC P n [.ref sz t 0 m cp ex, .int .i64 lo, .int .i64 hi, .int .i64 first, .fn k as0 bs] (SH enc sz t H d) fun r H' => H' = SH enc sz t H (siftDown (ltC c) hi first lo d) := by
  refine aU hc (by simp [AX]) ?_
  unfold AX
  simp only [push_cast, ↓reduceIte, Nat.reduceEqDiff, reduceCtorEq, Nat.reduceAdd, Nat.reduceLT, Nat.reduceLeDiff]
  refine aI (fun (s : Nat × Array β) f H' => s.2.size = m ∧ H' = SH enc sz t H s.2 ∧ s.1 < 1099511627776 ∧ f 0 = .ref sz t 0 m cp ex ∧ f 2 = .int .i64 hi ∧ f 3 = .int .i64 first ∧ f 4 = .fn k as0 bs ∧ f 10 = .int .i64 s.1 ∧ siftDown (ltC c) hi first s.1 s.2 = siftDown (ltC c) hi first lo d) (fun s => hi - s.1) (lo, d) ?_ ?_
  · refine ⟨hm.symm, rfl, hlo, ?_⟩
    simp only [push_cast, ↓reduceIte, Nat.reduceEqDiff, reduceCtorEq, Nat.reduceAdd, Nat.reduceLT, Nat.reduceLeDiff]
  · rintro ⟨r, d1⟩ f H' ⟨s1, rfl, s2, e0, e2, e3, e4, e10, hr⟩
    dsimp only at s1 s2 e10 hr ⊢
    have w1 : IntKind.i64.wrap (2 * (r : Int)) = 2 * r := aE (by omega) (by omega)
    have w2 : IntKind.i64.wrap (2 * (r : Int) + 1) = 2 * r + 1 := aE (by omega) (by omega)
    have w3 : IntKind.i64.wrap (2 * (r : Int) + 1 + 1) = 2 * r + 1 + 1 := aE (by omega) (by omega)
    by_cases h1 : 2 * r + 1 ≥ hi
    · have h1' : (2 * (r : Int) + 1) ≥ hi := by omega
      simp only [push_cast, ↓reduceIte, Nat.reduceEqDiff, reduceCtorEq, Nat.reduceAdd, Nat.reduceLT, Nat.reduceLeDiff, e0, e2, e3, e4, e10, w1, w2, h1']
      rw [← hr, siftDown, dif_pos h1]
    have h1' : ¬ (2 * (r : Int) + 1) ≥ hi := by omega
    have w4 : IntKind.i64.wrap ((first : Int) + (2 * (r : Int) + 1)) = first + (2 * r + 1) := aE (by omega) (by omega)
    have w5 : IntKind.i64.wrap ((first : Int) + (2 * (r : Int) + 1) + 1) = first + (2 * r + 1) + 1 := aE (by omega) (by omega)
    have w6 : IntKind.i64.wrap ((first : Int) + (2 * (r : Int) + 1 + 1)) = first + (2 * r + 1 + 1) := aE (by omega) (by omega)
    have w7 : IntKind.i64.wrap ((first : Int) + (r : Int)) = first + r := aE (by omega) (by omega)
    have i1 : aF sz (.ref sz t 0 m cp ex) (.int .i64 ((first : Int) + (2 * (r : Int) + 1))) = some (.ptr t (first + (2 * r + 1)) 0) := aP (by omega) (by omega)
    have i3 : aF sz (.ref sz t 0 m cp ex) (.int .i64 ((first : Int) + (r : Int))) = some (.ptr t (first + r) 0) := aP (by omega) (by omega)
    have l1 := E.load (d := d1) h (show first + (2 * r + 1) < d1.size by omega)
    have l3 := E.load (d := d1) h (show first + r < d1.size by omega)
    by_cases h2 : 2 * r + 1 + 1 < hi
    · have h2' : (2 * (r : Int) + 1 + 1) < hi := by omega
      have i2 : aF sz (.ref sz t 0 m cp ex) (.int .i64 ((first : Int) + (2 * (r : Int) + 1) + 1)) = some (.ptr t (first + (2 * r + 1) + 1) 0) := aP (by omega) (by omega)
      have i4 : aF sz (.ref sz t 0 m cp ex) (.int .i64 ((first : Int) + (2 * (r : Int) + 1 + 1))) = some (.ptr t (first + (2 * r + 2)) 0) := aP (by omega) (by omega)
      have l2 := E.load (d := d1) h (show first + (2 * r + 1) + 1 < d1.size by omega)
      have l4 := E.load (d := d1) h (show first + (2 * r + 2) < d1.size by omega)
      simp only [push_cast, ↓reduceIte, Nat.reduceEqDiff, reduceCtorEq, Nat.reduceAdd, Nat.reduceLT, Nat.reduceLeDiff, e0, e2, e3, e4, e10, w1, w2, w3, h1', h2', w4, w5, i1, i2, l1, l2]
      refine aC.look (E.cmp d1[first + (2 * r + 1)]! d1[first + (2 * r + 1) + 1]! _) ?_
      by_cases h3 : c d1[first + (2 * r + 1)]! d1[first + (2 * r + 1) + 1]! < 0
      · simp only [push_cast, ↓reduceIte, Nat.reduceEqDiff, reduceCtorEq, Nat.reduceAdd, Nat.reduceLT, Nat.reduceLeDiff, e0, e2, e3, e4, e10, w1, w2, w3, h3, w6, w7, i3, i4, l3, l4]
        refine aC.look (E.cmp d1[first + r]! d1[first + (2 * r + 2)]! _) ?_
        have st := E.swap (d := d1) h (show first + r < d1.size by omega) (show first + (2 * r + 2) < d1.size by omega)
        by_cases h4 : c d1[first + r]! d1[first + (2 * r + 2)]! < 0
        · simp only [push_cast, ↓reduceIte, Nat.reduceEqDiff, reduceCtorEq, Nat.reduceAdd, Nat.reduceLT, Nat.reduceLeDiff, e0, e2, e3, e4, e10, w1, w2, w3, h4, w6, w7, i3, i4, l3, l4, st.1, st.2]
          refine ⟨(2 * r + 2, swp d1 (first + r) (first + (2 * r + 2))), ⟨by rw [swp_size', s1], rfl, by show 2 * r + 2 < _; omega, by show (2 * (r : Int) + 1 + 1) = ((2 * r + 2 : Nat) : Int); omega, ?_⟩, by show hi - (2 * r + 2) < _; omega⟩
          rw [← hr]
          conv => rhs; rw [siftDown]
          rw [dif_neg h1, if_pos (by simp [ltC, h3]; omega), if_neg (by simp [ltC, h4]), dif_pos (by omega)]
        · simp only [push_cast, ↓reduceIte, Nat.reduceEqDiff, reduceCtorEq, Nat.reduceAdd, Nat.reduceLT, Nat.reduceLeDiff, e0, e2, e3, e4, e10, w1, w2, w3, h4, w6, w7, i3, i4, l3, l4]
          rw [← hr, siftDown, dif_neg h1, if_pos (by simp [ltC, h3]; omega), if_pos (by simp [ltC]; omega)]
      · simp only [push_cast, ↓reduceIte, Nat.reduceEqDiff, reduceCtorEq, Nat.reduceAdd, Nat.reduceLT, Nat.reduceLeDiff, e0, e2, e3, e4, e10, w1, w2, w3, h3, w4, w7, i1, i3, l1, l3]
        refine aC.look (E.cmp d1[first + r]! d1[first + (2 * r + 1)]! _) ?_
        have st := E.swap (d := d1) h (show first + r < d1.size by omega) (show first + (2 * r + 1) < d1.size by omega)
        by_cases h4 : c d1[first + r]! d1[first + (2 * r + 1)]! < 0
        · simp only [push_cast, ↓reduceIte, Nat.reduceEqDiff, reduceCtorEq, Nat.reduceAdd, Nat.reduceLT, Nat.reduceLeDiff, e0, e2, e3, e4, e10, w1, w2, w3, h4, w4, w7, i1, i3, l1, l3, st.1, st.2]
          refine ⟨(2 * r + 1, swp d1 (first + r) (first + (2 * r + 1))), ⟨by rw [swp_size', s1], rfl, by show 2 * r + 1 < _; omega, by show (2 * (r : Int) + 1) = ((2 * r + 1 : Nat) : Int); omega, ?_⟩, by show hi - (2 * r + 1) < _; omega⟩
          rw [← hr]
          conv => rhs; rw [siftDown]
          rw [dif_neg h1, if_neg (by simp [ltC, h3]), if_neg (by simp [ltC, h4])]
        · simp only [push_cast, ↓reduceIte, Nat.reduceEqDiff, reduceCtorEq, Nat.reduceAdd, Nat.reduceLT, Nat.reduceLeDiff, e0, e2, e3, e4, e10, w1, w2, w3, h4, w4, w7, i1, i3, l1, l3]
          rw [← hr, siftDown, dif_neg h1, if_neg (by simp [ltC, h3]), if_pos (by simp [ltC]; omega)]
    · have h2' : ¬ (2 * (r : Int) + 1 + 1) < hi := by omega
      simp only [push_cast, ↓reduceIte, Nat.reduceEqDiff, reduceCtorEq, Nat.reduceAdd, Nat.reduceLT, Nat.reduceLeDiff, e0, e2, e3, e4, e10, w1, w2, w3, h1', h2', w4, w7, i1, i3, l1, l3]
      refine aC.look (E.cmp d1[first + r]! d1[first + (2 * r + 1)]! _) ?_
      have st := E.swap (d := d1) h (show first + r < d1.size by omega) (show first + (2 * r + 1) < d1.size by omega)
      by_cases h4 : c d1[first + r]! d1[first + (2 * r + 1)]! < 0
      · simp only [push_cast, ↓reduceIte, Nat.reduceEqDiff, reduceCtorEq, Nat.reduceAdd, Nat.reduceLT, Nat.reduceLeDiff, e0, e2, e3, e4, e10, w1, w2, w3, h4, w4, w7, i1, i3, l1, l3, st.1, st.2]
        refine ⟨(2 * r + 1, swp d1 (first + r) (first + (2 * r + 1))), ⟨by rw [swp_size', s1], rfl, by show 2 * r + 1 < _; omega, by show (2 * (r : Int) + 1) = ((2 * r + 1 : Nat) : Int); omega, ?_⟩, by show hi - (2 * r + 1) < _; omega⟩
        rw [← hr]
        conv => rhs; rw [siftDown]
        rw [dif_neg h1, if_neg (by simp [h2]), if_neg (by simp [ltC, h4])]
      · simp only [push_cast, ↓reduceIte, Nat.reduceEqDiff, reduceCtorEq, Nat.reduceAdd, Nat.reduceLT, Nat.reduceLeDiff, e0, e2, e3, e4, e10, w1, w2, w3, h4, w4, w7, i1, i3, l1, l3]
        rw [← hr, siftDown, dif_neg h1, if_neg (by simp [h2]), if_pos (by simp [ltC]; omega)]
theorem AY {n ks : FuncId} (hc : aD P n = some (GE sz ag ks)) (hks : aD P ks = some (AX sz ag)) (E : cY P enc c sz ag k as0 bs) (h : t < H.length) (d : Array β) {m cp : Nat} {ex : Bool} (hm : m = d.size) (hs : m < 1099511627776) (a b : Nat) (hab : a ≤ b) (hb : b ≤ m) :
    aC P n [.ref sz t 0 m cp ex, .int .i64 a, .int .i64 b, .fn k as0 bs] (SH enc sz t H d) fun r H' => H' = SH enc sz t H (heapSort (ltC c) d a b) := by
  refine aU hc (by simp [GE]) ?_
  unfold GE
  have w1 : IntKind.i64.wrap ((b : Int) - a) = ((b - a : Nat) : Int) := aX (by omega) (by omega)
  have w2 : IntKind.i64.wrap (((b - a : Nat) : Int) - 1) = ((b - a : Nat) : Int) - 1 := aE (by omega) (by omega)
  have w3 : IntKind.i64.wrap ((((b - a : Nat) : Int) - 1).tdiv 2) = (((b - a - 1) / 2 : Nat) : Int) := by
    by_cases h0 : b - a = 0
    · rw [h0]; rfl
    · rw [show ((b - a : Nat) : Int) - 1 = ((b - a - 1 : Nat) : Int) by omega, Int.tdiv_eq_ediv_of_nonneg (by omega), aE (by omega) (by omega)]
      omega
  have two : ¬ (2 : Int) = 0 := by omega
  generalize hhi : b - a = hi at w1 w2 w3
  simp only [push_cast, ↓reduceIte, Nat.reduceEqDiff, reduceCtorEq, Nat.reduceAdd, Nat.reduceLT, Nat.reduceLeDiff, w1, w2, two, w3]
  refine aI (fun (s : Nat × Array β) f H' => s.2.size = m ∧ H' = SH enc sz t H s.2 ∧ s.1 < 1099511627776 ∧ f 0 = .ref sz t 0 m cp ex ∧ f 3 = .fn k as0 bs ∧ f 8 = .int .i64 a ∧ f 9 = .int .i64 0 ∧ f 10 = .int .i64 hi ∧ f 11 = .int .i64 ((s.1 : Int) - 1) ∧ heapBuild (ltC c) hi a s.1 s.2 = heapBuild (ltC c) hi a ((hi - 1) / 2 + 1) d) (fun s => s.1) ((hi - 1) / 2 + 1, d) ?_ ?_
  · refine ⟨hm.symm, rfl, by show (hi - 1) / 2 + 1 < _; omega, ?_⟩
    simp only [push_cast, ↓reduceIte, Nat.reduceEqDiff, reduceCtorEq, Nat.reduceAdd, Nat.reduceLT, Nat.reduceLeDiff, w1, w2, two, w3]
    show _ = (((hi - 1) / 2 + 1 : Nat) : Int) - 1
    omega
  · rintro ⟨q, d1⟩ f H' ⟨s1, rfl, s2, e0, e3, e8, e9, e10, e11, hr⟩
    dsimp only at s1 s2 e11 hr ⊢
    cases q with
    | succ q =>
      have g1 : ((q + 1 : Nat) : Int) - 1 = q := by omega
      rw [g1] at e11
      have g2 : (q : Int) ≥ 0 := by omega
      have g3 : IntKind.i64.wrap ((q : Int) - 1) = (q : Int) - 1 := aE (by omega) (by omega)
      simp only [push_cast, ↓reduceIte, Nat.reduceEqDiff, reduceCtorEq, Nat.reduceAdd, Nat.reduceLT, Nat.reduceLeDiff, e0, e3, e8, e9, e10, e11, g2]
      refine (qL hks E h d1 s1.symm hs q hi a (by omega) (by omega)).mono fun r H' hh => ?_
      subst hh
      simp only [push_cast, ↓reduceIte, Nat.reduceEqDiff, reduceCtorEq, Nat.reduceAdd, Nat.reduceLT, Nat.reduceLeDiff, e0, e3, e8, e9, e10, e11, g3]
      exact ⟨(q, siftDown (ltC c) hi a q d1), ⟨by rw [iK _ _ _ (hi - q) _ _ (Nat.le_refl _)]; exact s1, rfl, by show q < _; omega, rfl, hr⟩, by show q < q + 1; omega⟩
    | zero =>
      have g2 : ¬ ((0 : Nat) : Int) - 1 ≥ 0 := by omega
      have g2' : ¬ ((0 : Int) - 1 ≥ 0) := by omega
      simp only [push_cast, ↓reduceIte, Nat.reduceEqDiff, reduceCtorEq, Nat.reduceAdd, Nat.reduceLT, Nat.reduceLeDiff, e0, e3, e8, e9, e10, e11, g2, g2', w2]
      refine aI (fun (s : Nat × Array β) f H' => s.2.size = m ∧ H' = SH enc sz t H s.2 ∧ s.1 ≤ hi ∧ f 0 = .ref sz t 0 m cp ex ∧ f 3 = .fn k as0 bs ∧ f 8 = .int .i64 a ∧ f 9 = .int .i64 0 ∧ f 12 = .int .i64 ((s.1 : Int) - 1) ∧ heapPop (ltC c) a s.1 s.2 = heapPop (ltC c) a hi d1) (fun s => s.1) (hi, d1) ?_ ?_
      · refine ⟨s1, rfl, Nat.le_refl _, ?_⟩
        simp only [push_cast, ↓reduceIte, Nat.reduceEqDiff, reduceCtorEq, Nat.reduceAdd, Nat.reduceLT, Nat.reduceLeDiff, e0, e3, e8, e9, e10, e11]
      · rintro ⟨q, d2⟩ f H' ⟨p1, rfl, p2, e0, e3, e8, e9, e12, hp⟩
        dsimp only at p1 p2 e12 hp ⊢
        cases q with
        | zero =>
          simp only [push_cast, ↓reduceIte, Nat.reduceEqDiff, reduceCtorEq, Nat.reduceAdd, Nat.reduceLT, Nat.reduceLeDiff, e0, e3, e8, e9, e12, g2, g2']
          have hb1 : d1 = heapBuild (ltC c) hi a ((hi - 1) / 2 + 1) d := hr
          have hb2 : d2 = heapPop (ltC c) a hi d1 := hp
          rw [heapSort, hhi, ← hb1, ← hb2]
        | succ q =>
          have g1 : ((q + 1 : Nat) : Int) - 1 = q := by omega
          rw [g1] at e12
          have g2 : (q : Int) ≥ 0 := by omega
          have g3 : IntKind.i64.wrap ((q : Int) - 1) = (q : Int) - 1 := aE (by omega) (by omega)
          have g4 : IntKind.i64.wrap ((a : Int) + q) = a + q := aE (by omega) (by omega)
          have i1 : aF sz (.ref sz t 0 m cp ex) (.int .i64 ((a : Int) + q)) = some (.ptr t (a + q) 0) := aP (by omega) (by omega)
          have i2 : aF sz (.ref sz t 0 m cp ex) (.int .i64 (a : Int)) = some (.ptr t a 0) := aP rfl (by omega)
          have l1 := E.load (d := d2) h (show a + q < d2.size by omega)
          have l2 := E.load (d := d2) h (show a < d2.size by omega)
          have st := E.swap (d := d2) h (show a < d2.size by omega) (show a + q < d2.size by omega)
          simp only [push_cast, ↓reduceIte, Nat.reduceEqDiff, reduceCtorEq, Nat.reduceAdd, Nat.reduceLT, Nat.reduceLeDiff, e0, e3, e8, e9, e12, g2, g4, i1, i2, l1, l2, st.1, st.2]
          have hz : (swp d2 a (a + q)).size = m := by rw [swp_size', p1]
          refine aC.mono (R := fun r H' => H' = SH enc sz t H (siftDown (ltC c) q a 0 (swp d2 a (a + q)))) (by simpa using qL hks E h (swp d2 a (a + q)) hz.symm hs 0 q a (by omega) (by omega)) fun r H' hh => ?_
          subst hh
          simp only [push_cast, ↓reduceIte, Nat.reduceEqDiff, reduceCtorEq, Nat.reduceAdd, Nat.reduceLT, Nat.reduceLeDiff, e0, e3, e8, e9, e12, g3]
          exact ⟨(q, siftDown (ltC c) q a 0 (swp d2 a (a + q))), ⟨by rw [iK _ _ _ (q - 0) _ _ (Nat.le_refl _)]; exact hz, rfl, by show q ≤ hi; omega, rfl, hp⟩, by show q < q + 1; omega⟩
theorem GF {n : FuncId} (hc : aD P n = some (SR sz ag)) (E : cY P enc c sz ag k as0 bs) (h : t < H.length) (d : Array β) {m cp : Nat} {ex : Bool} (hm : m = d.size) (hs : m < 1099511627776) (a b : Nat) (hab : a < b) (hb : b ≤ m) (v : AV) :
    aC P n [.ref sz t 0 m cp ex, .int .i64 a, .int .i64 b, v] (SH enc sz t H d) fun r H' => H' = SH enc sz t H (reverseRange d a b) := by
  refine aU hc (by simp [SR]) ?_
  unfold SR reverseRange
  have w1 : IntKind.i64.wrap ((b : Int) - 1) = ((b - 1 : Nat) : Int) := aX (by omega) (by omega)
  generalize hhi : b - 1 = hi at w1
  simp only [push_cast, ↓reduceIte, Nat.reduceEqDiff, reduceCtorEq, Nat.reduceAdd, Nat.reduceLT, Nat.reduceLeDiff, w1]
  refine aI (fun (s : Nat × Nat × Array β) f H' => s.2.2.size = m ∧ H' = SH enc sz t H s.2.2 ∧ s.1 < 1099511627776 ∧ s.2.1 < m ∧ f 0 = .ref sz t 0 m cp ex ∧ f 8 = .int .i64 s.1 ∧ f 9 = .int .i64 s.2.1 ∧ reverseLoop s.1 s.2.1 s.2.2 = reverseLoop a hi d) (fun s => s.2.1 - s.1) (a, hi, d) ?_ ?_
  · refine ⟨hm.symm, rfl, by show a < _; omega, by show hi < m; omega, ?_⟩
    simp only [push_cast, ↓reduceIte, Nat.reduceEqDiff, reduceCtorEq, Nat.reduceAdd, Nat.reduceLT, Nat.reduceLeDiff, w1]
  · rintro ⟨i, j, d1⟩ f H' ⟨s1, rfl, s2, s3, e0, e8, e9, hr⟩
    dsimp only at s1 s2 s3 e8 e9 hr ⊢
    by_cases hij : i < j
    · have hij' : (i : Int) < j := by omega
      have g1 : IntKind.i64.wrap ((i : Int) + 1) = (i : Int) + 1 := aE (by omega) (by omega)
      have g2 : IntKind.i64.wrap ((j : Int) - 1) = (j : Int) - 1 := aE (by omega) (by omega)
      have i1 : aF sz (.ref sz t 0 m cp ex) (.int .i64 (i : Int)) = some (.ptr t i 0) := aP rfl (by omega)
      have i2 : aF sz (.ref sz t 0 m cp ex) (.int .i64 (j : Int)) = some (.ptr t j 0) := aP rfl (by omega)
      have l1 := E.load (d := d1) h (show i < d1.size by omega)
      have l2 := E.load (d := d1) h (show j < d1.size by omega)
      have st := E.swap (d := d1) h (show i < d1.size by omega) (show j < d1.size by omega)
      simp only [push_cast, ↓reduceIte, Nat.reduceEqDiff, reduceCtorEq, Nat.reduceAdd, Nat.reduceLT, Nat.reduceLeDiff, e0, e8, e9, hij', g1, g2, i1, i2, l1, l2, st.1, st.2]
      refine ⟨(i + 1, j - 1, swp d1 i j), ⟨by rw [swp_size']; exact s1, rfl, by show i + 1 < _; omega, by show j - 1 < m; omega, by show (i : Int) + 1 = ((i + 1 : Nat) : Int); omega, by show (j : Int) - 1 = ((j - 1 : Nat) : Int); omega, ?_⟩, by show j - 1 - (i + 1) < j - i; omega⟩
      rw [← hr]
      conv => rhs; rw [reverseLoop]
      rw [if_pos hij]
    · have hij' : ¬ (i : Int) < j := by omega
      simp only [push_cast, ↓reduceIte, Nat.reduceEqDiff, reduceCtorEq, Nat.reduceAdd, Nat.reduceLT, Nat.reduceLeDiff, e0, e8, e9, hij']
      rw [← hr, reverseLoop, if_neg hij]
end
end Go.Eng
end
section
namespace Go.Eng
open Go Go.Sort
set_option linter.unusedSimpArgs false
set_option linter.unusedVariables false
set_option linter.unusedSectionVars false
set_option maxRecDepth 10000
def nT (sz : Nat) (ag : Bool) : AC := (.block 8 (.loop (.seq (.seq (.ops [oo 178 (.mov (.t 12)), oo 179 (.mov (.t 13)), oo 180 (.bin .leq (.t 178) (.t 179)), oo 181 (.mov (.t 180)), og 182 181 true (.mov (.t 4)), og 183 181 true (.mov (.t 0)), og 184 181 true (.mov (.t 13)), og 185 181 true (.iaddr sz (.t 183) (.t 184)), og 186 181 true (.load ag sz (.t 185)), og 187 181 true (.mov (.t 0)), og 188 181 true (.mov (.t 1)), og 189 181 true (.iaddr sz (.t 187) (.t 188)), og 190 181 true (.load ag sz (.t 189)), og 191 181 true (.callv (.t 182) [(.t 186), (.t 190)]), og 192 181 true (.bin .lss (.t 191) (.v (.int .i64 0))), og 193 181 true (.un .not (.t 192)), oo 194 (.pick (.t 181) (.t 193) (.v (.bool false))), oo 123 (.mov (.t 178)), oo 124 (.mov (.t 179)), oo 125 (.mov (.t 180)), oo 126 (.mov (.t 181)), oo 127 (.mov (.t 182)), oo 128 (.mov (.t 183)), oo 129 (.mov (.t 184)), oo 130 (.mov (.t 185)), oo 131 (.mov (.t 186)), oo 132 (.mov (.t 187)), oo 133 (.mov (.t 188)), oo 134 (.mov (.t 189)), oo 135 (.mov (.t 190)), oo 136 (.mov (.t 191)), oo 137 (.mov (.t 192)), oo 138 (.mov (.t 193)), oo 139 (.mov (.t 194))]) (.cond (.t 139) .skip (.exit 8))) (.block 9 (.ops [oo 140 (.mov (.t 13)), oo 141 (.bin .sub (.t 140) (.v (.int .i64 1))), oo 13 (.mov (.t 141))])))))
def nV (sz : Nat) (ag : Bool) : AC := (.block 6 (.loop (.seq (.seq (.ops [oo 178 (.mov (.t 12)), oo 179 (.mov (.t 13)), oo 180 (.bin .leq (.t 178) (.t 179)), oo 181 (.mov (.t 180)), og 182 181 true (.mov (.t 4)), og 183 181 true (.mov (.t 0)), og 184 181 true (.mov (.t 12)), og 185 181 true (.iaddr sz (.t 183) (.t 184)), og 186 181 true (.load ag sz (.t 185)), og 187 181 true (.mov (.t 0)), og 188 181 true (.mov (.t 1)), og 189 181 true (.iaddr sz (.t 187) (.t 188)), og 190 181 true (.load ag sz (.t 189)), og 191 181 true (.callv (.t 182) [(.t 186), (.t 190)]), og 192 181 true (.bin .lss (.t 191) (.v (.int .i64 0))), oo 193 (.pick (.t 181) (.t 192) (.v (.bool false))), oo 105 (.mov (.t 178)), oo 106 (.mov (.t 179)), oo 107 (.mov (.t 180)), oo 108 (.mov (.t 181)), oo 109 (.mov (.t 182)), oo 110 (.mov (.t 183)), oo 111 (.mov (.t 184)), oo 112 (.mov (.t 185)), oo 113 (.mov (.t 186)), oo 114 (.mov (.t 187)), oo 115 (.mov (.t 188)), oo 116 (.mov (.t 189)), oo 117 (.mov (.t 190)), oo 118 (.mov (.t 191)), oo 119 (.mov (.t 192)), oo 120 (.mov (.t 193))]) (.cond (.t 120) .skip (.exit 6))) (.block 7 (.ops [oo 121 (.mov (.t 12)), oo 122 (.bin .add (.t 121) (.v (.int .i64 1))), oo 12 (.mov (.t 122))])))))
def nW (sz : Nat) (ag : Bool) : AC := (.block 4 (.loop (.block 5 (.seq (nV sz ag) (.seq (nT sz ag) (.seq (.seq (.ops [oo 142 (.mov (.t 12)), oo 143 (.mov (.t 13)), oo 144 (.bin .gtr (.t 142) (.t 143))]) (.cond (.t 144) (.exit 4) .skip)) (.seq (.ops [oo 178 (.mov (.t 0)), oo 179 (.mov (.t 12)), oo 180 (.mov (.t 0)), oo 181 (.mov (.t 13)), oo 182 (.mov (.t 0)), oo 183 (.mov (.t 13)), oo 184 (.iaddr sz (.t 182) (.t 183)), oo 185 (.load ag sz (.t 184)), oo 186 (.mov (.t 0)), oo 187 (.mov (.t 12)), oo 188 (.iaddr sz (.t 186) (.t 187)), oo 189 (.load ag sz (.t 188)), oo 190 (.iaddr sz (.t 178) (.t 179)), oo 191 (.store sz (.t 190) (.t 185)), oo 192 (.iaddr sz (.t 180) (.t 181)), oo 193 (.store sz (.t 192) (.t 189)), oo 145 (.mov (.t 178)), oo 146 (.mov (.t 179)), oo 147 (.mov (.t 180)), oo 148 (.mov (.t 181)), oo 149 (.mov (.t 182)), oo 150 (.mov (.t 183)), oo 151 (.mov (.t 184)), oo 152 (.mov (.t 185)), oo 153 (.mov (.t 186)), oo 154 (.mov (.t 187)), oo 155 (.mov (.t 188)), oo 156 (.mov (.t 189)), oo 157 (.mov (.t 190)), oo 158 (.mov (.t 192))]) (.seq (.ops [oo 159 (.mov (.t 12)), oo 160 (.bin .add (.t 159) (.v (.int .i64 1))), oo 12 (.mov (.t 160))]) (.ops [oo 161 (.mov (.t 13)), oo 162 (.bin .sub (.t 161) (.v (.int .i64 1))), oo 13 (.mov (.t 162))])))))))))
def nX (sz : Nat) (ag : Bool) : AC := (.block 2 (.loop (.seq (.seq (.ops [oo 178 (.mov (.t 12)), oo 179 (.mov (.t 13)), oo 180 (.bin .leq (.t 178) (.t 179)), oo 181 (.mov (.t 180)), og 182 181 true (.mov (.t 4)), og 183 181 true (.mov (.t 0)), og 184 181 true (.mov (.t 13)), og 185 181 true (.iaddr sz (.t 183) (.t 184)), og 186 181 true (.load ag sz (.t 185)), og 187 181 true (.mov (.t 0)), og 188 181 true (.mov (.t 1)), og 189 181 true (.iaddr sz (.t 187) (.t 188)), og 190 181 true (.load ag sz (.t 189)), og 191 181 true (.callv (.t 182) [(.t 186), (.t 190)]), og 192 181 true (.bin .lss (.t 191) (.v (.int .i64 0))), og 193 181 true (.un .not (.t 192)), oo 194 (.pick (.t 181) (.t 193) (.v (.bool false))), oo 50 (.mov (.t 178)), oo 51 (.mov (.t 179)), oo 52 (.mov (.t 180)), oo 53 (.mov (.t 181)), oo 54 (.mov (.t 182)), oo 55 (.mov (.t 183)), oo 56 (.mov (.t 184)), oo 57 (.mov (.t 185)), oo 58 (.mov (.t 186)), oo 59 (.mov (.t 187)), oo 60 (.mov (.t 188)), oo 61 (.mov (.t 189)), oo 62 (.mov (.t 190)), oo 63 (.mov (.t 191)), oo 64 (.mov (.t 192)), oo 65 (.mov (.t 193)), oo 66 (.mov (.t 194))]) (.cond (.t 66) .skip (.exit 2))) (.block 3 (.ops [oo 67 (.mov (.t 13)), oo 68 (.bin .sub (.t 67) (.v (.int .i64 1))), oo 13 (.mov (.t 68))])))))
def nY (sz : Nat) (ag : Bool) : AC := (.block 0 (.loop (.seq (.seq (.ops [oo 178 (.mov (.t 12)), oo 179 (.mov (.t 13)), oo 180 (.bin .leq (.t 178) (.t 179)), oo 181 (.mov (.t 180)), og 182 181 true (.mov (.t 4)), og 183 181 true (.mov (.t 0)), og 184 181 true (.mov (.t 12)), og 185 181 true (.iaddr sz (.t 183) (.t 184)), og 186 181 true (.load ag sz (.t 185)), og 187 181 true (.mov (.t 0)), og 188 181 true (.mov (.t 1)), og 189 181 true (.iaddr sz (.t 187) (.t 188)), og 190 181 true (.load ag sz (.t 189)), og 191 181 true (.callv (.t 182) [(.t 186), (.t 190)]), og 192 181 true (.bin .lss (.t 191) (.v (.int .i64 0))), oo 193 (.pick (.t 181) (.t 192) (.v (.bool false))), oo 32 (.mov (.t 178)), oo 33 (.mov (.t 179)), oo 34 (.mov (.t 180)), oo 35 (.mov (.t 181)), oo 36 (.mov (.t 182)), oo 37 (.mov (.t 183)), oo 38 (.mov (.t 184)), oo 39 (.mov (.t 185)), oo 40 (.mov (.t 186)), oo 41 (.mov (.t 187)), oo 42 (.mov (.t 188)), oo 43 (.mov (.t 189)), oo 44 (.mov (.t 190)), oo 45 (.mov (.t 191)), oo 46 (.mov (.t 192)), oo 47 (.mov (.t 193))]) (.cond (.t 47) .skip (.exit 0))) (.block 1 (.ops [oo 48 (.mov (.t 12)), oo 49 (.bin .add (.t 48) (.v (.int .i64 1))), oo 12 (.mov (.t 49))])))))
def GG (sz : Nat) (ag : Bool) : AFn := ⟨178, 5, [.t 10, .t 11], (.seq (.ops [oo 10 (.mov (.v (.int .i64 0))), oo 11 (.mov (.v (.bool false)))]) (.seq (.ops [oo 178 (.mov (.t 0)), oo 179 (.mov (.t 1)), oo 180 (.mov (.t 0)), oo 181 (.mov (.t 3)), oo 182 (.mov (.t 0)), oo 183 (.mov (.t 3)), oo 184 (.iaddr sz (.t 182) (.t 183)), oo 185 (.load ag sz (.t 184)), oo 186 (.mov (.t 0)), oo 187 (.mov (.t 1)), oo 188 (.iaddr sz (.t 186) (.t 187)), oo 189 (.load ag sz (.t 188)), oo 190 (.iaddr sz (.t 178) (.t 179)), oo 191 (.store sz (.t 190) (.t 185)), oo 192 (.iaddr sz (.t 180) (.t 181)), oo 193 (.store sz (.t 192) (.t 189)), oo 14 (.mov (.t 178)), oo 15 (.mov (.t 179)), oo 16 (.mov (.t 180)), oo 17 (.mov (.t 181)), oo 18 (.mov (.t 182)), oo 19 (.mov (.t 183)), oo 20 (.mov (.t 184)), oo 21 (.mov (.t 185)), oo 22 (.mov (.t 186)), oo 23 (.mov (.t 187)), oo 24 (.mov (.t 188)), oo 25 (.mov (.t 189)), oo 26 (.mov (.t 190)), oo 27 (.mov (.t 192))]) (.seq (.ops [oo 28 (.mov (.t 1)), oo 29 (.bin .add (.t 28) (.v (.int .i64 1))), oo 30 (.mov (.t 2)), oo 31 (.bin .sub (.t 30) (.v (.int .i64 1))), oo 12 (.mov (.t 29)), oo 13 (.mov (.t 31))]) (.seq (nY sz ag) (.seq (nX sz ag) (.seq (.seq (.ops [oo 69 (.mov (.t 12)), oo 70 (.mov (.t 13)), oo 71 (.bin .gtr (.t 69) (.t 70))]) (.cond (.t 71) (.seq (.ops [oo 178 (.mov (.t 0)), oo 179 (.mov (.t 13)), oo 180 (.mov (.t 0)), oo 181 (.mov (.t 1)), oo 182 (.mov (.t 0)), oo 183 (.mov (.t 1)), oo 184 (.iaddr sz (.t 182) (.t 183)), oo 185 (.load ag sz (.t 184)), oo 186 (.mov (.t 0)), oo 187 (.mov (.t 13)), oo 188 (.iaddr sz (.t 186) (.t 187)), oo 189 (.load ag sz (.t 188)), oo 190 (.iaddr sz (.t 178) (.t 179)), oo 191 (.store sz (.t 190) (.t 185)), oo 192 (.iaddr sz (.t 180) (.t 181)), oo 193 (.store sz (.t 192) (.t 189)), oo 72 (.mov (.t 178)), oo 73 (.mov (.t 179)), oo 74 (.mov (.t 180)), oo 75 (.mov (.t 181)), oo 76 (.mov (.t 182)), oo 77 (.mov (.t 183)), oo 78 (.mov (.t 184)), oo 79 (.mov (.t 185)), oo 80 (.mov (.t 186)), oo 81 (.mov (.t 187)), oo 82 (.mov (.t 188)), oo 83 (.mov (.t 189)), oo 84 (.mov (.t 190)), oo 85 (.mov (.t 192))]) (.seq (.ops [oo 86 (.mov (.t 13)), oo 10 (.mov (.t 86)), oo 11 (.mov (.v (.bool true)))]) .ret)) .skip)) (.seq (.ops [oo 178 (.mov (.t 0)), oo 179 (.mov (.t 12)), oo 180 (.mov (.t 0)), oo 181 (.mov (.t 13)), oo 182 (.mov (.t 0)), oo 183 (.mov (.t 13)), oo 184 (.iaddr sz (.t 182) (.t 183)), oo 185 (.load ag sz (.t 184)), oo 186 (.mov (.t 0)), oo 187 (.mov (.t 12)), oo 188 (.iaddr sz (.t 186) (.t 187)), oo 189 (.load ag sz (.t 188)), oo 190 (.iaddr sz (.t 178) (.t 179)), oo 191 (.store sz (.t 190) (.t 185)), oo 192 (.iaddr sz (.t 180) (.t 181)), oo 193 (.store sz (.t 192) (.t 189)), oo 87 (.mov (.t 178)), oo 88 (.mov (.t 179)), oo 89 (.mov (.t 180)), oo 90 (.mov (.t 181)), oo 91 (.mov (.t 182)), oo 92 (.mov (.t 183)), oo 93 (.mov (.t 184)), oo 94 (.mov (.t 185)), oo 95 (.mov (.t 186)), oo 96 (.mov (.t 187)), oo 97 (.mov (.t 188)), oo 98 (.mov (.t 189)), oo 99 (.mov (.t 190)), oo 100 (.mov (.t 192))]) (.seq (.ops [oo 101 (.mov (.t 12)), oo 102 (.bin .add (.t 101) (.v (.int .i64 1))), oo 12 (.mov (.t 102))]) (.seq (.ops [oo 103 (.mov (.t 13)), oo 104 (.bin .sub (.t 103) (.v (.int .i64 1))), oo 13 (.mov (.t 104))]) (.seq (nW sz ag) (.seq (.ops [oo 178 (.mov (.t 0)), oo 179 (.mov (.t 13)), oo 180 (.mov (.t 0)), oo 181 (.mov (.t 1)), oo 182 (.mov (.t 0)), oo 183 (.mov (.t 1)), oo 184 (.iaddr sz (.t 182) (.t 183)), oo 185 (.load ag sz (.t 184)), oo 186 (.mov (.t 0)), oo 187 (.mov (.t 13)), oo 188 (.iaddr sz (.t 186) (.t 187)), oo 189 (.load ag sz (.t 188)), oo 190 (.iaddr sz (.t 178) (.t 179)), oo 191 (.store sz (.t 190) (.t 185)), oo 192 (.iaddr sz (.t 180) (.t 181)), oo 193 (.store sz (.t 192) (.t 189)), oo 163 (.mov (.t 178)), oo 164 (.mov (.t 179)), oo 165 (.mov (.t 180)), oo 166 (.mov (.t 181)), oo 167 (.mov (.t 182)), oo 168 (.mov (.t 183)), oo 169 (.mov (.t 184)), oo 170 (.mov (.t 185)), oo 171 (.mov (.t 186)), oo 172 (.mov (.t 187)), oo 173 (.mov (.t 188)), oo 174 (.mov (.t 189)), oo 175 (.mov (.t 190)), oo 176 (.mov (.t 192))]) (.seq (.ops [oo 177 (.mov (.t 13)), oo 10 (.mov (.t 177)), oo 11 (.mov (.v (.bool false)))]) .ret))))))))))))⟩
def tF (sz : Nat) (ag : Bool) : AC := (.block 4 (.loop (.seq (.seq (.ops [oo 90 (.mov (.t 11)), oo 91 (.mov (.t 12)), oo 92 (.bin .leq (.t 90) (.t 91)), oo 93 (.mov (.t 92)), og 94 93 true (.mov (.t 4)), og 95 93 true (.mov (.t 0)), og 96 93 true (.mov (.t 1)), og 97 93 true (.iaddr sz (.t 95) (.t 96)), og 98 93 true (.load ag sz (.t 97)), og 99 93 true (.mov (.t 0)), og 100 93 true (.mov (.t 12)), og 101 93 true (.iaddr sz (.t 99) (.t 100)), og 102 93 true (.load ag sz (.t 101)), og 103 93 true (.callv (.t 94) [(.t 98), (.t 102)]), og 104 93 true (.bin .lss (.t 103) (.v (.int .i64 0))), oo 105 (.pick (.t 93) (.t 104) (.v (.bool false))), oo 50 (.mov (.t 90)), oo 51 (.mov (.t 91)), oo 52 (.mov (.t 92)), oo 53 (.mov (.t 93)), oo 54 (.mov (.t 94)), oo 55 (.mov (.t 95)), oo 56 (.mov (.t 96)), oo 57 (.mov (.t 97)), oo 58 (.mov (.t 98)), oo 59 (.mov (.t 99)), oo 60 (.mov (.t 100)), oo 61 (.mov (.t 101)), oo 62 (.mov (.t 102)), oo 63 (.mov (.t 103)), oo 64 (.mov (.t 104)), oo 65 (.mov (.t 105))]) (.cond (.t 65) .skip (.exit 4))) (.block 5 (.ops [oo 66 (.mov (.t 12)), oo 67 (.bin .sub (.t 66) (.v (.int .i64 1))), oo 12 (.mov (.t 67))])))))
def tG (sz : Nat) (ag : Bool) : AC := (.block 2 (.loop (.seq (.seq (.ops [oo 90 (.mov (.t 11)), oo 91 (.mov (.t 12)), oo 92 (.bin .leq (.t 90) (.t 91)), oo 93 (.mov (.t 92)), og 94 93 true (.mov (.t 4)), og 95 93 true (.mov (.t 0)), og 96 93 true (.mov (.t 1)), og 97 93 true (.iaddr sz (.t 95) (.t 96)), og 98 93 true (.load ag sz (.t 97)), og 99 93 true (.mov (.t 0)), og 100 93 true (.mov (.t 11)), og 101 93 true (.iaddr sz (.t 99) (.t 100)), og 102 93 true (.load ag sz (.t 101)), og 103 93 true (.callv (.t 94) [(.t 98), (.t 102)]), og 104 93 true (.bin .lss (.t 103) (.v (.int .i64 0))), og 105 93 true (.un .not (.t 104)), oo 106 (.pick (.t 93) (.t 105) (.v (.bool false))), oo 31 (.mov (.t 90)), oo 32 (.mov (.t 91)), oo 33 (.mov (.t 92)), oo 34 (.mov (.t 93)), oo 35 (.mov (.t 94)), oo 36 (.mov (.t 95)), oo 37 (.mov (.t 96)), oo 38 (.mov (.t 97)), oo 39 (.mov (.t 98)), oo 40 (.mov (.t 99)), oo 41 (.mov (.t 100)), oo 42 (.mov (.t 101)), oo 43 (.mov (.t 102)), oo 44 (.mov (.t 103)), oo 45 (.mov (.t 104)), oo 46 (.mov (.t 105)), oo 47 (.mov (.t 106))]) (.cond (.t 47) .skip (.exit 2))) (.block 3 (.ops [oo 48 (.mov (.t 11)), oo 49 (.bin .add (.t 48) (.v (.int .i64 1))), oo 11 (.mov (.t 49))])))))
def tH (sz : Nat) (ag : Bool) : AC := (.block 0 (.loop (.block 1 (.seq (tG sz ag) (.seq (tF sz ag) (.seq (.seq (.ops [oo 68 (.mov (.t 11)), oo 69 (.mov (.t 12)), oo 70 (.bin .gtr (.t 68) (.t 69))]) (.cond (.t 70) (.exit 0) .skip)) (.seq (.ops [oo 90 (.mov (.t 0)), oo 91 (.mov (.t 11)), oo 92 (.mov (.t 0)), oo 93 (.mov (.t 12)), oo 94 (.mov (.t 0)), oo 95 (.mov (.t 12)), oo 96 (.iaddr sz (.t 94) (.t 95)), oo 97 (.load ag sz (.t 96)), oo 98 (.mov (.t 0)), oo 99 (.mov (.t 11)), oo 100 (.iaddr sz (.t 98) (.t 99)), oo 101 (.load ag sz (.t 100)), oo 102 (.iaddr sz (.t 90) (.t 91)), oo 103 (.store sz (.t 102) (.t 97)), oo 104 (.iaddr sz (.t 92) (.t 93)), oo 105 (.store sz (.t 104) (.t 101)), oo 71 (.mov (.t 90)), oo 72 (.mov (.t 91)), oo 73 (.mov (.t 92)), oo 74 (.mov (.t 93)), oo 75 (.mov (.t 94)), oo 76 (.mov (.t 95)), oo 77 (.mov (.t 96)), oo 78 (.mov (.t 97)), oo 79 (.mov (.t 98)), oo 80 (.mov (.t 99)), oo 81 (.mov (.t 100)), oo 82 (.mov (.t 101)), oo 83 (.mov (.t 102)), oo 84 (.mov (.t 104))]) (.seq (.ops [oo 85 (.mov (.t 11)), oo 86 (.bin .add (.t 85) (.v (.int .i64 1))), oo 11 (.mov (.t 86))]) (.ops [oo 87 (.mov (.t 12)), oo 88 (.bin .sub (.t 87) (.v (.int .i64 1))), oo 12 (.mov (.t 88))])))))))))
def SS (sz : Nat) (ag : Bool) : AFn := ⟨90, 5, [.t 10], (.seq (.ops [oo 10 (.mov (.v (.int .i64 0)))]) (.seq (.ops [oo 90 (.mov (.t 0)), oo 91 (.mov (.t 1)), oo 92 (.mov (.t 0)), oo 93 (.mov (.t 3)), oo 94 (.mov (.t 0)), oo 95 (.mov (.t 3)), oo 96 (.iaddr sz (.t 94) (.t 95)), oo 97 (.load ag sz (.t 96)), oo 98 (.mov (.t 0)), oo 99 (.mov (.t 1)), oo 100 (.iaddr sz (.t 98) (.t 99)), oo 101 (.load ag sz (.t 100)), oo 102 (.iaddr sz (.t 90) (.t 91)), oo 103 (.store sz (.t 102) (.t 97)), oo 104 (.iaddr sz (.t 92) (.t 93)), oo 105 (.store sz (.t 104) (.t 101)), oo 13 (.mov (.t 90)), oo 14 (.mov (.t 91)), oo 15 (.mov (.t 92)), oo 16 (.mov (.t 93)), oo 17 (.mov (.t 94)), oo 18 (.mov (.t 95)), oo 19 (.mov (.t 96)), oo 20 (.mov (.t 97)), oo 21 (.mov (.t 98)), oo 22 (.mov (.t 99)), oo 23 (.mov (.t 100)), oo 24 (.mov (.t 101)), oo 25 (.mov (.t 102)), oo 26 (.mov (.t 104))]) (.seq (.ops [oo 27 (.mov (.t 1)), oo 28 (.bin .add (.t 27) (.v (.int .i64 1))), oo 29 (.mov (.t 2)), oo 30 (.bin .sub (.t 29) (.v (.int .i64 1))), oo 11 (.mov (.t 28)), oo 12 (.mov (.t 30))]) (.seq (tH sz ag) (.seq (.ops [oo 89 (.mov (.t 11)), oo 10 (.mov (.t 89))]) .ret)))))⟩
theorem dF {β : Type} [Inhabited β] (p : β → Bool) (d : Array β) {j i : Nat} (h : ¬ (i ≤ j ∧ p d[i]! = true)) : scanUp p d j i = i := by
  rw [scanUp, if_neg (by simpa using h)]
theorem lD {β : Type} [Inhabited β] (p : β → Bool) (d : Array β) {j i : Nat} (h : i ≤ j) (h2 : p d[i]! = true) : scanUp p d j i = scanUp p d j (i + 1) := by
  rw [scanUp, if_pos (by simp [h, h2])]
theorem cB {β : Type} [Inhabited β] (p : β → Bool) (d : Array β) {i j : Nat} (h : ¬ (i ≤ j ∧ p d[j]! = true)) : scanDown p d i j = j := by
  cases j with
  | zero => rfl
  | succ j => rw [scanDown, if_neg (by simpa using h)]
theorem gV {β : Type} [Inhabited β] (p : β → Bool) (d : Array β) {i j : Nat} (h : i ≤ j + 1) (h2 : p d[j + 1]! = true) : scanDown p d i (j + 1) = scanDown p d i j := by
  rw [scanDown, if_pos (by simp [h, h2])]
section
variable {β : Type} [Inhabited β] {enc : β → AV} {sz t : Nat} {H : AH} {P : Program} {c : β → β → Int} {ag : Bool} {k : FuncId} {as0 bs : List AV}
theorem wY (E : cY P enc c sz ag k as0 bs) (h : t < H.length) {d : Array β} {m cp a : Nat} {ex : Bool} (hm : m = d.size) (hs : m < 1099511627776) (ha : a < m) {i0 j : Nat} (h0 : i0 ≤ m) (hj : j < m) {f : AF} {Q : AE → AF → AH → Prop}
    (e0 : f 0 = .ref sz t 0 m cp ex) (e1 : f 1 = .int .i64 a) (e4 : f 4 = .fn k as0 bs) (ej : f 13 = .int .i64 j) (ei : f 12 = .int .i64 i0)
    (hQ : ∀ f : AF, f 0 = .ref sz t 0 m cp ex → f 1 = .int .i64 a → f 4 = .fn k as0 bs → f 13 = .int .i64 j → f 12 = .int .i64 (scanUp (fun x => ltC c x d[a]!) d j i0 : Nat) → scanUp (fun x => ltC c x d[a]!) d j i0 ≤ m → Q .normal f (SH enc sz t H d)) :
    (nY sz ag).wp P Q f (SH enc sz t H d) := by
  have ia : aF sz (.ref sz t 0 m cp ex) (.int .i64 (a : Int)) = some (.ptr t a 0) := aP rfl ha
  have la := E.load (d := d) h (show a < d.size by omega)
  unfold nY
  simp only [push_cast, ↓reduceIte, Nat.reduceEqDiff, reduceCtorEq, Nat.reduceAdd, Nat.reduceLT, Nat.reduceLeDiff]
  refine aI (fun (i : Nat) f H' => H' = SH enc sz t H d ∧ i0 ≤ i ∧ i ≤ m ∧ f 0 = .ref sz t 0 m cp ex ∧ f 1 = .int .i64 a ∧ f 4 = .fn k as0 bs ∧ f 13 = .int .i64 j ∧ f 12 = .int .i64 i ∧ scanUp (fun x => ltC c x d[a]!) d j i = scanUp (fun x => ltC c x d[a]!) d j i0) (fun i => j + 1 - i) i0 ⟨rfl, Nat.le_refl _, h0, e0, e1, e4, ej, ei, rfl⟩ ?_
  rintro i f H' ⟨rfl, s0, s1, e0, e1, e4, ej, ei, hi⟩
  by_cases hij : i ≤ j
  case neg =>
    have hij' : ¬ (i : Int) ≤ j := by omega
    simp only [push_cast, ↓reduceIte, Nat.reduceEqDiff, reduceCtorEq, Nat.reduceAdd, Nat.reduceLT, Nat.reduceLeDiff, e0, e1, e4, ei, ej, hij', decide_false]
    rw [dF _ _ (by omega)] at hi
    refine hQ _ ?_ ?_ ?_ ?_ ?_ (by omega) <;> simp only [push_cast, ↓reduceIte, Nat.reduceEqDiff, reduceCtorEq, Nat.reduceAdd, Nat.reduceLT, Nat.reduceLeDiff, e0, e1, e4, ei, ej, ← hi]
  have hij' : (i : Int) ≤ j := by omega
  have x1 : aF sz (.ref sz t 0 m cp ex) (.int .i64 (i : Int)) = some (.ptr t i 0) := aP rfl (by omega)
  have x2 := E.load (d := d) h (show i < d.size by omega)
  have x3 : IntKind.i64.wrap ((i : Int) + 1) = (i : Int) + 1 := aE (by omega) (by omega)
  simp only [push_cast, ↓reduceIte, Nat.reduceEqDiff, reduceCtorEq, Nat.reduceAdd, Nat.reduceLT, Nat.reduceLeDiff, e0, e1, e4, ei, ej, hij', decide_true, x1, x2, ia, la]
  refine aC.look (E.cmp d[i]! d[a]! _) ?_
  by_cases hlt : c d[i]! d[a]! < 0
  · simp only [push_cast, ↓reduceIte, Nat.reduceEqDiff, reduceCtorEq, Nat.reduceAdd, Nat.reduceLT, Nat.reduceLeDiff, e0, e1, e4, ei, ej, hlt, decide_true, x3]
    refine ⟨i + 1, ⟨by omega, by omega, by show (i : Int) + 1 = ((i + 1 : Nat) : Int); omega, ?_⟩, by omega⟩
    rw [← hi, lD _ _ hij (by simp [ltC, hlt])]
  · simp only [push_cast, ↓reduceIte, Nat.reduceEqDiff, reduceCtorEq, Nat.reduceAdd, Nat.reduceLT, Nat.reduceLeDiff, e0, e1, e4, ei, ej, hlt, decide_false, x3]
    rw [dF _ _ (by simp [ltC, hlt])] at hi
    refine hQ _ ?_ ?_ ?_ ?_ ?_ (by omega) <;> simp only [push_cast, ↓reduceIte, Nat.reduceEqDiff, reduceCtorEq, Nat.reduceAdd, Nat.reduceLT, Nat.reduceLeDiff, e0, e1, e4, ei, ej, ← hi]
theorem wZ (E : cY P enc c sz ag k as0 bs) (h : t < H.length) {d : Array β} {m cp a : Nat} {ex : Bool} (hm : m = d.size) (hs : m < 1099511627776) (ha : a < m) {i j0 : Nat} (hi : 0 < i) (h0 : j0 < m) {f : AF} {Q : AE → AF → AH → Prop}
    (e0 : f 0 = .ref sz t 0 m cp ex) (e1 : f 1 = .int .i64 a) (e4 : f 4 = .fn k as0 bs) (ei : f 12 = .int .i64 i) (ej : f 13 = .int .i64 j0)
    (hQ : ∀ f : AF, f 0 = .ref sz t 0 m cp ex → f 1 = .int .i64 a → f 4 = .fn k as0 bs → f 12 = .int .i64 i → f 13 = .int .i64 (scanDown (fun x => !ltC c x d[a]!) d i j0 : Nat) → scanDown (fun x => !ltC c x d[a]!) d i j0 < m → Q .normal f (SH enc sz t H d)) :
    (nX sz ag).wp P Q f (SH enc sz t H d) := by
  have ia : aF sz (.ref sz t 0 m cp ex) (.int .i64 (a : Int)) = some (.ptr t a 0) := aP rfl ha
  have la := E.load (d := d) h (show a < d.size by omega)
  unfold nX
  simp only [push_cast, ↓reduceIte, Nat.reduceEqDiff, reduceCtorEq, Nat.reduceAdd, Nat.reduceLT, Nat.reduceLeDiff]
  refine aI (fun (j : Nat) f H' => H' = SH enc sz t H d ∧ j < m ∧ f 0 = .ref sz t 0 m cp ex ∧ f 1 = .int .i64 a ∧ f 4 = .fn k as0 bs ∧ f 12 = .int .i64 i ∧ f 13 = .int .i64 j ∧ scanDown (fun x => !ltC c x d[a]!) d i j = scanDown (fun x => !ltC c x d[a]!) d i j0) (fun j => j) j0 ⟨rfl, h0, e0, e1, e4, ei, ej, rfl⟩ ?_
  rintro jj f H' ⟨rfl, s1, e0, e1, e4, ei, ej, hj⟩
  by_cases hij : i ≤ jj
  case neg =>
    have hij' : ¬ (i : Int) ≤ jj := by omega
    simp only [push_cast, ↓reduceIte, Nat.reduceEqDiff, reduceCtorEq, Nat.reduceAdd, Nat.reduceLT, Nat.reduceLeDiff, e0, e1, e4, ei, ej, hij', decide_false]
    rw [cB _ _ (by omega)] at hj
    refine hQ _ ?_ ?_ ?_ ?_ ?_ (by omega) <;> simp only [push_cast, ↓reduceIte, Nat.reduceEqDiff, reduceCtorEq, Nat.reduceAdd, Nat.reduceLT, Nat.reduceLeDiff, e0, e1, e4, ei, ej, ← hj]
  obtain ⟨j, rfl⟩ : ∃ q, jj = q + 1 := ⟨jj - 1, by omega⟩
  have hij' : (i : Int) ≤ (j : Int) + 1 := by omega
  have x1 : aF sz (.ref sz t 0 m cp ex) (.int .i64 ((j : Int) + 1)) = some (.ptr t (j + 1) 0) := aP (by omega) (by omega)
  have x2 := E.load (d := d) h (show j + 1 < d.size by omega)
  have x3 : IntKind.i64.wrap ((j : Int) + 1 - 1) = j := by rw [aE (by omega) (by omega)]; omega
  simp only [push_cast, ↓reduceIte, Nat.reduceEqDiff, reduceCtorEq, Nat.reduceAdd, Nat.reduceLT, Nat.reduceLeDiff, e0, e1, e4, ei, ej, hij', decide_true, x1, x2, ia, la]
  refine aC.look (E.cmp d[j + 1]! d[a]! _) ?_
  by_cases hlt : c d[j + 1]! d[a]! < 0
  · simp only [push_cast, ↓reduceIte, Nat.reduceEqDiff, reduceCtorEq, Nat.reduceAdd, Nat.reduceLT, Nat.reduceLeDiff, e0, e1, e4, ei, ej, hlt, decide_true, x3]
    rw [cB _ _ (by simp [ltC, hlt])] at hj
    refine hQ _ ?_ ?_ ?_ ?_ ?_ (by omega) <;> simp only [push_cast, ↓reduceIte, Nat.reduceEqDiff, reduceCtorEq, Nat.reduceAdd, Nat.reduceLT, Nat.reduceLeDiff, e0, e1, e4, ei, ej, ← hj]
  · simp only [push_cast, ↓reduceIte, Nat.reduceEqDiff, reduceCtorEq, Nat.reduceAdd, Nat.reduceLT, Nat.reduceLeDiff, e0, e1, e4, ei, ej, hlt, decide_false, x3]
    refine ⟨j, ⟨by omega, rfl, ?_⟩, by omega⟩
    rw [← hj, gV _ _ hij (by simp [ltC, hlt])]
theorem xA (E : cY P enc c sz ag k as0 bs) (h : t < H.length) {d : Array β} {m cp a : Nat} {ex : Bool} (hm : m = d.size) (hs : m < 1099511627776) (ha : a < m) {i0 j : Nat} (h0 : i0 ≤ m) (hj : j < m) {f : AF} {Q : AE → AF → AH → Prop}
    (e0 : f 0 = .ref sz t 0 m cp ex) (e1 : f 1 = .int .i64 a) (e4 : f 4 = .fn k as0 bs) (ej : f 13 = .int .i64 j) (ei : f 12 = .int .i64 i0)
    (hQ : ∀ f : AF, f 0 = .ref sz t 0 m cp ex → f 1 = .int .i64 a → f 4 = .fn k as0 bs → f 13 = .int .i64 j → f 12 = .int .i64 (scanUp (fun x => ltC c x d[a]!) d j i0 : Nat) → scanUp (fun x => ltC c x d[a]!) d j i0 ≤ m → Q .normal f (SH enc sz t H d)) :
    (nV sz ag).wp P Q f (SH enc sz t H d) := by
  have ia : aF sz (.ref sz t 0 m cp ex) (.int .i64 (a : Int)) = some (.ptr t a 0) := aP rfl ha
  have la := E.load (d := d) h (show a < d.size by omega)
  unfold nV
  simp only [push_cast, ↓reduceIte, Nat.reduceEqDiff, reduceCtorEq, Nat.reduceAdd, Nat.reduceLT, Nat.reduceLeDiff]
  refine aI (fun (i : Nat) f H' => H' = SH enc sz t H d ∧ i0 ≤ i ∧ i ≤ m ∧ f 0 = .ref sz t 0 m cp ex ∧ f 1 = .int .i64 a ∧ f 4 = .fn k as0 bs ∧ f 13 = .int .i64 j ∧ f 12 = .int .i64 i ∧ scanUp (fun x => ltC c x d[a]!) d j i = scanUp (fun x => ltC c x d[a]!) d j i0) (fun i => j + 1 - i) i0 ⟨rfl, Nat.le_refl _, h0, e0, e1, e4, ej, ei, rfl⟩ ?_
  rintro i f H' ⟨rfl, s0, s1, e0, e1, e4, ej, ei, hi⟩
  by_cases hij : i ≤ j
  case neg =>
    have hij' : ¬ (i : Int) ≤ j := by omega
    simp only [push_cast, ↓reduceIte, Nat.reduceEqDiff, reduceCtorEq, Nat.reduceAdd, Nat.reduceLT, Nat.reduceLeDiff, e0, e1, e4, ei, ej, hij', decide_false]
    rw [dF _ _ (by omega)] at hi
    refine hQ _ ?_ ?_ ?_ ?_ ?_ (by omega) <;> simp only [push_cast, ↓reduceIte, Nat.reduceEqDiff, reduceCtorEq, Nat.reduceAdd, Nat.reduceLT, Nat.reduceLeDiff, e0, e1, e4, ei, ej, ← hi]
  have hij' : (i : Int) ≤ j := by omega
  have x1 : aF sz (.ref sz t 0 m cp ex) (.int .i64 (i : Int)) = some (.ptr t i 0) := aP rfl (by omega)
  have x2 := E.load (d := d) h (show i < d.size by omega)
  have x3 : IntKind.i64.wrap ((i : Int) + 1) = (i : Int) + 1 := aE (by omega) (by omega)
  simp only [push_cast, ↓reduceIte, Nat.reduceEqDiff, reduceCtorEq, Nat.reduceAdd, Nat.reduceLT, Nat.reduceLeDiff, e0, e1, e4, ei, ej, hij', decide_true, x1, x2, ia, la]
  refine aC.look (E.cmp d[i]! d[a]! _) ?_
  by_cases hlt : c d[i]! d[a]! < 0
  · simp only [push_cast, ↓reduceIte, Nat.reduceEqDiff, reduceCtorEq, Nat.reduceAdd, Nat.reduceLT, Nat.reduceLeDiff, e0, e1, e4, ei, ej, hlt, decide_true, x3]
    refine ⟨i + 1, ⟨by omega, by omega, by show (i : Int) + 1 = ((i + 1 : Nat) : Int); omega, ?_⟩, by omega⟩
    rw [← hi, lD _ _ hij (by simp [ltC, hlt])]
  · simp only [push_cast, ↓reduceIte, Nat.reduceEqDiff, reduceCtorEq, Nat.reduceAdd, Nat.reduceLT, Nat.reduceLeDiff, e0, e1, e4, ei, ej, hlt, decide_false, x3]
    rw [dF _ _ (by simp [ltC, hlt])] at hi
    refine hQ _ ?_ ?_ ?_ ?_ ?_ (by omega) <;> simp only [push_cast, ↓reduceIte, Nat.reduceEqDiff, reduceCtorEq, Nat.reduceAdd, Nat.reduceLT, Nat.reduceLeDiff, e0, e1, e4, ei, ej, ← hi]
theorem xB (E : cY P enc c sz ag k as0 bs) (h : t < H.length) {d : Array β} {m cp a : Nat} {ex : Bool} (hm : m = d.size) (hs : m < 1099511627776) (ha : a < m) {i j0 : Nat} (hi : 0 < i) (h0 : j0 < m) {f : AF} {Q : AE → AF → AH → Prop}
    (e0 : f 0 = .ref sz t 0 m cp ex) (e1 : f 1 = .int .i64 a) (e4 : f 4 = .fn k as0 bs) (ei : f 12 = .int .i64 i) (ej : f 13 = .int .i64 j0)
    (hQ : ∀ f : AF, f 0 = .ref sz t 0 m cp ex → f 1 = .int .i64 a → f 4 = .fn k as0 bs → f 12 = .int .i64 i → f 13 = .int .i64 (scanDown (fun x => !ltC c x d[a]!) d i j0 : Nat) → scanDown (fun x => !ltC c x d[a]!) d i j0 < m → Q .normal f (SH enc sz t H d)) :
    (nT sz ag).wp P Q f (SH enc sz t H d) := by
  have ia : aF sz (.ref sz t 0 m cp ex) (.int .i64 (a : Int)) = some (.ptr t a 0) := aP rfl ha
  have la := E.load (d := d) h (show a < d.size by omega)
  unfold nT
  simp only [push_cast, ↓reduceIte, Nat.reduceEqDiff, reduceCtorEq, Nat.reduceAdd, Nat.reduceLT, Nat.reduceLeDiff]
  refine aI (fun (j : Nat) f H' => H' = SH enc sz t H d ∧ j < m ∧ f 0 = .ref sz t 0 m cp ex ∧ f 1 = .int .i64 a ∧ f 4 = .fn k as0 bs ∧ f 12 = .int .i64 i ∧ f 13 = .int .i64 j ∧ scanDown (fun x => !ltC c x d[a]!) d i j = scanDown (fun x => !ltC c x d[a]!) d i j0) (fun j => j) j0 ⟨rfl, h0, e0, e1, e4, ei, ej, rfl⟩ ?_
  rintro jj f H' ⟨rfl, s1, e0, e1, e4, ei, ej, hj⟩
  by_cases hij : i ≤ jj
  case neg =>
    have hij' : ¬ (i : Int) ≤ jj := by omega
    simp only [push_cast, ↓reduceIte, Nat.reduceEqDiff, reduceCtorEq, Nat.reduceAdd, Nat.reduceLT, Nat.reduceLeDiff, e0, e1, e4, ei, ej, hij', decide_false]
    rw [cB _ _ (by omega)] at hj
    refine hQ _ ?_ ?_ ?_ ?_ ?_ (by omega) <;> simp only [push_cast, ↓reduceIte, Nat.reduceEqDiff, reduceCtorEq, Nat.reduceAdd, Nat.reduceLT, Nat.reduceLeDiff, e0, e1, e4, ei, ej, ← hj]
  obtain ⟨j, rfl⟩ : ∃ q, jj = q + 1 := ⟨jj - 1, by omega⟩
  have hij' : (i : Int) ≤ (j : Int) + 1 := by omega
  have x1 : aF sz (.ref sz t 0 m cp ex) (.int .i64 ((j : Int) + 1)) = some (.ptr t (j + 1) 0) := aP (by omega) (by omega)
  have x2 := E.load (d := d) h (show j + 1 < d.size by omega)
  have x3 : IntKind.i64.wrap ((j : Int) + 1 - 1) = j := by rw [aE (by omega) (by omega)]; omega
  simp only [push_cast, ↓reduceIte, Nat.reduceEqDiff, reduceCtorEq, Nat.reduceAdd, Nat.reduceLT, Nat.reduceLeDiff, e0, e1, e4, ei, ej, hij', decide_true, x1, x2, ia, la]
  refine aC.look (E.cmp d[j + 1]! d[a]! _) ?_
  by_cases hlt : c d[j + 1]! d[a]! < 0
  · simp only [push_cast, ↓reduceIte, Nat.reduceEqDiff, reduceCtorEq, Nat.reduceAdd, Nat.reduceLT, Nat.reduceLeDiff, e0, e1, e4, ei, ej, hlt, decide_true, x3]
    rw [cB _ _ (by simp [ltC, hlt])] at hj
    refine hQ _ ?_ ?_ ?_ ?_ ?_ (by omega) <;> simp only [push_cast, ↓reduceIte, Nat.reduceEqDiff, reduceCtorEq, Nat.reduceAdd, Nat.reduceLT, Nat.reduceLeDiff, e0, e1, e4, ei, ej, ← hj]
  · simp only [push_cast, ↓reduceIte, Nat.reduceEqDiff, reduceCtorEq, Nat.reduceAdd, Nat.reduceLT, Nat.reduceLeDiff, e0, e1, e4, ei, ej, hlt, decide_false, x3]
    refine ⟨j, ⟨by omega, rfl, ?_⟩, by omega⟩
    rw [← hj, gV _ _ hij (by simp [ltC, hlt])]
theorem AZ (E : cY P enc c sz ag k as0 bs) (h : t < H.length) {d : Array β} {m cp a : Nat} {ex : Bool} (hm : m = d.size) (hs : m < 1099511627776) (ha : a < m) {i0 j : Nat} (h0 : i0 ≤ m) (hj : j < m) {f : AF} {Q : AE → AF → AH → Prop}
    (e0 : f 0 = .ref sz t 0 m cp ex) (e1 : f 1 = .int .i64 a) (e4 : f 4 = .fn k as0 bs) (ej : f 12 = .int .i64 j) (ei : f 11 = .int .i64 i0)
    (hQ : ∀ f : AF, f 0 = .ref sz t 0 m cp ex → f 1 = .int .i64 a → f 4 = .fn k as0 bs → f 12 = .int .i64 j → f 11 = .int .i64 (scanUp (fun x => !ltC c d[a]! x) d j i0 : Nat) → scanUp (fun x => !ltC c d[a]! x) d j i0 ≤ m → Q .normal f (SH enc sz t H d)) :
    (tG sz ag).wp P Q f (SH enc sz t H d) := by
  have ia : aF sz (.ref sz t 0 m cp ex) (.int .i64 (a : Int)) = some (.ptr t a 0) := aP rfl ha
  have la := E.load (d := d) h (show a < d.size by omega)
  unfold tG
  simp only [push_cast, ↓reduceIte, Nat.reduceEqDiff, reduceCtorEq, Nat.reduceAdd, Nat.reduceLT, Nat.reduceLeDiff]
  refine aI (fun (i : Nat) f H' => H' = SH enc sz t H d ∧ i0 ≤ i ∧ i ≤ m ∧ f 0 = .ref sz t 0 m cp ex ∧ f 1 = .int .i64 a ∧ f 4 = .fn k as0 bs ∧ f 12 = .int .i64 j ∧ f 11 = .int .i64 i ∧ scanUp (fun x => !ltC c d[a]! x) d j i = scanUp (fun x => !ltC c d[a]! x) d j i0) (fun i => j + 1 - i) i0 ⟨rfl, Nat.le_refl _, h0, e0, e1, e4, ej, ei, rfl⟩ ?_
  rintro i f H' ⟨rfl, s0, s1, e0, e1, e4, ej, ei, hi⟩
  by_cases hij : i ≤ j
  case neg =>
    have hij' : ¬ (i : Int) ≤ j := by omega
    simp only [push_cast, ↓reduceIte, Nat.reduceEqDiff, reduceCtorEq, Nat.reduceAdd, Nat.reduceLT, Nat.reduceLeDiff, e0, e1, e4, ei, ej, hij', decide_false]
    rw [dF _ _ (by omega)] at hi
    refine hQ _ ?_ ?_ ?_ ?_ ?_ (by omega) <;> simp only [push_cast, ↓reduceIte, Nat.reduceEqDiff, reduceCtorEq, Nat.reduceAdd, Nat.reduceLT, Nat.reduceLeDiff, e0, e1, e4, ei, ej, ← hi]
  have hij' : (i : Int) ≤ j := by omega
  have x1 : aF sz (.ref sz t 0 m cp ex) (.int .i64 (i : Int)) = some (.ptr t i 0) := aP rfl (by omega)
  have x2 := E.load (d := d) h (show i < d.size by omega)
  have x3 : IntKind.i64.wrap ((i : Int) + 1) = (i : Int) + 1 := aE (by omega) (by omega)
  simp only [push_cast, ↓reduceIte, Nat.reduceEqDiff, reduceCtorEq, Nat.reduceAdd, Nat.reduceLT, Nat.reduceLeDiff, e0, e1, e4, ei, ej, hij', decide_true, x1, x2, ia, la]
  refine aC.look (E.cmp d[a]! d[i]! _) ?_
  by_cases hlt : c d[a]! d[i]! < 0
  · simp only [push_cast, ↓reduceIte, Nat.reduceEqDiff, reduceCtorEq, Nat.reduceAdd, Nat.reduceLT, Nat.reduceLeDiff, e0, e1, e4, ei, ej, hlt, decide_true, x3]
    rw [dF _ _ (by simp [ltC, hlt])] at hi
    refine hQ _ ?_ ?_ ?_ ?_ ?_ (by omega) <;> simp only [push_cast, ↓reduceIte, Nat.reduceEqDiff, reduceCtorEq, Nat.reduceAdd, Nat.reduceLT, Nat.reduceLeDiff, e0, e1, e4, ei, ej, ← hi]
  · simp only [push_cast, ↓reduceIte, Nat.reduceEqDiff, reduceCtorEq, Nat.reduceAdd, Nat.reduceLT, Nat.reduceLeDiff, e0, e1, e4, ei, ej, hlt, decide_false, x3]
    refine ⟨i + 1, ⟨by omega, by omega, by show (i : Int) + 1 = ((i + 1 : Nat) : Int); omega, ?_⟩, by omega⟩
    rw [← hi, lD _ _ hij (by simp [ltC, hlt])]
theorem BA (E : cY P enc c sz ag k as0 bs) (h : t < H.length) {d : Array β} {m cp a : Nat} {ex : Bool} (hm : m = d.size) (hs : m < 1099511627776) (ha : a < m) {i j0 : Nat} (hi : 0 < i) (h0 : j0 < m) {f : AF} {Q : AE → AF → AH → Prop}
    (e0 : f 0 = .ref sz t 0 m cp ex) (e1 : f 1 = .int .i64 a) (e4 : f 4 = .fn k as0 bs) (ei : f 11 = .int .i64 i) (ej : f 12 = .int .i64 j0)
    (hQ : ∀ f : AF, f 0 = .ref sz t 0 m cp ex → f 1 = .int .i64 a → f 4 = .fn k as0 bs → f 11 = .int .i64 i → f 12 = .int .i64 (scanDown (fun x => ltC c d[a]! x) d i j0 : Nat) → scanDown (fun x => ltC c d[a]! x) d i j0 < m → Q .normal f (SH enc sz t H d)) :
    (tF sz ag).wp P Q f (SH enc sz t H d) := by
  have ia : aF sz (.ref sz t 0 m cp ex) (.int .i64 (a : Int)) = some (.ptr t a 0) := aP rfl ha
  have la := E.load (d := d) h (show a < d.size by omega)
  unfold tF
  simp only [push_cast, ↓reduceIte, Nat.reduceEqDiff, reduceCtorEq, Nat.reduceAdd, Nat.reduceLT, Nat.reduceLeDiff]
  refine aI (fun (j : Nat) f H' => H' = SH enc sz t H d ∧ j < m ∧ f 0 = .ref sz t 0 m cp ex ∧ f 1 = .int .i64 a ∧ f 4 = .fn k as0 bs ∧ f 11 = .int .i64 i ∧ f 12 = .int .i64 j ∧ scanDown (fun x => ltC c d[a]! x) d i j = scanDown (fun x => ltC c d[a]! x) d i j0) (fun j => j) j0 ⟨rfl, h0, e0, e1, e4, ei, ej, rfl⟩ ?_
  rintro jj f H' ⟨rfl, s1, e0, e1, e4, ei, ej, hj⟩
  by_cases hij : i ≤ jj
  case neg =>
    have hij' : ¬ (i : Int) ≤ jj := by omega
    simp only [push_cast, ↓reduceIte, Nat.reduceEqDiff, reduceCtorEq, Nat.reduceAdd, Nat.reduceLT, Nat.reduceLeDiff, e0, e1, e4, ei, ej, hij', decide_false]
    rw [cB _ _ (by omega)] at hj
    refine hQ _ ?_ ?_ ?_ ?_ ?_ (by omega) <;> simp only [push_cast, ↓reduceIte, Nat.reduceEqDiff, reduceCtorEq, Nat.reduceAdd, Nat.reduceLT, Nat.reduceLeDiff, e0, e1, e4, ei, ej, ← hj]
  obtain ⟨j, rfl⟩ : ∃ q, jj = q + 1 := ⟨jj - 1, by omega⟩
  have hij' : (i : Int) ≤ (j : Int) + 1 := by omega
  have x1 : aF sz (.ref sz t 0 m cp ex) (.int .i64 ((j : Int) + 1)) = some (.ptr t (j + 1) 0) := aP (by omega) (by omega)
  have x2 := E.load (d := d) h (show j + 1 < d.size by omega)
  have x3 : IntKind.i64.wrap ((j : Int) + 1 - 1) = j := by rw [aE (by omega) (by omega)]; omega
  simp only [push_cast, ↓reduceIte, Nat.reduceEqDiff, reduceCtorEq, Nat.reduceAdd, Nat.reduceLT, Nat.reduceLeDiff, e0, e1, e4, ei, ej, hij', decide_true, x1, x2, ia, la]
  refine aC.look (E.cmp d[a]! d[j + 1]! _) ?_
  by_cases hlt : c d[a]! d[j + 1]! < 0
  · simp only [push_cast, ↓reduceIte, Nat.reduceEqDiff, reduceCtorEq, Nat.reduceAdd, Nat.reduceLT, Nat.reduceLeDiff, e0, e1, e4, ei, ej, hlt, decide_true, x3]
    refine ⟨j, ⟨by omega, rfl, ?_⟩, by omega⟩
    rw [← hj, gV _ _ hij (by simp [ltC, hlt])]
  · simp only [push_cast, ↓reduceIte, Nat.reduceEqDiff, reduceCtorEq, Nat.reduceAdd, Nat.reduceLT, Nat.reduceLeDiff, e0, e1, e4, ei, ej, hlt, decide_false, x3]
    rw [cB _ _ (by simp [ltC, hlt])] at hj
    refine hQ _ ?_ ?_ ?_ ?_ ?_ (by omega) <;> simp only [push_cast, ↓reduceIte, Nat.reduceEqDiff, reduceCtorEq, Nat.reduceAdd, Nat.reduceLT, Nat.reduceLeDiff, e0, e1, e4, ei, ej, ← hj]
theorem nZ (lt : β → β → Bool) (a : Nat) : ∀ (n i j : Nat) (d : Array β), j + 1 - i ≤ n → (partLoop lt a i j d).2.size = d.size := by
  intro n
  induction n with
  | zero =>
    intro i j d hn
    rw [partLoop_eq]
    have := scanUp_ge (fun x => lt x d[a]!) d j i
    have := scanDown_le (fun x => !lt x d[a]!) d (scanUp (fun x => lt x d[a]!) d j i) j
    rw [if_pos (by omega)]
  | succ n ih =>
    intro i j d hn
    rw [partLoop_eq]
    have := scanUp_ge (fun x => lt x d[a]!) d j i
    have := scanDown_le (fun x => !lt x d[a]!) d (scanUp (fun x => lt x d[a]!) d j i) j
    split
    · rfl
    · rw [ih _ _ _ (by omega), swp_size']
theorem xC (E : cY P enc c sz ag k as0 bs) (h : t < H.length) {d : Array β} {m cp a : Nat} {ex : Bool} (hm : m = d.size) (hs : m < 1099511627776) (ha : a < m) {i0 j0 : Nat} (h0 : i0 ≤ m) (hi0 : 0 < i0) (hj0 : j0 < m) {f : AF} {Q : AE → AF → AH → Prop}
    (e0 : f 0 = .ref sz t 0 m cp ex) (e1 : f 1 = .int .i64 a) (e4 : f 4 = .fn k as0 bs) (ei : f 12 = .int .i64 i0) (ej : f 13 = .int .i64 j0)
    (hQ : ∀ f : AF, f 0 = .ref sz t 0 m cp ex → f 1 = .int .i64 a → f 4 = .fn k as0 bs → f 13 = .int .i64 ((partLoop (ltC c) a i0 j0 d).1 : Nat) → (partLoop (ltC c) a i0 j0 d).1 ≤ m → ((partLoop (ltC c) a i0 j0 d).1 < m ∨ 13 = 12) → Q .normal f (SH enc sz t H (partLoop (ltC c) a i0 j0 d).2)) :
    (nW sz ag).wp P Q f (SH enc sz t H d) := by
  unfold nW
  simp only [push_cast, ↓reduceIte, Nat.reduceEqDiff, reduceCtorEq, Nat.reduceAdd, Nat.reduceLT, Nat.reduceLeDiff]
  refine aI (fun (s : Nat × Nat × Array β) f H' => H' = SH enc sz t H s.2.2 ∧ s.2.2.size = m ∧ 0 < s.1 ∧ s.1 ≤ m ∧ s.2.1 < m ∧ f 0 = .ref sz t 0 m cp ex ∧ f 1 = .int .i64 a ∧ f 4 = .fn k as0 bs ∧ f 12 = .int .i64 s.1 ∧ f 13 = .int .i64 s.2.1 ∧ partLoop (ltC c) a s.1 s.2.1 s.2.2 = partLoop (ltC c) a i0 j0 d) (fun s => s.2.1 + 1 - s.1) (i0, j0, d) ⟨rfl, hm.symm, hi0, h0, hj0, e0, e1, e4, ei, ej, rfl⟩ ?_
  rintro ⟨i, j, d1⟩ f H' ⟨rfl, s1, s2, s3, s4, e0, e1, e4, ei, ej, hr⟩
  dsimp only at s1 s2 s3 s4 ei ej hr ⊢
  simp only [push_cast, ↓reduceIte, Nat.reduceEqDiff, reduceCtorEq, Nat.reduceAdd, Nat.reduceLT, Nat.reduceLeDiff]
  refine xA E h s1.symm hs ha s3 s4 e0 e1 e4 ej ei fun f e0 e1 e4 ej ei hi2 => ?_
  have hge := scanUp_ge (fun x => ltC c x d1[a]!) d1 j i
  have heq := partLoop_eq (lt := ltC c) a i j d1
  generalize hi2e : scanUp (fun x => ltC c x d1[a]!) d1 j i = i2 at ei hi2 hge heq
  simp only [push_cast, ↓reduceIte, Nat.reduceEqDiff, reduceCtorEq, Nat.reduceAdd, Nat.reduceLT, Nat.reduceLeDiff]
  refine xB E h s1.symm hs ha (by omega) s4 e0 e1 e4 ei ej fun f e0 e1 e4 ei ej hj2 => ?_
  have hle := scanDown_le (fun x => !ltC c x d1[a]!) d1 i2 j
  generalize hj2e : scanDown (fun x => !ltC c x d1[a]!) d1 i2 j = j2 at ej hj2 hle heq
  by_cases hij : i2 > j2
  · have hij' : (i2 : Int) > j2 := by omega
    simp only [push_cast, ↓reduceIte, Nat.reduceEqDiff, reduceCtorEq, Nat.reduceAdd, Nat.reduceLT, Nat.reduceLeDiff, e0, e1, e4, ei, ej, hij', decide_true]
    rw [if_pos hij] at heq
    rw [← hr, heq] at hQ
    refine hQ _ ?_ ?_ ?_ ?_ (by dsimp only; omega) (by dsimp only; omega) <;> simp only [push_cast, ↓reduceIte, Nat.reduceEqDiff, reduceCtorEq, Nat.reduceAdd, Nat.reduceLT, Nat.reduceLeDiff, e0, e1, e4, ei, ej]
  · have hij' : ¬ (i2 : Int) > j2 := by omega
    have i1 : aF sz (.ref sz t 0 m cp ex) (.int .i64 (i2 : Int)) = some (.ptr t i2 0) := aP rfl (by omega)
    have i2' : aF sz (.ref sz t 0 m cp ex) (.int .i64 (j2 : Int)) = some (.ptr t j2 0) := aP rfl (by omega)
    have l1 := E.load (d := d1) h (show i2 < d1.size by omega)
    have l2 := E.load (d := d1) h (show j2 < d1.size by omega)
    have st := E.swap (d := d1) h (show i2 < d1.size by omega) (show j2 < d1.size by omega)
    have g1 : IntKind.i64.wrap ((i2 : Int) + 1) = (i2 : Int) + 1 := aE (by omega) (by omega)
    have g2 : IntKind.i64.wrap ((j2 : Int) - 1) = (j2 : Int) - 1 := aE (by omega) (by omega)
    simp only [push_cast, ↓reduceIte, Nat.reduceEqDiff, reduceCtorEq, Nat.reduceAdd, Nat.reduceLT, Nat.reduceLeDiff, e0, e1, e4, ei, ej, hij', decide_false, i1, i2', l1, l2, st.1, st.2, g1, g2]
    rw [if_neg hij] at heq
    exact ⟨(i2 + 1, j2 - 1, swp d1 i2 j2), ⟨rfl, by rw [swp_size']; exact s1, by show 0 < i2 + 1; omega, by show i2 + 1 ≤ m; omega, by show j2 - 1 < m; omega, by show (i2 : Int) + 1 = ((i2 + 1 : Nat) : Int); omega, by show (j2 : Int) - 1 = ((j2 - 1 : Nat) : Int); omega, by rw [← hr, heq]⟩, by show j2 - 1 + 1 - (i2 + 1) < j + 1 - i; omega⟩
theorem BB (E : cY P enc c sz ag k as0 bs) (h : t < H.length) {d : Array β} {m cp a : Nat} {ex : Bool} (hm : m = d.size) (hs : m < 1099511627776) (ha : a < m) {i0 j0 : Nat} (h0 : i0 ≤ m) (hi0 : 0 < i0) (hj0 : j0 < m) {f : AF} {Q : AE → AF → AH → Prop}
    (e0 : f 0 = .ref sz t 0 m cp ex) (e1 : f 1 = .int .i64 a) (e4 : f 4 = .fn k as0 bs) (ei : f 11 = .int .i64 i0) (ej : f 12 = .int .i64 j0)
    (hQ : ∀ f : AF, f 0 = .ref sz t 0 m cp ex → f 1 = .int .i64 a → f 4 = .fn k as0 bs → f 11 = .int .i64 ((partEqLoop (ltC c) a i0 j0 d).1 : Nat) → (partEqLoop (ltC c) a i0 j0 d).1 ≤ m → ((partEqLoop (ltC c) a i0 j0 d).1 < m ∨ 11 = 11) → Q .normal f (SH enc sz t H (partEqLoop (ltC c) a i0 j0 d).2)) :
    (tH sz ag).wp P Q f (SH enc sz t H d) := by
  unfold tH
  simp only [push_cast, ↓reduceIte, Nat.reduceEqDiff, reduceCtorEq, Nat.reduceAdd, Nat.reduceLT, Nat.reduceLeDiff]
  refine aI (fun (s : Nat × Nat × Array β) f H' => H' = SH enc sz t H s.2.2 ∧ s.2.2.size = m ∧ 0 < s.1 ∧ s.1 ≤ m ∧ s.2.1 < m ∧ f 0 = .ref sz t 0 m cp ex ∧ f 1 = .int .i64 a ∧ f 4 = .fn k as0 bs ∧ f 11 = .int .i64 s.1 ∧ f 12 = .int .i64 s.2.1 ∧ partEqLoop (ltC c) a s.1 s.2.1 s.2.2 = partEqLoop (ltC c) a i0 j0 d) (fun s => s.2.1 + 1 - s.1) (i0, j0, d) ⟨rfl, hm.symm, hi0, h0, hj0, e0, e1, e4, ei, ej, rfl⟩ ?_
  rintro ⟨i, j, d1⟩ f H' ⟨rfl, s1, s2, s3, s4, e0, e1, e4, ei, ej, hr⟩
  dsimp only at s1 s2 s3 s4 ei ej hr ⊢
  simp only [push_cast, ↓reduceIte, Nat.reduceEqDiff, reduceCtorEq, Nat.reduceAdd, Nat.reduceLT, Nat.reduceLeDiff]
  refine AZ E h s1.symm hs ha s3 s4 e0 e1 e4 ej ei fun f e0 e1 e4 ej ei hi2 => ?_
  have hge := scanUp_ge (fun x => !ltC c d1[a]! x) d1 j i
  have heq := partEqLoop_eq (lt := ltC c) a i j d1
  generalize hi2e : scanUp (fun x => !ltC c d1[a]! x) d1 j i = i2 at ei hi2 hge heq
  simp only [push_cast, ↓reduceIte, Nat.reduceEqDiff, reduceCtorEq, Nat.reduceAdd, Nat.reduceLT, Nat.reduceLeDiff]
  refine BA E h s1.symm hs ha (by omega) s4 e0 e1 e4 ei ej fun f e0 e1 e4 ei ej hj2 => ?_
  have hle := scanDown_le (fun x => ltC c d1[a]! x) d1 i2 j
  generalize hj2e : scanDown (fun x => ltC c d1[a]! x) d1 i2 j = j2 at ej hj2 hle heq
  by_cases hij : i2 > j2
  · have hij' : (i2 : Int) > j2 := by omega
    simp only [push_cast, ↓reduceIte, Nat.reduceEqDiff, reduceCtorEq, Nat.reduceAdd, Nat.reduceLT, Nat.reduceLeDiff, e0, e1, e4, ei, ej, hij', decide_true]
    rw [if_pos hij] at heq
    rw [← hr, heq] at hQ
    refine hQ _ ?_ ?_ ?_ ?_ (by dsimp only; omega) (by dsimp only; omega) <;> simp only [push_cast, ↓reduceIte, Nat.reduceEqDiff, reduceCtorEq, Nat.reduceAdd, Nat.reduceLT, Nat.reduceLeDiff, e0, e1, e4, ei, ej]
  · have hij' : ¬ (i2 : Int) > j2 := by omega
    have i1 : aF sz (.ref sz t 0 m cp ex) (.int .i64 (i2 : Int)) = some (.ptr t i2 0) := aP rfl (by omega)
    have i2' : aF sz (.ref sz t 0 m cp ex) (.int .i64 (j2 : Int)) = some (.ptr t j2 0) := aP rfl (by omega)
    have l1 := E.load (d := d1) h (show i2 < d1.size by omega)
    have l2 := E.load (d := d1) h (show j2 < d1.size by omega)
    have st := E.swap (d := d1) h (show i2 < d1.size by omega) (show j2 < d1.size by omega)
    have g1 : IntKind.i64.wrap ((i2 : Int) + 1) = (i2 : Int) + 1 := aE (by omega) (by omega)
    have g2 : IntKind.i64.wrap ((j2 : Int) - 1) = (j2 : Int) - 1 := aE (by omega) (by omega)
    simp only [push_cast, ↓reduceIte, Nat.reduceEqDiff, reduceCtorEq, Nat.reduceAdd, Nat.reduceLT, Nat.reduceLeDiff, e0, e1, e4, ei, ej, hij', decide_false, i1, i2', l1, l2, st.1, st.2, g1, g2]
    rw [if_neg hij] at heq
    exact ⟨(i2 + 1, j2 - 1, swp d1 i2 j2), ⟨rfl, by rw [swp_size']; exact s1, by show 0 < i2 + 1; omega, by show i2 + 1 ≤ m; omega, by show j2 - 1 < m; omega, by show (i2 : Int) + 1 = ((i2 + 1 : Nat) : Int); omega, by show (j2 : Int) - 1 = ((j2 - 1 : Nat) : Int); omega, by rw [← hr, heq]⟩, by show j2 - 1 + 1 - (i2 + 1) < j + 1 - i; omega⟩
end
end Go.Eng
end
section
namespace Go.Eng
open Go Go.Sort
set_option linter.unusedSimpArgs false
set_option linter.unusedVariables false
set_option linter.unusedSectionVars false
set_option maxRecDepth 10000
section
variable {β : Type} [Inhabited β] {enc : β → AV} {sz t : Nat} {H : AH} {P : Program} {c : β → β → Int} {ag : Bool} {k : FuncId} {as0 bs : List AV}
theorem BC {n : FuncId} (hc : aD P n = some (GG sz ag)) (E : cY P enc c sz ag k as0 bs) (h : t < H.length) (d : Array β) {m cp : Nat} {ex : Bool} (hm : m = d.size) (hs : m < 1099511627776) (a b pv : Nat) (hp1 : a ≤ pv) (hp2 : pv < b) (hb : b ≤ m) :
    aC P n [.ref sz t 0 m cp ex, .int .i64 a, .int .i64 b, .int .i64 pv, .fn k as0 bs] (SH enc sz t H d) fun r H' => r = .tup [.int .i64 ((partition (ltC c) d a b pv).1 : Nat), .bool (partition (ltC c) d a b pv).2.1] ∧ H' = SH enc sz t H (partition (ltC c) d a b pv).2.2 := by
  refine aU hc (by simp [GG]) ?_
  unfold GG
  have ha : a < m := by omega
  have i1 : aF sz (.ref sz t 0 m cp ex) (.int .i64 (a : Int)) = some (.ptr t a 0) := aP rfl (by omega)
  have i2 : aF sz (.ref sz t 0 m cp ex) (.int .i64 (pv : Int)) = some (.ptr t pv 0) := aP rfl (by omega)
  have l1 := E.load (d := d) h (show a < d.size by omega)
  have l2 := E.load (d := d) h (show pv < d.size by omega)
  have st := E.swap (d := d) h (show a < d.size by omega) (show pv < d.size by omega)
  have g1 : IntKind.i64.wrap ((a : Int) + 1) = ((a + 1 : Nat) : Int) := aX (by omega) (by omega)
  have g2 : IntKind.i64.wrap ((b : Int) - 1) = ((b - 1 : Nat) : Int) := aX (by omega) (by omega)
  have hz : (swp d a pv).size = m := by rw [swp_size', hm]
  generalize hi0 : a + 1 = i0 at g1
  generalize hj0 : b - 1 = j0 at g2
  simp only [push_cast, ↓reduceIte, Nat.reduceEqDiff, reduceCtorEq, Nat.reduceAdd, Nat.reduceLT, Nat.reduceLeDiff, i1, i2, l1, l2, st.1, st.2, g1, g2]
  have hpe : partition (ltC c) d a b pv = (let d := swp d a pv; let i := scanUp (fun x => ltC c x d[a]!) d j0 i0; let j := scanDown (fun x => !ltC c x d[a]!) d i j0; if i > j then (j, true, swp d j a) else let r := partLoop (ltC c) a (i + 1) (j - 1) (swp d i j); (r.1, false, swp r.2 r.1 a)) := by rw [← hi0, ← hj0]; rfl
  rw [hpe]
  dsimp only
  generalize swp d a pv = d1 at hz ⊢
  refine wY E h hz.symm hs ha (cp := cp) (ex := ex) (i0 := i0) (j := j0) (by omega) (by omega) ?_ ?_ ?_ ?_ ?_ fun f e0 e1 e4 ej ei hi2 => ?_
  all_goals first | (simp only [push_cast, ↓reduceIte, Nat.reduceEqDiff, reduceCtorEq, Nat.reduceAdd, Nat.reduceLT, Nat.reduceLeDiff, i1, i2, l1, l2, st.1, st.2, g1, g2]; done) | skip
  have hge := scanUp_ge (fun x => ltC c x d1[a]!) d1 j0 i0
  generalize scanUp (fun x => ltC c x d1[a]!) d1 j0 i0 = i at ei hi2 hge ⊢
  simp only [push_cast, ↓reduceIte, Nat.reduceEqDiff, reduceCtorEq, Nat.reduceAdd, Nat.reduceLT, Nat.reduceLeDiff]
  refine wZ E h hz.symm hs ha (i := i) (j0 := j0) (by omega) (by omega) e0 e1 e4 ei ej fun f e0 e1 e4 ei ej hj2 => ?_
  have hle := scanDown_le (fun x => !ltC c x d1[a]!) d1 i j0
  generalize scanDown (fun x => !ltC c x d1[a]!) d1 i j0 = j at ej hj2 hle ⊢
  have x1 : aF sz (.ref sz t 0 m cp ex) (.int .i64 (i : Int)) = some (.ptr t i 0) ∨ ¬ i < m := by
    by_cases q : i < m
    · exact .inl (aP rfl q)
    · exact .inr q
  have x2 : aF sz (.ref sz t 0 m cp ex) (.int .i64 (j : Int)) = some (.ptr t j 0) := aP rfl (by omega)
  have y2 := E.load (d := d1) h (show j < d1.size by omega)
  have ya := E.load (d := d1) h (show a < d1.size by omega)
  by_cases hij : i > j
  · have hij' : (i : Int) > j := by omega
    have st := E.swap (d := d1) h (show j < d1.size by omega) (show a < d1.size by omega)
    simp only [push_cast, ↓reduceIte, Nat.reduceEqDiff, reduceCtorEq, Nat.reduceAdd, Nat.reduceLT, Nat.reduceLeDiff, e0, e1, e4, ei, ej, hij', decide_true, x2, y2, ya, i1, st.1, st.2]
    rw [if_pos hij]
    exact ⟨rfl, rfl⟩
  · have hij' : ¬ (i : Int) > j := by omega
    have x1 : aF sz (.ref sz t 0 m cp ex) (.int .i64 (i : Int)) = some (.ptr t i 0) := aP rfl (by omega)
    have y1 := E.load (d := d1) h (show i < d1.size by omega)
    have st := E.swap (d := d1) h (show i < d1.size by omega) (show j < d1.size by omega)
    have g3 : IntKind.i64.wrap ((i : Int) + 1) = ((i + 1 : Nat) : Int) := aX (by omega) (by omega)
    have g4 : IntKind.i64.wrap ((j : Int) - 1) = ((j - 1 : Nat) : Int) := aX (by omega) (by omega)
    rw [if_neg hij]
    have hz2 : (swp d1 i j).size = m := by rw [swp_size', hz]
    have hz3 := nZ (ltC c) a _ (i + 1) (j - 1) (swp d1 i j) (Nat.le_refl _)
    generalize hi3 : i + 1 = i3 at g3 hz3 ⊢
    generalize hj3 : j - 1 = j3 at g4 hz3 ⊢
    simp only [push_cast, ↓reduceIte, Nat.reduceEqDiff, reduceCtorEq, Nat.reduceAdd, Nat.reduceLT, Nat.reduceLeDiff, e0, e1, e4, ei, ej, hij', decide_false, x1, x2, y1, y2, st.1, st.2, g3, g4]
    refine xC E h hz2.symm hs ha (cp := cp) (ex := ex) (i0 := i3) (j0 := j3) (by omega) (by omega) (by omega) ?_ ?_ ?_ ?_ ?_ fun f e0 e1 e4 ej hj5 hj6 => ?_
    all_goals first | (simp only [push_cast, ↓reduceIte, Nat.reduceEqDiff, reduceCtorEq, Nat.reduceAdd, Nat.reduceLT, Nat.reduceLeDiff, e0, e1, e4, ei, ej, g3, g4]; done) | skip
    generalize partLoop (ltC c) a i3 j3 (swp d1 i j) = r at ej hj5 hj6 hz3 ⊢
    obtain ⟨j5, d5⟩ := r
    dsimp only at ej hj5 hj6 hz3 ⊢
    have x5 : aF sz (.ref sz t 0 m cp ex) (.int .i64 (j5 : Int)) = some (.ptr t j5 0) := aP rfl (by omega)
    have y5 := E.load (d := d5) h (show j5 < d5.size by omega)
    have ya := E.load (d := d5) h (show a < d5.size by omega)
    have st := E.swap (d := d5) h (show j5 < d5.size by omega) (show a < d5.size by omega)
    simp only [push_cast, ↓reduceIte, Nat.reduceEqDiff, reduceCtorEq, Nat.reduceAdd, Nat.reduceLT, Nat.reduceLeDiff, e0, e1, e4, ej, x5, y5, ya, i1, st.1, st.2]
theorem GH {n : FuncId} (hc : aD P n = some (SS sz ag)) (E : cY P enc c sz ag k as0 bs) (h : t < H.length) (d : Array β) {m cp : Nat} {ex : Bool} (hm : m = d.size) (hs : m < 1099511627776) (a b pv : Nat) (hp1 : a ≤ pv) (hp2 : pv < b) (hb : b ≤ m) :
    aC P n [.ref sz t 0 m cp ex, .int .i64 a, .int .i64 b, .int .i64 pv, .fn k as0 bs] (SH enc sz t H d) fun r H' => r = .int .i64 ((partitionEqual (ltC c) d a b pv).1 : Nat) ∧ H' = SH enc sz t H (partitionEqual (ltC c) d a b pv).2 := by
  refine aU hc (by simp [SS]) ?_
  unfold SS
  have ha : a < m := by omega
  have i1 : aF sz (.ref sz t 0 m cp ex) (.int .i64 (a : Int)) = some (.ptr t a 0) := aP rfl (by omega)
  have i2 : aF sz (.ref sz t 0 m cp ex) (.int .i64 (pv : Int)) = some (.ptr t pv 0) := aP rfl (by omega)
  have l1 := E.load (d := d) h (show a < d.size by omega)
  have l2 := E.load (d := d) h (show pv < d.size by omega)
  have st := E.swap (d := d) h (show a < d.size by omega) (show pv < d.size by omega)
  have g1 : IntKind.i64.wrap ((a : Int) + 1) = ((a + 1 : Nat) : Int) := aX (by omega) (by omega)
  have g2 : IntKind.i64.wrap ((b : Int) - 1) = ((b - 1 : Nat) : Int) := aX (by omega) (by omega)
  have hz : (swp d a pv).size = m := by rw [swp_size', hm]
  unfold partitionEqual
  generalize hi0 : a + 1 = i0 at g1 ⊢
  generalize hj0 : b - 1 = j0 at g2 ⊢
  simp only [push_cast, ↓reduceIte, Nat.reduceEqDiff, reduceCtorEq, Nat.reduceAdd, Nat.reduceLT, Nat.reduceLeDiff, i1, i2, l1, l2, st.1, st.2, g1, g2]
  refine BB E h hz.symm hs ha (cp := cp) (ex := ex) (i0 := i0) (j0 := j0) (by omega) (by omega) (by omega) ?_ ?_ ?_ ?_ ?_ fun f e0 e1 e4 ej hj5 hj6 => ?_
  all_goals first | (simp only [push_cast, ↓reduceIte, Nat.reduceEqDiff, reduceCtorEq, Nat.reduceAdd, Nat.reduceLT, Nat.reduceLeDiff, i1, i2, l1, l2, st.1, st.2, g1, g2]; done) | skip
  simp only [push_cast, ↓reduceIte, Nat.reduceEqDiff, reduceCtorEq, Nat.reduceAdd, Nat.reduceLT, Nat.reduceLeDiff, ej]
end
end Go.Eng
end
section
namespace Go.Eng
open Go Go.Sort
set_option linter.unusedSimpArgs false
set_option linter.unusedVariables false
set_option linter.unusedSectionVars false
set_option maxRecDepth 10000
def tI (sz : Nat) (ag : Bool) : AC := (.block 6 (.loop (.seq (.seq (.ops [oo 107 (.mov (.t 12)), oo 108 (.mov (.t 2)), oo 109 (.bin .lss (.t 107) (.t 108))]) (.cond (.t 109) .skip (.exit 6))) (.seq (.block 7 (.seq (.seq (.ops [oo 141 (.mov (.t 3)), oo 142 (.mov (.t 0)), oo 143 (.mov (.t 12)), oo 144 (.iaddr sz (.t 142) (.t 143)), oo 145 (.load ag sz (.t 144)), oo 146 (.mov (.t 0)), oo 147 (.mov (.t 12)), oo 148 (.bin .sub (.t 147) (.v (.int .i64 1))), oo 149 (.iaddr sz (.t 146) (.t 148)), oo 150 (.load ag sz (.t 149)), oo 151 (.callv (.t 141) [(.t 145), (.t 150)]), oo 152 (.bin .lss (.t 151) (.v (.int .i64 0))), oo 153 (.un .not (.t 152)), oo 112 (.mov (.t 141)), oo 113 (.mov (.t 142)), oo 114 (.mov (.t 143)), oo 115 (.mov (.t 144)), oo 116 (.mov (.t 145)), oo 117 (.mov (.t 146)), oo 118 (.mov (.t 147)), oo 119 (.mov (.t 148)), oo 120 (.mov (.t 149)), oo 121 (.mov (.t 150)), oo 122 (.mov (.t 151)), oo 123 (.mov (.t 152)), oo 124 (.mov (.t 153))]) (.cond (.t 124) (.exit 6) .skip)) (.ops [oo 141 (.mov (.t 0)), oo 142 (.mov (.t 12)), oo 143 (.mov (.t 0)), oo 144 (.mov (.t 12)), oo 145 (.bin .sub (.t 144) (.v (.int .i64 1))), oo 146 (.mov (.t 0)), oo 147 (.mov (.t 12)), oo 148 (.bin .sub (.t 147) (.v (.int .i64 1))), oo 149 (.iaddr sz (.t 146) (.t 148)), oo 150 (.load ag sz (.t 149)), oo 151 (.mov (.t 0)), oo 152 (.mov (.t 12)), oo 153 (.iaddr sz (.t 151) (.t 152)), oo 154 (.load ag sz (.t 153)), oo 155 (.iaddr sz (.t 141) (.t 142)), oo 156 (.store sz (.t 155) (.t 150)), oo 157 (.iaddr sz (.t 143) (.t 145)), oo 158 (.store sz (.t 157) (.t 154)), oo 125 (.mov (.t 141)), oo 126 (.mov (.t 142)), oo 127 (.mov (.t 143)), oo 128 (.mov (.t 144)), oo 129 (.mov (.t 145)), oo 130 (.mov (.t 146)), oo 131 (.mov (.t 147)), oo 132 (.mov (.t 148)), oo 133 (.mov (.t 149)), oo 134 (.mov (.t 150)), oo 135 (.mov (.t 151)), oo 136 (.mov (.t 152)), oo 137 (.mov (.t 153)), oo 138 (.mov (.t 154)), oo 139 (.mov (.t 155)), oo 140 (.mov (.t 157))]))) (.ops [oo 110 (.mov (.t 12)), oo 111 (.bin .add (.t 110) (.v (.int .i64 1))), oo 12 (.mov (.t 111))])))))
def tJ (sz : Nat) (ag : Bool) : AC := (.block 4 (.loop (.seq (.seq (.ops [oo 68 (.mov (.t 11)), oo 69 (.bin .geq (.t 68) (.v (.int .i64 1)))]) (.cond (.t 69) .skip (.exit 4))) (.seq (.block 5 (.seq (.seq (.ops [oo 141 (.mov (.t 3)), oo 142 (.mov (.t 0)), oo 143 (.mov (.t 11)), oo 144 (.iaddr sz (.t 142) (.t 143)), oo 145 (.load ag sz (.t 144)), oo 146 (.mov (.t 0)), oo 147 (.mov (.t 11)), oo 148 (.bin .sub (.t 147) (.v (.int .i64 1))), oo 149 (.iaddr sz (.t 146) (.t 148)), oo 150 (.load ag sz (.t 149)), oo 151 (.callv (.t 141) [(.t 145), (.t 150)]), oo 152 (.bin .lss (.t 151) (.v (.int .i64 0))), oo 153 (.un .not (.t 152)), oo 72 (.mov (.t 141)), oo 73 (.mov (.t 142)), oo 74 (.mov (.t 143)), oo 75 (.mov (.t 144)), oo 76 (.mov (.t 145)), oo 77 (.mov (.t 146)), oo 78 (.mov (.t 147)), oo 79 (.mov (.t 148)), oo 80 (.mov (.t 149)), oo 81 (.mov (.t 150)), oo 82 (.mov (.t 151)), oo 83 (.mov (.t 152)), oo 84 (.mov (.t 153))]) (.cond (.t 84) (.exit 4) .skip)) (.ops [oo 141 (.mov (.t 0)), oo 142 (.mov (.t 11)), oo 143 (.mov (.t 0)), oo 144 (.mov (.t 11)), oo 145 (.bin .sub (.t 144) (.v (.int .i64 1))), oo 146 (.mov (.t 0)), oo 147 (.mov (.t 11)), oo 148 (.bin .sub (.t 147) (.v (.int .i64 1))), oo 149 (.iaddr sz (.t 146) (.t 148)), oo 150 (.load ag sz (.t 149)), oo 151 (.mov (.t 0)), oo 152 (.mov (.t 11)), oo 153 (.iaddr sz (.t 151) (.t 152)), oo 154 (.load ag sz (.t 153)), oo 155 (.iaddr sz (.t 141) (.t 142)), oo 156 (.store sz (.t 155) (.t 150)), oo 157 (.iaddr sz (.t 143) (.t 145)), oo 158 (.store sz (.t 157) (.t 154)), oo 85 (.mov (.t 141)), oo 86 (.mov (.t 142)), oo 87 (.mov (.t 143)), oo 88 (.mov (.t 144)), oo 89 (.mov (.t 145)), oo 90 (.mov (.t 146)), oo 91 (.mov (.t 147)), oo 92 (.mov (.t 148)), oo 93 (.mov (.t 149)), oo 94 (.mov (.t 150)), oo 95 (.mov (.t 151)), oo 96 (.mov (.t 152)), oo 97 (.mov (.t 153)), oo 98 (.mov (.t 154)), oo 99 (.mov (.t 155)), oo 100 (.mov (.t 157))]))) (.ops [oo 70 (.mov (.t 11)), oo 71 (.bin .sub (.t 70) (.v (.int .i64 1))), oo 11 (.mov (.t 71))])))))
def tK (sz : Nat) (ag : Bool) : AC := (.block 2 (.loop (.seq (.seq (.ops [oo 141 (.mov (.t 9)), oo 142 (.mov (.t 2)), oo 143 (.bin .lss (.t 141) (.t 142)), oo 144 (.mov (.t 143)), og 145 144 true (.mov (.t 3)), og 146 144 true (.mov (.t 0)), og 147 144 true (.mov (.t 9)), og 148 144 true (.iaddr sz (.t 146) (.t 147)), og 149 144 true (.load ag sz (.t 148)), og 150 144 true (.mov (.t 0)), og 151 144 true (.mov (.t 9)), og 152 144 true (.bin .sub (.t 151) (.v (.int .i64 1))), og 153 144 true (.iaddr sz (.t 150) (.t 152)), og 154 144 true (.load ag sz (.t 153)), og 155 144 true (.callv (.t 145) [(.t 149), (.t 154)]), og 156 144 true (.bin .lss (.t 155) (.v (.int .i64 0))), og 157 144 true (.un .not (.t 156)), oo 158 (.pick (.t 144) (.t 157) (.v (.bool false))), oo 19 (.mov (.t 141)), oo 20 (.mov (.t 142)), oo 21 (.mov (.t 143)), oo 22 (.mov (.t 144)), oo 23 (.mov (.t 145)), oo 24 (.mov (.t 146)), oo 25 (.mov (.t 147)), oo 26 (.mov (.t 148)), oo 27 (.mov (.t 149)), oo 28 (.mov (.t 150)), oo 29 (.mov (.t 151)), oo 30 (.mov (.t 152)), oo 31 (.mov (.t 153)), oo 32 (.mov (.t 154)), oo 33 (.mov (.t 155)), oo 34 (.mov (.t 156)), oo 35 (.mov (.t 157)), oo 36 (.mov (.t 158))]) (.cond (.t 36) .skip (.exit 2))) (.block 3 (.ops [oo 37 (.mov (.t 9)), oo 38 (.bin .add (.t 37) (.v (.int .i64 1))), oo 9 (.mov (.t 38))])))))
def BD (sz : Nat) (ag : Bool) : AC := (.block 0 (.loop (.seq (.seq (.ops [oo 15 (.mov (.t 10)), oo 16 (.bin .lss (.t 15) (.v (.int .i64 5)))]) (.cond (.t 16) .skip (.exit 0))) (.seq (.block 1 (.seq (tK sz ag) (.seq (.seq (.ops [oo 39 (.mov (.t 9)), oo 40 (.mov (.t 2)), oo 41 (.bin .eql (.t 39) (.t 40))]) (.cond (.t 41) (.seq (.ops [oo 8 (.mov (.v (.bool true)))]) .ret) .skip)) (.seq (.seq (.ops [oo 42 (.mov (.t 2)), oo 43 (.mov (.t 1)), oo 44 (.bin .sub (.t 42) (.t 43)), oo 45 (.bin .lss (.t 44) (.v (.int .i64 50)))]) (.cond (.t 45) (.seq (.ops [oo 8 (.mov (.v (.bool false)))]) .ret) .skip)) (.seq (.ops [oo 141 (.mov (.t 0)), oo 142 (.mov (.t 9)), oo 143 (.mov (.t 0)), oo 144 (.mov (.t 9)), oo 145 (.bin .sub (.t 144) (.v (.int .i64 1))), oo 146 (.mov (.t 0)), oo 147 (.mov (.t 9)), oo 148 (.bin .sub (.t 147) (.v (.int .i64 1))), oo 149 (.iaddr sz (.t 146) (.t 148)), oo 150 (.load ag sz (.t 149)), oo 151 (.mov (.t 0)), oo 152 (.mov (.t 9)), oo 153 (.iaddr sz (.t 151) (.t 152)), oo 154 (.load ag sz (.t 153)), oo 155 (.iaddr sz (.t 141) (.t 142)), oo 156 (.store sz (.t 155) (.t 150)), oo 157 (.iaddr sz (.t 143) (.t 145)), oo 158 (.store sz (.t 157) (.t 154)), oo 46 (.mov (.t 141)), oo 47 (.mov (.t 142)), oo 48 (.mov (.t 143)), oo 49 (.mov (.t 144)), oo 50 (.mov (.t 145)), oo 51 (.mov (.t 146)), oo 52 (.mov (.t 147)), oo 53 (.mov (.t 148)), oo 54 (.mov (.t 149)), oo 55 (.mov (.t 150)), oo 56 (.mov (.t 151)), oo 57 (.mov (.t 152)), oo 58 (.mov (.t 153)), oo 59 (.mov (.t 154)), oo 60 (.mov (.t 155)), oo 61 (.mov (.t 157))]) (.seq (.seq (.ops [oo 62 (.mov (.t 9)), oo 63 (.mov (.t 1)), oo 64 (.bin .sub (.t 62) (.t 63)), oo 65 (.bin .geq (.t 64) (.v (.int .i64 2)))]) (.cond (.t 65) (.seq (.ops [oo 66 (.mov (.t 9)), oo 67 (.bin .sub (.t 66) (.v (.int .i64 1))), oo 11 (.mov (.t 67))]) (tJ sz ag)) .skip)) (.seq (.ops [oo 101 (.mov (.t 2)), oo 102 (.mov (.t 9)), oo 103 (.bin .sub (.t 101) (.t 102)), oo 104 (.bin .geq (.t 103) (.v (.int .i64 2)))]) (.cond (.t 104) (.seq (.ops [oo 105 (.mov (.t 9)), oo 106 (.bin .add (.t 105) (.v (.int .i64 1))), oo 12 (.mov (.t 106))]) (tI sz ag)) .skip)))))))) (.ops [oo 17 (.mov (.t 10)), oo 18 (.bin .add (.t 17) (.v (.int .i64 1))), oo 10 (.mov (.t 18))])))))
def ST (sz : Nat) (ag : Bool) : AFn := ⟨141, 4, [.t 8], (.seq (.ops [oo 8 (.mov (.v (.bool false)))]) (.seq (.ops [oo 13 (.mov (.t 1)), oo 14 (.bin .add (.t 13) (.v (.int .i64 1))), oo 9 (.mov (.t 14))]) (.seq (.seq (.ops [oo 10 (.mov (.v (.int .i64 0)))]) (BD sz ag)) (.seq (.ops [oo 8 (.mov (.v (.bool false)))]) .ret))))⟩
section
variable {β : Type} [Inhabited β] {enc : β → AV} {sz t : Nat} {H : AH} {P : Program} {c : β → β → Int} {ag : Bool} {k : FuncId} {as0 bs : List AV}
theorem gK (lt : β → β → Bool) : ∀ (j : Nat) (d : Array β), (shiftDown lt j d).size = d.size
  | 0, d => rfl
  | j + 1, d => by
    rw [shiftDown]
    split
    · rfl
    · rw [gK lt j, swp_size']
theorem jN (lt : β → β → Bool) (b : Nat) : ∀ (n j : Nat) (d : Array β), b - j ≤ n → (shiftUp lt b j d).size = d.size := by
  intro n
  induction n with
  | zero => intro j d hn; rw [shiftUp, if_neg (by omega)]
  | succ n ih =>
    intro j d hn
    rw [shiftUp]
    split
    · split
      · rfl
      · rw [ih _ _ (by omega), swp_size']
    · rfl
theorem BE (E : cY P enc c sz ag k as0 bs) (h : t < H.length) {d : Array β} {m cp a b : Nat} {ex : Bool} (hm : m = d.size) (hs : m < 1099511627776) (hb : b ≤ m) {i0 : Nat} (h0 : i0 ≤ b) (h1 : 0 < i0) {x10 : AV} {f : AF} {Q : AE → AF → AH → Prop}
    (e0 : f 0 = .ref sz t 0 m cp ex) (e1 : f 1 = .int .i64 a) (e2 : f 2 = .int .i64 b) (e3 : f 3 = .fn k as0 bs) (e10 : f 10 = x10) (e9 : f 9 = .int .i64 i0)
    (hQ : ∀ f : AF, f 0 = .ref sz t 0 m cp ex → f 1 = .int .i64 a → f 2 = .int .i64 b → f 3 = .fn k as0 bs → f 10 = x10 → f 9 = .int .i64 (scanSorted (ltC c) d b i0 : Nat) → scanSorted (ltC c) d b i0 ≤ b → i0 ≤ scanSorted (ltC c) d b i0 → Q .normal f (SH enc sz t H d)) :
    (tK sz ag).wp P Q f (SH enc sz t H d) := by
  unfold tK
  simp only [push_cast, ↓reduceIte, Nat.reduceEqDiff, reduceCtorEq, Nat.reduceAdd, Nat.reduceLT, Nat.reduceLeDiff]
  refine aI (fun (i : Nat) f H' => H' = SH enc sz t H d ∧ i0 ≤ i ∧ i ≤ b ∧ f 0 = .ref sz t 0 m cp ex ∧ f 1 = .int .i64 a ∧ f 2 = .int .i64 b ∧ f 3 = .fn k as0 bs ∧ f 10 = x10 ∧ f 9 = .int .i64 i ∧ scanSorted (ltC c) d b i = scanSorted (ltC c) d b i0) (fun i => b - i) i0 ⟨rfl, Nat.le_refl _, h0, e0, e1, e2, e3, e10, e9, rfl⟩ ?_
  rintro i f H' ⟨rfl, s0, s1, e0, e1, e2, e3, e10, e9, hi⟩
  by_cases hij : i < b
  case neg =>
    have hij' : ¬ (i : Int) < b := by omega
    simp only [push_cast, ↓reduceIte, Nat.reduceEqDiff, reduceCtorEq, Nat.reduceAdd, Nat.reduceLT, Nat.reduceLeDiff, e0, e1, e2, e3, e9, e10, hij', decide_false]
    rw [scanSorted, if_neg (by simp [hij])] at hi
    refine hQ _ ?_ ?_ ?_ ?_ ?_ ?_ (by omega) (by omega) <;> simp only [push_cast, ↓reduceIte, Nat.reduceEqDiff, reduceCtorEq, Nat.reduceAdd, Nat.reduceLT, Nat.reduceLeDiff, e0, e1, e2, e3, e9, e10, ← hi]
  obtain ⟨i, rfl⟩ : ∃ q, i = q + 1 := ⟨i - 1, by omega⟩
  have hij' : (i : Int) + 1 < b := by omega
  have x1 : aF sz (.ref sz t 0 m cp ex) (.int .i64 ((i : Int) + 1)) = some (.ptr t (i + 1) 0) := aP (by omega) (by omega)
  have x2 : aF sz (.ref sz t 0 m cp ex) (.int .i64 (i : Int)) = some (.ptr t i 0) := aP rfl (by omega)
  have y1 := E.load (d := d) h (show i + 1 < d.size by omega)
  have y2 := E.load (d := d) h (show i < d.size by omega)
  have g1 : IntKind.i64.wrap ((i : Int) + 1 - 1) = i := by rw [aE (by omega) (by omega)]; omega
  have g2 : IntKind.i64.wrap ((i : Int) + 1 + 1) = (i : Int) + 1 + 1 := aE (by omega) (by omega)
  simp only [push_cast, ↓reduceIte, Nat.reduceEqDiff, reduceCtorEq, Nat.reduceAdd, Nat.reduceLT, Nat.reduceLeDiff, e0, e1, e2, e3, e9, e10, hij', decide_true, x1, x2, y1, y2, g1]
  refine aC.look (E.cmp d[i + 1]! d[i]! _) ?_
  by_cases hlt : c d[i + 1]! d[i]! < 0
  · simp only [push_cast, ↓reduceIte, Nat.reduceEqDiff, reduceCtorEq, Nat.reduceAdd, Nat.reduceLT, Nat.reduceLeDiff, e0, e1, e2, e3, e9, e10, hlt, decide_true, g2]
    rw [scanSorted, if_neg (by simp [ltC, hlt])] at hi
    refine hQ _ ?_ ?_ ?_ ?_ ?_ ?_ (by omega) (by omega) <;> simp only [push_cast, ↓reduceIte, Nat.reduceEqDiff, reduceCtorEq, Nat.reduceAdd, Nat.reduceLT, Nat.reduceLeDiff, e0, e1, e2, e3, e9, e10, ← hi]
  · simp only [push_cast, ↓reduceIte, Nat.reduceEqDiff, reduceCtorEq, Nat.reduceAdd, Nat.reduceLT, Nat.reduceLeDiff, e0, e1, e2, e3, e9, e10, hlt, decide_false, g2]
    refine ⟨i + 1 + 1, ⟨by omega, by omega, by show (i : Int) + 1 + 1 = ((i + 1 + 1 : Nat) : Int); omega, ?_⟩, by omega⟩
    rw [← hi]
    conv => rhs; rw [scanSorted]
    rw [if_pos (by simp [ltC, hij]; omega)]
theorem BF (E : cY P enc c sz ag k as0 bs) (h : t < H.length) {d : Array β} {m cp a b : Nat} {ex : Bool} (hm : m = d.size) (hs : m < 1099511627776) {j0 : Nat} (h0 : j0 < m) {x9 x10 : AV} {f : AF} {Q : AE → AF → AH → Prop}
    (e0 : f 0 = .ref sz t 0 m cp ex) (e1 : f 1 = .int .i64 a) (e2 : f 2 = .int .i64 b) (e3 : f 3 = .fn k as0 bs) (e9 : f 9 = x9) (e10 : f 10 = x10) (e11 : f 11 = .int .i64 j0)
    (hQ : ∀ f : AF, f 0 = .ref sz t 0 m cp ex → f 1 = .int .i64 a → f 2 = .int .i64 b → f 3 = .fn k as0 bs → f 9 = x9 → f 10 = x10 → Q .normal f (SH enc sz t H (shiftDown (ltC c) j0 d))) :
    (tJ sz ag).wp P Q f (SH enc sz t H d) := by
  unfold tJ
  simp only [push_cast, ↓reduceIte, Nat.reduceEqDiff, reduceCtorEq, Nat.reduceAdd, Nat.reduceLT, Nat.reduceLeDiff]
  refine aI (fun (s : Nat × Array β) f H' => H' = SH enc sz t H s.2 ∧ s.2.size = m ∧ s.1 < m ∧ f 0 = .ref sz t 0 m cp ex ∧ f 1 = .int .i64 a ∧ f 2 = .int .i64 b ∧ f 3 = .fn k as0 bs ∧ f 9 = x9 ∧ f 10 = x10 ∧ f 11 = .int .i64 s.1 ∧ shiftDown (ltC c) s.1 s.2 = shiftDown (ltC c) j0 d) (fun s => s.1) (j0, d) ⟨rfl, hm.symm, h0, e0, e1, e2, e3, e9, e10, e11, rfl⟩ ?_
  rintro ⟨j, d1⟩ f H' ⟨rfl, s0, s1, e0, e1, e2, e3, e9, e10, e11, hi⟩
  dsimp only at s0 s1 e11 hi ⊢
  cases j with
  | zero =>
    have hij' : ¬ ((0 : Int) ≥ 1) := by omega
    simp only [push_cast, ↓reduceIte, Nat.reduceEqDiff, reduceCtorEq, Nat.reduceAdd, Nat.reduceLT, Nat.reduceLeDiff, e0, e1, e2, e3, e9, e10, e11, hij', decide_false]
    have hi' : d1 = shiftDown (ltC c) j0 d := hi
    rw [← hi'] at hQ
    refine hQ _ ?_ ?_ ?_ ?_ ?_ ?_ <;> simp only [push_cast, ↓reduceIte, Nat.reduceEqDiff, reduceCtorEq, Nat.reduceAdd, Nat.reduceLT, Nat.reduceLeDiff, e0, e1, e2, e3, e9, e10]
  | succ j =>
    have hij' : ((j : Int) + 1) ≥ 1 := by omega
    have x1 : aF sz (.ref sz t 0 m cp ex) (.int .i64 ((j : Int) + 1)) = some (.ptr t (j + 1) 0) := aP (by omega) (by omega)
    have x2 : aF sz (.ref sz t 0 m cp ex) (.int .i64 (j : Int)) = some (.ptr t j 0) := aP rfl (by omega)
    have y1 := E.load (d := d1) h (show j + 1 < d1.size by omega)
    have y2 := E.load (d := d1) h (show j < d1.size by omega)
    have st := E.swap (d := d1) h (show j + 1 < d1.size by omega) (show j < d1.size by omega)
    have g1 : IntKind.i64.wrap ((j : Int) + 1 - 1) = j := by rw [aE (by omega) (by omega)]; omega
    simp only [push_cast, ↓reduceIte, Nat.reduceEqDiff, reduceCtorEq, Nat.reduceAdd, Nat.reduceLT, Nat.reduceLeDiff, e0, e1, e2, e3, e9, e10, e11, hij', decide_true, x1, x2, y1, y2, g1]
    refine aC.look (E.cmp d1[j + 1]! d1[j]! _) ?_
    by_cases hlt : c d1[j + 1]! d1[j]! < 0
    · simp only [push_cast, ↓reduceIte, Nat.reduceEqDiff, reduceCtorEq, Nat.reduceAdd, Nat.reduceLT, Nat.reduceLeDiff, e0, e1, e2, e3, e9, e10, e11, hlt, decide_true, g1, x1, x2, y1, y2, st.1, st.2]
      refine ⟨(j, swp d1 (j + 1) j), ⟨rfl, by rw [swp_size']; exact s0, by show j < m; omega, rfl, ?_⟩, by show j < j + 1; omega⟩
      rw [← hi]
      conv => rhs; rw [shiftDown]
      rw [if_neg (by simp [ltC, hlt])]
    · simp only [push_cast, ↓reduceIte, Nat.reduceEqDiff, reduceCtorEq, Nat.reduceAdd, Nat.reduceLT, Nat.reduceLeDiff, e0, e1, e2, e3, e9, e10, e11, hlt, decide_false]
      rw [shiftDown, if_pos (by simp [ltC]; omega)] at hi
      rw [← hi] at hQ
      refine hQ _ ?_ ?_ ?_ ?_ ?_ ?_ <;> simp only [push_cast, ↓reduceIte, Nat.reduceEqDiff, reduceCtorEq, Nat.reduceAdd, Nat.reduceLT, Nat.reduceLeDiff, e0, e1, e2, e3, e9, e10]
theorem qM (E : cY P enc c sz ag k as0 bs) (h : t < H.length) {d : Array β} {m cp a b : Nat} {ex : Bool} (hm : m = d.size) (hs : m < 1099511627776) (hb : b ≤ m) {j0 : Nat} (h0 : 0 < j0) (hj0 : j0 ≤ m + 1) {x9 x10 : AV} {f : AF} {Q : AE → AF → AH → Prop}
    (e0 : f 0 = .ref sz t 0 m cp ex) (e1 : f 1 = .int .i64 a) (e2 : f 2 = .int .i64 b) (e3 : f 3 = .fn k as0 bs) (e9 : f 9 = x9) (e10 : f 10 = x10) (e12 : f 12 = .int .i64 j0)
    (hQ : ∀ f : AF, f 0 = .ref sz t 0 m cp ex → f 1 = .int .i64 a → f 2 = .int .i64 b → f 3 = .fn k as0 bs → f 9 = x9 → f 10 = x10 → Q .normal f (SH enc sz t H (shiftUp (ltC c) b j0 d))) :
    (tI sz ag).wp P Q f (SH enc sz t H d) := by
  unfold tI
  simp only [push_cast, ↓reduceIte, Nat.reduceEqDiff, reduceCtorEq, Nat.reduceAdd, Nat.reduceLT, Nat.reduceLeDiff]
  refine aI (fun (s : Nat × Array β) f H' => H' = SH enc sz t H s.2 ∧ s.2.size = m ∧ 0 < s.1 ∧ s.1 ≤ m + 1 ∧ f 0 = .ref sz t 0 m cp ex ∧ f 1 = .int .i64 a ∧ f 2 = .int .i64 b ∧ f 3 = .fn k as0 bs ∧ f 9 = x9 ∧ f 10 = x10 ∧ f 12 = .int .i64 s.1 ∧ shiftUp (ltC c) b s.1 s.2 = shiftUp (ltC c) b j0 d) (fun s => b - s.1) (j0, d) ⟨rfl, hm.symm, h0, hj0, e0, e1, e2, e3, e9, e10, e12, rfl⟩ ?_
  rintro ⟨j, d1⟩ f H' ⟨rfl, s0, s1, s2, e0, e1, e2, e3, e9, e10, e12, hi⟩
  dsimp only at s0 s1 s2 e12 hi ⊢
  by_cases hij : j < b
  case neg =>
    have hij' : ¬ (j : Int) < b := by omega
    simp only [push_cast, ↓reduceIte, Nat.reduceEqDiff, reduceCtorEq, Nat.reduceAdd, Nat.reduceLT, Nat.reduceLeDiff, e0, e1, e2, e3, e9, e10, e12, hij', decide_false]
    rw [shiftUp, if_neg hij] at hi
    rw [← hi] at hQ
    refine hQ _ ?_ ?_ ?_ ?_ ?_ ?_ <;> simp only [push_cast, ↓reduceIte, Nat.reduceEqDiff, reduceCtorEq, Nat.reduceAdd, Nat.reduceLT, Nat.reduceLeDiff, e0, e1, e2, e3, e9, e10]
  obtain ⟨j, rfl⟩ : ∃ q, j = q + 1 := ⟨j - 1, by omega⟩
  have hij' : (j : Int) + 1 < b := by omega
  have x1 : aF sz (.ref sz t 0 m cp ex) (.int .i64 ((j : Int) + 1)) = some (.ptr t (j + 1) 0) := aP (by omega) (by omega)
  have x2 : aF sz (.ref sz t 0 m cp ex) (.int .i64 (j : Int)) = some (.ptr t j 0) := aP rfl (by omega)
  have y1 := E.load (d := d1) h (show j + 1 < d1.size by omega)
  have y2 := E.load (d := d1) h (show j < d1.size by omega)
  have st := E.swap (d := d1) h (show j + 1 < d1.size by omega) (show j < d1.size by omega)
  have g1 : IntKind.i64.wrap ((j : Int) + 1 - 1) = j := by rw [aE (by omega) (by omega)]; omega
  have g2 : IntKind.i64.wrap ((j : Int) + 1 + 1) = (j : Int) + 1 + 1 := aE (by omega) (by omega)
  simp only [push_cast, ↓reduceIte, Nat.reduceEqDiff, reduceCtorEq, Nat.reduceAdd, Nat.reduceLT, Nat.reduceLeDiff, e0, e1, e2, e3, e9, e10, e12, hij', decide_true, x1, x2, y1, y2, g1]
  refine aC.look (E.cmp d1[j + 1]! d1[j]! _) ?_
  by_cases hlt : c d1[j + 1]! d1[j]! < 0
  · simp only [push_cast, ↓reduceIte, Nat.reduceEqDiff, reduceCtorEq, Nat.reduceAdd, Nat.reduceLT, Nat.reduceLeDiff, e0, e1, e2, e3, e9, e10, e12, hlt, decide_true, g1, g2, x1, x2, y1, y2, st.1, st.2]
    refine ⟨(j + 1 + 1, swp d1 (j + 1) j), ⟨rfl, by rw [swp_size']; exact s0, by show 0 < j + 1 + 1; omega, by show j + 1 + 1 ≤ m + 1; omega, by show (j : Int) + 1 + 1 = ((j + 1 + 1 : Nat) : Int); omega, ?_⟩, by show b - (j + 1 + 1) < b - (j + 1); omega⟩
    rw [← hi]
    conv => rhs; rw [shiftUp]
    rw [if_pos hij, if_neg (by simp [ltC, hlt])]
    rfl
  · simp only [push_cast, ↓reduceIte, Nat.reduceEqDiff, reduceCtorEq, Nat.reduceAdd, Nat.reduceLT, Nat.reduceLeDiff, e0, e1, e2, e3, e9, e10, e12, hlt, decide_false]
    rw [shiftUp, if_pos hij, if_pos (by simp [ltC]; omega)] at hi
    rw [← hi] at hQ
    refine hQ _ ?_ ?_ ?_ ?_ ?_ ?_ <;> simp only [push_cast, ↓reduceIte, Nat.reduceEqDiff, reduceCtorEq, Nat.reduceAdd, Nat.reduceLT, Nat.reduceLeDiff, e0, e1, e2, e3, e9, e10]
theorem GJ {n : FuncId} (hc : aD P n = some (ST sz ag)) (E : cY P enc c sz ag k as0 bs) (h : t < H.length) (d : Array β) {m cp : Nat} {ex : Bool} (hm : m = d.size) (hs : m < 1099511627776) (a b : Nat) (hab : a < b) (hb : b ≤ m) :
    aC P n [.ref sz t 0 m cp ex, .int .i64 a, .int .i64 b, .fn k as0 bs] (SH enc sz t H d) fun r H' => r = .bool (partialInsertionSort (ltC c) d a b).2 ∧ H' = SH enc sz t H (partialInsertionSort (ltC c) d a b).1 := by
  refine aU hc (by simp [ST]) ?_
  unfold ST partialInsertionSort BD
  have g1 : IntKind.i64.wrap ((a : Int) + 1) = ((a + 1 : Nat) : Int) := aX (by omega) (by omega)
  generalize hi0 : a + 1 = i0 at g1 ⊢
  simp only [push_cast, ↓reduceIte, Nat.reduceEqDiff, reduceCtorEq, Nat.reduceAdd, Nat.reduceLT, Nat.reduceLeDiff, g1]
  refine aI (fun (s : Nat × Nat × Array β) f H' => H' = SH enc sz t H s.2.2 ∧ s.2.2.size = m ∧ s.1 ≤ 5 ∧ a < s.2.1 ∧ s.2.1 ≤ b ∧ f 0 = .ref sz t 0 m cp ex ∧ f 1 = .int .i64 a ∧ f 2 = .int .i64 b ∧ f 3 = .fn k as0 bs ∧ f 9 = .int .i64 s.2.1 ∧ f 10 = .int .i64 s.1 ∧ partialIns (ltC c) a b (5 - s.1) s.2.1 s.2.2 = partialIns (ltC c) a b 5 i0 d) (fun s => 5 - s.1) (0, i0, d) ?_ ?_
  · refine ⟨rfl, hm.symm, by omega, by dsimp only; omega, by dsimp only; omega, ?_⟩
    simp only [push_cast, ↓reduceIte, Nat.reduceEqDiff, reduceCtorEq, Nat.reduceAdd, Nat.reduceLT, Nat.reduceLeDiff, g1]
    done
  rintro ⟨q, i, d1⟩ f H' ⟨rfl, s0, s1, s2, s3, e0, e1, e2, e3, e9, e10, hi⟩
  dsimp only at s0 s1 s2 s3 e9 e10 hi ⊢
  by_cases hq : q = 5
  · have hq' : ¬ (q : Int) < 5 := by omega
    simp only [push_cast, ↓reduceIte, Nat.reduceEqDiff, reduceCtorEq, Nat.reduceAdd, Nat.reduceLT, Nat.reduceLeDiff, e0, e1, e2, e3, e9, e10, hq', decide_false]
    rw [show 5 - q = 0 by omega] at hi
    have hi' : (d1, false) = partialIns (ltC c) a b 5 i0 d := hi
    rw [← hi']
    exact ⟨rfl, rfl⟩
  have hq' : (q : Int) < 5 := by omega
  obtain ⟨s, hs5⟩ : ∃ s, 5 - q = s + 1 := ⟨4 - q, by omega⟩
  rw [hs5, partialIns_succ] at hi
  simp only [push_cast, ↓reduceIte, Nat.reduceEqDiff, reduceCtorEq, Nat.reduceAdd, Nat.reduceLT, Nat.reduceLeDiff, e0, e1, e2, e3, e9, e10, hq', decide_true]
  refine BE E h s0.symm hs hb (a := a) (cp := cp) (ex := ex) (i0 := i) (x10 := .int .i64 q) s3 (by omega) ?_ ?_ ?_ ?_ ?_ ?_ fun f e0 e1 e2 e3 e10 e9 hi2 hi3 => ?_
  all_goals first | (simp only [push_cast, ↓reduceIte, Nat.reduceEqDiff, reduceCtorEq, Nat.reduceAdd, Nat.reduceLT, Nat.reduceLeDiff, e0, e1, e2, e3, e9, e10]; done) | skip
  generalize scanSorted (ltC c) d1 b i = i2 at e9 hi2 hi3 hi
  by_cases hib : i2 = b
  · have hib' : (i2 : Int) = b := by omega
    rw [if_pos hib] at hi
    simp only [push_cast, ↓reduceIte, Nat.reduceEqDiff, reduceCtorEq, Nat.reduceAdd, Nat.reduceLT, Nat.reduceLeDiff, e0, e1, e2, e3, e9, e10, hib', decide_true]
    rw [← hi]
    exact ⟨rfl, rfl⟩
  have hib' : ¬ (i2 : Int) = b := by omega
  rw [if_neg hib] at hi
  have w1 : IntKind.i64.wrap ((b : Int) - a) = ((b - a : Nat) : Int) := aX (by omega) (by omega)
  by_cases h50 : b - a < 50
  · have h50' : ((b - a : Nat) : Int) < 50 := by omega
    rw [if_pos h50] at hi
    simp only [push_cast, ↓reduceIte, Nat.reduceEqDiff, reduceCtorEq, Nat.reduceAdd, Nat.reduceLT, Nat.reduceLeDiff, e0, e1, e2, e3, e9, e10, hib', decide_false, w1, h50', decide_true]
    rw [← hi]
    exact ⟨rfl, rfl⟩
  have h50' : ¬ ((b - a : Nat) : Int) < 50 := by omega
  rw [if_neg h50] at hi
  obtain ⟨j2, rfl⟩ : ∃ z, i2 = z + 1 := ⟨i2 - 1, by omega⟩
  have x1 : aF sz (.ref sz t 0 m cp ex) (.int .i64 ((j2 : Int) + 1)) = some (.ptr t (j2 + 1) 0) := aP (by omega) (by omega)
  have x2 : aF sz (.ref sz t 0 m cp ex) (.int .i64 (j2 : Int)) = some (.ptr t j2 0) := aP rfl (by omega)
  have y1 := E.load (d := d1) h (show j2 + 1 < d1.size by omega)
  have y2 := E.load (d := d1) h (show j2 < d1.size by omega)
  have st := E.swap (d := d1) h (show j2 + 1 < d1.size by omega) (show j2 < d1.size by omega)
  have w2 : IntKind.i64.wrap ((j2 : Int) + 1 - 1) = j2 := by rw [aE (by omega) (by omega)]; omega
  have w3 : IntKind.i64.wrap ((j2 : Int) + 1 - a) = ((j2 + 1 - a : Nat) : Int) := aX (by omega) (by omega)
  have w4 : IntKind.i64.wrap ((b : Int) - ((j2 : Int) + 1)) = ((b - (j2 + 1) : Nat) : Int) := aX (by omega) (by omega)
  have w5 : IntKind.i64.wrap ((j2 : Int) + 1 + 1) = (j2 : Int) + 1 + 1 := aE (by omega) (by omega)
  have w6 : IntKind.i64.wrap ((q : Int) + 1) = (q : Int) + 1 := aE (by omega) (by omega)
  have hib2 : ¬ (j2 : Int) + 1 = b := by omega
  have hi' : partialIns (ltC c) a b s (j2 + 1) (if b - (j2 + 1) ≥ 2 then shiftUp (ltC c) b (j2 + 1 + 1) (if j2 + 1 - a ≥ 2 then shiftDown (ltC c) j2 (swp d1 (j2 + 1) j2) else swp d1 (j2 + 1) j2) else (if j2 + 1 - a ≥ 2 then shiftDown (ltC c) j2 (swp d1 (j2 + 1) j2) else swp d1 (j2 + 1) j2)) = partialIns (ltC c) a b 5 i0 d := hi
  have hz : (swp d1 (j2 + 1) j2).size = m := by rw [swp_size']; exact s0
  generalize hd2 : swp d1 (j2 + 1) j2 = d2 at hz hi' st
  have fin : ∀ d3 : Array β, d3.size = m → partialIns (ltC c) a b s (j2 + 1) d3 = partialIns (ltC c) a b 5 i0 d → ∃ s' : Nat × Nat × Array β, (SH enc sz t H d3 = SH enc sz t H s'.2.2 ∧ s'.2.2.size = m ∧ s'.1 ≤ 5 ∧ a < s'.2.1 ∧ s'.2.1 ≤ b ∧ (j2 : Int) + 1 = s'.2.1 ∧ (q : Int) + 1 = s'.1 ∧ partialIns (ltC c) a b (5 - s'.1) s'.2.1 s'.2.2 = partialIns (ltC c) a b 5 i0 d) ∧ 5 - s'.1 < 5 - q := fun d3 hz3 he => by
    refine ⟨(q + 1, j2 + 1, d3), ⟨rfl, hz3, by show q + 1 ≤ 5; omega, by show a < j2 + 1; omega, by show j2 + 1 ≤ b; omega, by show (j2 : Int) + 1 = ((j2 + 1 : Nat) : Int); omega, by show (q : Int) + 1 = ((q + 1 : Nat) : Int); omega, ?_⟩, by show 5 - (q + 1) < 5 - q; omega⟩
    show partialIns (ltC c) a b (5 - (q + 1)) (j2 + 1) d3 = _
    rw [show 5 - (q + 1) = s by omega]; exact he
  by_cases hA : j2 + 1 - a ≥ 2
  · have hA' : ((j2 + 1 - a : Nat) : Int) ≥ 2 := by omega
    simp only [push_cast, ↓reduceIte, Nat.reduceEqDiff, reduceCtorEq, Nat.reduceAdd, Nat.reduceLT, Nat.reduceLeDiff, e0, e1, e2, e3, e9, e10, hib2, decide_false, w1, h50', x1, x2, y1, y2, w2, st.1, st.2, w3, hA', decide_true]
    refine BF E h hz.symm hs (a := a) (b := b) (cp := cp) (ex := ex) (j0 := j2) (x9 := .int .i64 ((j2 : Int) + 1)) (x10 := .int .i64 q) (by omega) ?_ ?_ ?_ ?_ ?_ ?_ ?_ fun f e0 e1 e2 e3 e9 e10 => ?_
    all_goals first | (simp only [push_cast, ↓reduceIte, Nat.reduceEqDiff, reduceCtorEq, Nat.reduceAdd, Nat.reduceLT, Nat.reduceLeDiff, e0, e1, e2, e3, e9, e10, w2]; done) | skip
    rw [if_pos hA] at hi'
    have hz3 : (shiftDown (ltC c) j2 d2).size = m := by rw [gK, hz]
    generalize shiftDown (ltC c) j2 d2 = d3 at hi' hz3 ⊢
    by_cases hB : b - (j2 + 1) ≥ 2
    · have hB' : ((b - (j2 + 1) : Nat) : Int) ≥ 2 := by omega
      rw [if_pos hB] at hi'
      simp only [push_cast, ↓reduceIte, Nat.reduceEqDiff, reduceCtorEq, Nat.reduceAdd, Nat.reduceLT, Nat.reduceLeDiff, e0, e1, e2, e3, e9, e10, w4, hB', decide_true, w5]
      refine qM E h hz3.symm hs (a := a) (b := b) (cp := cp) (ex := ex) hb (j0 := j2 + 1 + 1) (x9 := .int .i64 ((j2 : Int) + 1)) (x10 := .int .i64 q) (by omega) (by omega) ?_ ?_ ?_ ?_ ?_ ?_ ?_ fun f e0 e1 e2 e3 e9 e10 => ?_
      all_goals first | (simp only [push_cast, ↓reduceIte, Nat.reduceEqDiff, reduceCtorEq, Nat.reduceAdd, Nat.reduceLT, Nat.reduceLeDiff, e0, e1, e2, e3, e9, e10, w5]; done) | skip
      simp only [push_cast, ↓reduceIte, Nat.reduceEqDiff, reduceCtorEq, Nat.reduceAdd, Nat.reduceLT, Nat.reduceLeDiff, e0, e1, e2, e3, e9, e10, w6]
      exact fin _ (by rw [jN _ _ _ _ _ (Nat.le_refl _), hz3]) hi'
    · have hB' : ¬ ((b - (j2 + 1) : Nat) : Int) ≥ 2 := by omega
      rw [if_neg hB] at hi'
      simp only [push_cast, ↓reduceIte, Nat.reduceEqDiff, reduceCtorEq, Nat.reduceAdd, Nat.reduceLT, Nat.reduceLeDiff, e0, e1, e2, e3, e9, e10, w4, hB', decide_false, w6]
      exact fin _ hz3 hi'
  · have hA' : ¬ ((j2 + 1 - a : Nat) : Int) ≥ 2 := by omega
    rw [if_neg hA] at hi'
    by_cases hB : b - (j2 + 1) ≥ 2
    · have hB' : ((b - (j2 + 1) : Nat) : Int) ≥ 2 := by omega
      rw [if_pos hB] at hi'
      simp only [push_cast, ↓reduceIte, Nat.reduceEqDiff, reduceCtorEq, Nat.reduceAdd, Nat.reduceLT, Nat.reduceLeDiff, e0, e1, e2, e3, e9, e10, hib2, decide_false, w1, h50', x1, x2, y1, y2, w2, st.1, st.2, w3, hA', w4, hB', decide_true, w5]
      refine qM E h hz.symm hs (a := a) (b := b) (cp := cp) (ex := ex) hb (j0 := j2 + 1 + 1) (x9 := .int .i64 ((j2 : Int) + 1)) (x10 := .int .i64 q) (by omega) (by omega) ?_ ?_ ?_ ?_ ?_ ?_ ?_ fun f e0 e1 e2 e3 e9 e10 => ?_
      all_goals first | (simp only [push_cast, ↓reduceIte, Nat.reduceEqDiff, reduceCtorEq, Nat.reduceAdd, Nat.reduceLT, Nat.reduceLeDiff, e0, e1, e2, e3, e9, e10, w5]; done) | skip
      simp only [push_cast, ↓reduceIte, Nat.reduceEqDiff, reduceCtorEq, Nat.reduceAdd, Nat.reduceLT, Nat.reduceLeDiff, e0, e1, e2, e3, e9, e10, w6]
      exact fin _ (by rw [jN _ _ _ _ _ (Nat.le_refl _), hz]) hi'
    · have hB' : ¬ ((b - (j2 + 1) : Nat) : Int) ≥ 2 := by omega
      rw [if_neg hB] at hi'
      simp only [push_cast, ↓reduceIte, Nat.reduceEqDiff, reduceCtorEq, Nat.reduceAdd, Nat.reduceLT, Nat.reduceLeDiff, e0, e1, e2, e3, e9, e10, hib2, decide_false, w1, h50', x1, x2, y1, y2, w2, st.1, st.2, w3, hA', w4, hB', decide_true, w6]
      exact fin _ hz hi'
end
end Go.Eng
end
section
namespace Go.Eng
open Go Go.Sort
set_option linter.unusedSimpArgs false
set_option linter.unusedVariables false
set_option linter.unusedSectionVars false
set_option maxRecDepth 10000
def LM (sz : Nat) (ag : Bool) : AFn := ⟨32, 5, [.t 10, .t 11], (.seq (.ops [oo 10 (.mov (.v (.int .i64 0))), oo 11 (.mov (.v (.int .i64 0)))]) (.seq (.seq (.ops [oo 32 (.mov (.t 4)), oo 33 (.mov (.t 0)), oo 34 (.mov (.t 2)), oo 35 (.iaddr sz (.t 33) (.t 34)), oo 36 (.load ag sz (.t 35)), oo 37 (.mov (.t 0)), oo 38 (.mov (.t 1)), oo 39 (.iaddr sz (.t 37) (.t 38)), oo 40 (.load ag sz (.t 39)), oo 41 (.callv (.t 32) [(.t 36), (.t 40)]), oo 42 (.bin .lss (.t 41) (.v (.int .i64 0))), oo 12 (.mov (.t 32)), oo 13 (.mov (.t 33)), oo 14 (.mov (.t 34)), oo 15 (.mov (.t 35)), oo 16 (.mov (.t 36)), oo 17 (.mov (.t 37)), oo 18 (.mov (.t 38)), oo 19 (.mov (.t 39)), oo 20 (.mov (.t 40)), oo 21 (.mov (.t 41)), oo 22 (.mov (.t 42))]) (.cond (.t 22) (.seq (.ops [oo 23 (.mov (.t 3)), oo 24 (.nilc (.t 23)), oo 25 (.load false 1 (.t 24)), oo 26 (.bin .add (.t 25) (.v (.int .i64 1))), oo 27 (.nilc (.t 23)), on (.store 1 (.t 27) (.t 26))]) (.seq (.ops [oo 28 (.mov (.t 2)), oo 29 (.mov (.t 1)), oo 10 (.mov (.t 28)), oo 11 (.mov (.t 29))]) .ret)) .skip)) (.seq (.ops [oo 30 (.mov (.t 1)), oo 31 (.mov (.t 2)), oo 10 (.mov (.t 30)), oo 11 (.mov (.t 31))]) .ret)))⟩
def OC (sz : Nat) (ag : Bool) (ko : Nat) : AFn := ⟨41, 6, [.t 12], (.seq (.ops [oo 12 (.mov (.v (.int .i64 0)))]) (.seq (.ops [oo 14 (.mov (.t 0)), oo 15 (.mov (.t 1)), oo 16 (.mov (.t 2)), oo 17 (.mov (.t 4)), oo 18 (.mov (.t 5)), oo 19 (.call ko [(.t 14), (.t 15), (.t 16), (.t 17), (.t 18)]), oo 13 (.mov (.t 19)), oo 20 (.ext (.t 13) 0), oo 21 (.ext (.t 13) 1), oo 1 (.mov (.t 20)), oo 2 (.mov (.t 21))]) (.seq (.ops [oo 23 (.mov (.t 0)), oo 24 (.mov (.t 2)), oo 25 (.mov (.t 3)), oo 26 (.mov (.t 4)), oo 27 (.mov (.t 5)), oo 28 (.call ko [(.t 23), (.t 24), (.t 25), (.t 26), (.t 27)]), oo 22 (.mov (.t 28)), oo 29 (.ext (.t 22) 0), oo 30 (.ext (.t 22) 1), oo 2 (.mov (.t 29)), oo 3 (.mov (.t 30))]) (.seq (.ops [oo 32 (.mov (.t 0)), oo 33 (.mov (.t 1)), oo 34 (.mov (.t 2)), oo 35 (.mov (.t 4)), oo 36 (.mov (.t 5)), oo 37 (.call ko [(.t 32), (.t 33), (.t 34), (.t 35), (.t 36)]), oo 31 (.mov (.t 37)), oo 38 (.ext (.t 31) 0), oo 39 (.ext (.t 31) 1), oo 1 (.mov (.t 38)), oo 2 (.mov (.t 39))]) (.seq (.ops [oo 40 (.mov (.t 2)), oo 12 (.mov (.t 40))]) .ret)))))⟩
def QU (sz : Nat) (ag : Bool) (km : Nat) : AFn := ⟨18, 4, [.t 8], (.seq (.ops [oo 8 (.mov (.v (.int .i64 0)))]) (.seq (.ops [oo 9 (.mov (.t 0)), oo 10 (.mov (.t 1)), oo 11 (.bin .sub (.t 10) (.v (.int .i64 1))), oo 12 (.mov (.t 1)), oo 13 (.mov (.t 1)), oo 14 (.bin .add (.t 13) (.v (.int .i64 1))), oo 15 (.mov (.t 2)), oo 16 (.mov (.t 3)), oo 17 (.call km [(.t 9), (.t 11), (.t 12), (.t 14), (.t 15), (.t 16)]), oo 8 (.mov (.t 17))]) .ret))⟩
def SV (sz : Nat) (ag : Bool) (km : Nat) (kj : Nat) : AFn := ⟨63, 4, [.t 8, .t 9], (.seq (.ops [oo 8 (.mov (.v (.int .i64 0))), oo 9 (.mov (.v (.int .i64 0)))]) (.seq (.ops [oo 15 (.mov (.t 2)), oo 16 (.mov (.t 1)), oo 17 (.bin .sub (.t 15) (.t 16)), oo 10 (.mov (.t 17))]) (.seq (.ops [oo 11 (.alloc 1 (.int .i64 0))]) (.seq (.ops [oo 18 (.mov (.t 1)), oo 19 (.mov (.t 10)), oo 20 (.bin .quo (.t 19) (.v (.int .i64 4))), oo 21 (.bin .mul (.t 20) (.v (.int .i64 1))), oo 22 (.bin .add (.t 18) (.t 21)), oo 12 (.mov (.t 22))]) (.seq (.ops [oo 23 (.mov (.t 1)), oo 24 (.mov (.t 10)), oo 25 (.bin .quo (.t 24) (.v (.int .i64 4))), oo 26 (.bin .mul (.t 25) (.v (.int .i64 2))), oo 27 (.bin .add (.t 23) (.t 26)), oo 13 (.mov (.t 27))]) (.seq (.ops [oo 28 (.mov (.t 1)), oo 29 (.mov (.t 10)), oo 30 (.bin .quo (.t 29) (.v (.int .i64 4))), oo 31 (.bin .mul (.t 30) (.v (.int .i64 3))), oo 32 (.bin .add (.t 28) (.t 31)), oo 14 (.mov (.t 32))]) (.seq (.seq (.ops [oo 33 (.mov (.t 10)), oo 34 (.bin .geq (.t 33) (.v (.int .i64 8)))]) (.cond (.t 34) (.seq (.seq (.ops [oo 35 (.mov (.t 10)), oo 36 (.bin .geq (.t 35) (.v (.int .i64 50)))]) (.cond (.t 36) (.seq (.ops [oo 37 (.mov (.t 0)), oo 38 (.mov (.t 12)), oo 39 (.mov (.t 3)), oo 40 (.call kj [(.t 37), (.t 38), (.t 11), (.t 39)]), oo 12 (.mov (.t 40))]) (.seq (.ops [oo 41 (.mov (.t 0)), oo 42 (.mov (.t 13)), oo 43 (.mov (.t 3)), oo 44 (.call kj [(.t 41), (.t 42), (.t 11), (.t 43)]), oo 13 (.mov (.t 44))]) (.ops [oo 45 (.mov (.t 0)), oo 46 (.mov (.t 14)), oo 47 (.mov (.t 3)), oo 48 (.call kj [(.t 45), (.t 46), (.t 11), (.t 47)]), oo 14 (.mov (.t 48))]))) .skip)) (.ops [oo 49 (.mov (.t 0)), oo 50 (.mov (.t 12)), oo 51 (.mov (.t 13)), oo 52 (.mov (.t 14)), oo 53 (.mov (.t 3)), oo 54 (.call km [(.t 49), (.t 50), (.t 51), (.t 52), (.t 11), (.t 53)]), oo 13 (.mov (.t 54))])) .skip)) (.seq (.ops [oo 55 (.load false 1 (.t 11))]) (.block 0 (.seq (.ops [oo 58 (.bin .eql (.t 55) (.v (.int .i64 0))), oo 57 (.mov (.t 58))]) (.cond (.t 57) (.seq (.ops [oo 59 (.mov (.t 13)), oo 8 (.mov (.t 59)), oo 9 (.mov (.v (.int .i64 1)))]) .ret) (.seq (.ops [oo 61 (.bin .eql (.t 55) (.v (.int .i64 12))), oo 60 (.mov (.t 61))]) (.cond (.t 60) (.seq (.ops [oo 62 (.mov (.t 13)), oo 8 (.mov (.t 62)), oo 9 (.mov (.v (.int .i64 2)))]) .ret) (.seq (.ops [oo 56 (.mov (.t 13)), oo 8 (.mov (.t 56)), oo 9 (.mov (.v (.int .i64 0)))]) .ret))))))))))))))⟩
section
variable {β : Type} [Inhabited β] {enc : β → AV} {sz t : Nat} {H : AH} {P : Program} {c : β → β → Int} {ag : Bool} {k : FuncId} {as0 bs : List AV}
theorem qN {ag : Bool} {s : Nat} {p : AV} {H J : AH} {v : AV} (h : cG ag s p H = some v) : cG ag s p (H ++ J) = some v := by
  unfold cG at h ⊢
  split at h
  · simp only [Option.bind_eq_some_iff] at h ⊢
    obtain ⟨o, h1, h2⟩ := h
    exact ⟨o, bB (List.prefix_append _ _) h1, h2⟩
  · exact h
  · cases h
def SZ (enc : β → AV) (sz t : Nat) (H : AH) (d : Array β) (z : Int) : AH := SH enc sz t H d ++ [.live 1 [.int .i64 z]]
theorem tL {d : Array β} {z : Int} : cG false 1 (.ptr H.length 0 0) (SZ enc sz t H d z) = some (.int .i64 z) := by
  simp only [cG, SZ]
  have : obj? (SH enc sz t H d ++ [aR.live 1 [.int .i64 z]]) H.length = some (1, [.int .i64 z]) := by
    rw [← gJ (enc := enc) (sz := sz) (t := t) (H := H) (d := d)]; exact bA _ _ _
  rw [this]; rfl
theorem GK {d : Array β} {z y : Int} : dS 1 (.ptr H.length 0 0) (.int .i64 y) (SZ enc sz t H d z) = some (SZ enc sz t H d y) := by
  simp only [dS, SZ]
  have : obj? (SH enc sz t H d ++ [aR.live 1 [.int .i64 z]]) H.length = some (1, [.int .i64 z]) := by
    rw [← gJ (enc := enc) (sz := sz) (t := t) (H := H) (d := d)]; exact bA _ _ _
  rw [this]
  have e : List.set (SH enc sz t H d ++ [aR.live 1 [.int .i64 z]]) H.length (.live 1 [.int .i64 y]) = SH enc sz t H d ++ [.live 1 [.int .i64 y]] := sQ gJ.symm
  simp [cells, fI, dH, kK, e]
theorem oA {n : FuncId} (hc : aD P n = some (LM sz ag)) (E : cY P enc c sz ag k as0 bs) (h : t < H.length) (d : Array β) {m cp : Nat} {ex : Bool} (hm : m = d.size) (a b lo hi : Nat) (hh : hi ≤ m) (ha : lo ≤ a ∧ a < hi) (hb : lo ≤ b ∧ b < hi) (z : Int) :
    aC P n [.ref sz t 0 m cp ex, .int .i64 a, .int .i64 b, .ptr H.length 0 0, .fn k as0 bs] (SZ enc sz t H d z) fun r H' => ∃ z' x y, r = .tup [.int .i64 (x : Nat), .int .i64 (y : Nat)] ∧ H' = SZ enc sz t H d z' ∧ (lo ≤ x ∧ x < hi) ∧ (lo ≤ y ∧ y < hi) := by
  refine aU hc (by simp [LM]) ?_
  unfold LM
  have i1 : aF sz (.ref sz t 0 m cp ex) (.int .i64 (a : Int)) = some (.ptr t a 0) := aP rfl (by omega)
  have i2 : aF sz (.ref sz t 0 m cp ex) (.int .i64 (b : Int)) = some (.ptr t b 0) := aP rfl (by omega)
  have l1 : cG ag sz (.ptr t a 0) (SZ enc sz t H d z) = some (enc d[a]!) := qN (E.load (d := d) h (show a < d.size by omega))
  have l2 : cG ag sz (.ptr t b 0) (SZ enc sz t H d z) = some (enc d[b]!) := qN (E.load (d := d) h (show b < d.size by omega))
  simp only [push_cast, ↓reduceIte, Nat.reduceEqDiff, reduceCtorEq, Nat.reduceAdd, Nat.reduceLT, Nat.reduceLeDiff, i1, i2, l1, l2]
  refine aC.look (E.cmp d[b]! d[a]! _) ?_
  by_cases hlt : c d[b]! d[a]! < 0
  · simp only [push_cast, ↓reduceIte, Nat.reduceEqDiff, reduceCtorEq, Nat.reduceAdd, Nat.reduceLT, Nat.reduceLeDiff, hlt, tL, GK]
    exact ⟨_, b, a, rfl, rfl, hb, ha⟩
  · simp only [push_cast, ↓reduceIte, Nat.reduceEqDiff, reduceCtorEq, Nat.reduceAdd, Nat.reduceLT, Nat.reduceLeDiff, hlt]
    exact ⟨z, a, b, rfl, rfl, ha, hb⟩
theorem oB {n ko : FuncId} (hc : aD P n = some (OC sz ag ko)) (hko : aD P ko = some (LM sz ag)) (E : cY P enc c sz ag k as0 bs) (h : t < H.length) (d : Array β) {m cp : Nat} {ex : Bool} (hm : m = d.size) (a b q : Nat) (lo hi : Nat) (hh : hi ≤ m) (ha : lo ≤ a ∧ a < hi) (hb : lo ≤ b ∧ b < hi) (hq : lo ≤ q ∧ q < hi) (z : Int) :
    aC P n [.ref sz t 0 m cp ex, .int .i64 a, .int .i64 b, .int .i64 q, .ptr H.length 0 0, .fn k as0 bs] (SZ enc sz t H d z) fun r H' => ∃ z' x, r = .int .i64 (x : Nat) ∧ H' = SZ enc sz t H d z' ∧ lo ≤ x ∧ x < hi := by
  refine aU hc (by simp [OC]) ?_
  unfold OC
  simp only [push_cast, ↓reduceIte, Nat.reduceEqDiff, reduceCtorEq, Nat.reduceAdd, Nat.reduceLT, Nat.reduceLeDiff]
  refine (oA hko E h d hm a b lo hi hh ha hb z).mono fun r H' ⟨z1, x1, y1, e1, e2, e3, e4⟩ => ?_
  subst e1; subst e2
  simp only [push_cast, ↓reduceIte, Nat.reduceEqDiff, reduceCtorEq, Nat.reduceAdd, Nat.reduceLT, Nat.reduceLeDiff]
  refine (oA hko E h d hm y1 q lo hi hh e4 hq z1).mono fun r H' ⟨z2, x2, y2, e5, e6, e7, e8⟩ => ?_
  subst e5; subst e6
  simp only [push_cast, ↓reduceIte, Nat.reduceEqDiff, reduceCtorEq, Nat.reduceAdd, Nat.reduceLT, Nat.reduceLeDiff]
  refine (oA hko E h d hm x1 x2 lo hi hh e3 e7 z2).mono fun r H' ⟨z3, x3, y3, e9, e10, e11, e12⟩ => ?_
  subst e9; subst e10
  simp only [push_cast, ↓reduceIte, Nat.reduceEqDiff, reduceCtorEq, Nat.reduceAdd, Nat.reduceLT, Nat.reduceLeDiff]
  exact ⟨z3, y3, rfl, rfl, e12⟩
theorem oC {n km ko : FuncId} (hc : aD P n = some (QU sz ag km)) (hkm : aD P km = some (OC sz ag ko)) (hko : aD P ko = some (LM sz ag)) (E : cY P enc c sz ag k as0 bs) (h : t < H.length) (d : Array β) {m cp : Nat} {ex : Bool} (hm : m = d.size) (hs : m < 1099511627776) (a : Nat) (lo hi : Nat) (hh : hi ≤ m) (ha : lo + 1 ≤ a ∧ a + 1 < hi) (z : Int) :
    aC P n [.ref sz t 0 m cp ex, .int .i64 a, .ptr H.length 0 0, .fn k as0 bs] (SZ enc sz t H d z) fun r H' => ∃ z' x, r = .int .i64 (x : Nat) ∧ H' = SZ enc sz t H d z' ∧ lo ≤ x ∧ x < hi := by
  refine aU hc (by simp [QU]) ?_
  unfold QU
  have g1 : IntKind.i64.wrap ((a : Int) + 1) = ((a + 1 : Nat) : Int) := aX (by omega) (by omega)
  have g2 : IntKind.i64.wrap ((a : Int) - 1) = ((a - 1 : Nat) : Int) := aX (by omega) (by omega)
  generalize h1 : a + 1 = a1 at g1
  generalize h2 : a - 1 = a2 at g2
  simp only [push_cast, ↓reduceIte, Nat.reduceEqDiff, reduceCtorEq, Nat.reduceAdd, Nat.reduceLT, Nat.reduceLeDiff, g1, g2]
  refine (oB hkm hko E h d hm a2 a a1 lo hi hh (by omega) (by omega) (by omega) z).mono fun r H' ⟨z1, x1, e1, e2, e3, e4⟩ => ?_
  subst e1; subst e2
  simp only [push_cast, ↓reduceIte, Nat.reduceEqDiff, reduceCtorEq, Nat.reduceAdd, Nat.reduceLT, Nat.reduceLeDiff]
  exact ⟨z1, x1, rfl, rfl, e3, e4⟩
theorem GM {n km kj ko : FuncId} (hc : aD P n = some (SV sz ag km kj)) (hkj : aD P kj = some (QU sz ag km)) (hkm : aD P km = some (OC sz ag ko)) (hko : aD P ko = some (LM sz ag)) (E : cY P enc c sz ag k as0 bs) (h : t < H.length) (d : Array β) {m cp : Nat} {ex : Bool} (hm : m = d.size) (hs : m < 1099511627776) (a b : Nat) (hab : a + 12 < b) (hb : b ≤ m) :
    aC P n [.ref sz t 0 m cp ex, .int .i64 a, .int .i64 b, .fn k as0 bs] (SH enc sz t H d) fun r H' => ∃ (J : AH) (x : Nat) (y : Int), r = .tup [.int .i64 (x : Nat), .int .i64 y] ∧ H' = SH enc sz t H d ++ J ∧ a ≤ x ∧ x < b := by
  refine aU hc (by simp [SV]) ?_
  unfold SV
  have g0 : IntKind.i64.wrap ((b : Int) - a) = ((b - a : Nat) : Int) := aX (by omega) (by omega)
  generalize hl : b - a = l at g0
  have q0 : IntKind.i64.wrap ((l : Int).tdiv 4) = ((l / 4 : Nat) : Int) := by rw [Int.tdiv_eq_ediv_of_nonneg (by omega)]; exact aX (by omega) (by omega)
  have q4 : ¬ (4 : Int) = 0 := by omega
  generalize hq : l / 4 = q at q0
  have m1 : IntKind.i64.wrap ((q : Int) * 1) = ((q : Nat) : Int) := aX (by omega) (by omega)
  have m2 : IntKind.i64.wrap ((q : Int) * 2) = ((q * 2 : Nat) : Int) := aX (by omega) (by omega)
  have m3 : IntKind.i64.wrap ((q : Int) * 3) = ((q * 3 : Nat) : Int) := aX (by omega) (by omega)
  generalize hm2 : q * 2 = q2 at m2
  generalize hm3 : q * 3 = q3 at m3
  have s1 : IntKind.i64.wrap ((a : Int) + q) = ((a + q : Nat) : Int) := aX (by omega) (by omega)
  have s2 : IntKind.i64.wrap ((a : Int) + q2) = ((a + q2 : Nat) : Int) := aX (by omega) (by omega)
  have s3 : IntKind.i64.wrap ((a : Int) + q3) = ((a + q3 : Nat) : Int) := aX (by omega) (by omega)
  generalize ha1 : a + q = a1 at s1
  generalize ha2 : a + q2 = a2 at s2
  generalize ha3 : a + q3 = a3 at s3
  have h8 : (l : Int) ≥ 8 := by omega
  have hz : SH enc sz t H d ++ [aR.live 1 [.int .i64 0]] = SZ enc sz t H d 0 := rfl
  by_cases h50 : l ≥ 50
  · have h50' : (l : Int) ≥ 50 := by omega
    simp only [push_cast, ↓reduceIte, Nat.reduceEqDiff, reduceCtorEq, Nat.reduceAdd, Nat.reduceLT, Nat.reduceLeDiff, g0, q0, q4, m1, m2, m3, s1, s2, s3, h8, h50', gJ, hz]
    refine (oC hkj hkm hko E h d hm hs a1 a b hb (by omega) 0).mono fun r H' ⟨z1, x1, e1, e2, e3, e4⟩ => ?_
    subst e1; subst e2
    simp only [push_cast, ↓reduceIte, Nat.reduceEqDiff, reduceCtorEq, Nat.reduceAdd, Nat.reduceLT, Nat.reduceLeDiff]
    refine (oC hkj hkm hko E h d hm hs a2 a b hb (by omega) z1).mono fun r H' ⟨z2, x2, e5, e6, e7, e8⟩ => ?_
    subst e5; subst e6
    simp only [push_cast, ↓reduceIte, Nat.reduceEqDiff, reduceCtorEq, Nat.reduceAdd, Nat.reduceLT, Nat.reduceLeDiff]
    refine (oC hkj hkm hko E h d hm hs a3 a b hb (by omega) z2).mono fun r H' ⟨z3, x3, e9, e10, e11, e12⟩ => ?_
    subst e9; subst e10
    simp only [push_cast, ↓reduceIte, Nat.reduceEqDiff, reduceCtorEq, Nat.reduceAdd, Nat.reduceLT, Nat.reduceLeDiff]
    refine (oB hkm hko E h d hm x1 x2 x3 a b hb ⟨e3, e4⟩ ⟨e7, e8⟩ ⟨e11, e12⟩ z3).mono fun r H' ⟨z4, x4, e13, e14, e15, e16⟩ => ?_
    subst e13; subst e14
    simp only [push_cast, ↓reduceIte, Nat.reduceEqDiff, reduceCtorEq, Nat.reduceAdd, Nat.reduceLT, Nat.reduceLeDiff, tL]
    refine pS (fun _ => ⟨_, x4, _, rfl, rfl, e15, e16⟩) fun _ => pS (fun _ => ⟨_, x4, _, rfl, rfl, e15, e16⟩) fun _ => ⟨_, x4, _, rfl, rfl, e15, e16⟩
  · have h50' : ¬ (l : Int) ≥ 50 := by omega
    simp only [push_cast, ↓reduceIte, Nat.reduceEqDiff, reduceCtorEq, Nat.reduceAdd, Nat.reduceLT, Nat.reduceLeDiff, g0, q0, q4, m1, m2, m3, s1, s2, s3, h8, h50', gJ, hz]
    refine (oB hkm hko E h d hm a1 a2 a3 a b hb (by omega) (by omega) (by omega) 0).mono fun r H' ⟨z4, x4, e13, e14, e15, e16⟩ => ?_
    subst e13; subst e14
    simp only [push_cast, ↓reduceIte, Nat.reduceEqDiff, reduceCtorEq, Nat.reduceAdd, Nat.reduceLT, Nat.reduceLeDiff, tL]
    refine pS (fun _ => ⟨_, x4, _, rfl, rfl, e15, e16⟩) fun _ => pS (fun _ => ⟨_, x4, _, rfl, rfl, e15, e16⟩) fun _ => ⟨_, x4, _, rfl, rfl, e15, e16⟩
end
end Go.Eng
end
section
namespace Go.Eng
open Go Go.Sort
set_option linter.unusedSimpArgs false
set_option linter.unusedVariables false
set_option linter.unusedSectionVars false
set_option maxRecDepth 10000
def fP : ByteArray := ⟨#[0, 1, 2, 2, 3, 3, 3, 3, 4, 4, 4, 4, 4, 4, 4, 4, 5, 5, 5, 5, 5, 5, 5, 5, 5, 5, 5, 5, 5, 5, 5, 5, 6, 6, 6, 6, 6, 6, 6, 6, 6, 6, 6, 6, 6, 6, 6, 6, 6, 6, 6, 6, 6, 6, 6, 6, 6, 6, 6, 6, 6, 6, 6, 6, 7, 7, 7, 7, 7, 7, 7, 7, 7, 7, 7, 7, 7, 7, 7, 7, 7, 7, 7, 7, 7, 7, 7, 7, 7, 7, 7, 7, 7, 7, 7, 7, 7, 7, 7, 7, 7, 7, 7, 7, 7, 7, 7, 7, 7, 7, 7, 7, 7, 7, 7, 7, 7, 7, 7, 7, 7, 7, 7, 7, 7, 7, 7, 7, 8, 8, 8, 8, 8, 8, 8, 8, 8, 8, 8, 8, 8, 8, 8, 8, 8, 8, 8, 8, 8, 8, 8, 8, 8, 8, 8, 8, 8, 8, 8, 8, 8, 8, 8, 8, 8, 8, 8, 8, 8, 8, 8, 8, 8, 8, 8, 8, 8, 8, 8, 8, 8, 8, 8, 8, 8, 8, 8, 8, 8, 8, 8, 8, 8, 8, 8, 8, 8, 8, 8, 8, 8, 8, 8, 8, 8, 8, 8, 8, 8, 8, 8, 8, 8, 8, 8, 8, 8, 8, 8, 8, 8, 8, 8, 8, 8, 8, 8, 8, 8, 8, 8, 8, 8, 8, 8, 8, 8, 8, 8, 8, 8, 8, 8, 8, 8, 8, 8, 8, 8, 8, 8, 8, 8, 8, 8, 8]⟩
def lE (tab : ByteArray) : AFn := ⟨25, 1, [.t 2], (.seq (.ops [oo 2 (.mov (.v (.int .i64 0)))]) (.seq (.seq (.ops [oo 3 (.mov (.t 0)), oo 4 (.bin .geq (.t 3) (.v (.int .u64 4294967296)))]) (.cond (.t 4) (.seq (.ops [oo 5 (.mov (.t 0)), oo 6 (.bin .shr (.t 5) (.v (.int .u64 32))), oo 0 (.mov (.t 6))]) (.ops [oo 2 (.mov (.v (.int .i64 32)))])) .skip)) (.seq (.seq (.ops [oo 7 (.mov (.t 0)), oo 8 (.bin .geq (.t 7) (.v (.int .u64 65536)))]) (.cond (.t 8) (.seq (.ops [oo 9 (.mov (.t 0)), oo 10 (.bin .shr (.t 9) (.v (.int .u64 16))), oo 0 (.mov (.t 10))]) (.ops [oo 11 (.mov (.t 2)), oo 12 (.bin .add (.t 11) (.v (.int .i64 16))), oo 2 (.mov (.t 12))])) .skip)) (.seq (.seq (.ops [oo 13 (.mov (.t 0)), oo 14 (.bin .geq (.t 13) (.v (.int .u64 256)))]) (.cond (.t 14) (.seq (.ops [oo 15 (.mov (.t 0)), oo 16 (.bin .shr (.t 15) (.v (.int .u64 8))), oo 0 (.mov (.t 16))]) (.ops [oo 17 (.mov (.t 2)), oo 18 (.bin .add (.t 17) (.v (.int .i64 8))), oo 2 (.mov (.t 18))])) .skip)) (.seq (.ops [oo 19 (.mov (.t 2)), oo 20 (.mov (.t 0)), oo 21 (.conv .u8 (.t 20)), oo 22 (.sidx (.v (.str tab)) (.t 21)), oo 23 (.conv .i64 (.t 22)), oo 24 (.bin .add (.t 19) (.t 23)), oo 2 (.mov (.t 24))]) .ret)))))⟩
def OD (k4 k8 : Nat) : AFn := ⟨8, 1, [.t 2], (.seq (.ops [oo 2 (.mov (.v (.int .i64 0)))]) (.seq (.cond (.v (.bool false)) (.seq (.ops [oo 3 (.mov (.t 0)), oo 4 (.conv .u32 (.t 3)), oo 5 (.call k4 [(.t 4)]), oo 2 (.mov (.t 5))]) .ret) .skip) (.seq (.ops [oo 6 (.mov (.t 0)), oo 7 (.call k8 [(.t 6)]), oo 2 (.mov (.t 7))]) .ret)))⟩
theorem tM : fP.data.toList = (List.range 256).map fun i => UInt8.ofNat (bitsLen i) := by decide +kernel
theorem bS {x s : Nat} (h : 2 ^ s ≤ x) : bitsLen x = bitsLen (x / 2 ^ s) + s := by
  have hs : s < bitsLen x := by
    rcases Nat.lt_or_ge s (bitsLen x) with h1 | h1
    · exact h1
    · have := (bitsLen_le_iff x s).1 h1; omega
  apply Nat.le_antisymm
  · rw [bitsLen_le_iff, Nat.pow_add]
    have := lt_two_pow_bitsLen (x / 2 ^ s)
    exact (Nat.div_lt_iff_lt_mul (Nat.two_pow_pos s)).1 this
  · have : bitsLen (x / 2 ^ s) ≤ bitsLen x - s := by
      rw [bitsLen_le_iff, Nat.div_lt_iff_lt_mul (Nat.two_pow_pos s), ← Nat.pow_add, Nat.sub_add_cancel (by omega)]
      exact lt_two_pow_bitsLen x
    omega
theorem xD {n : Int} (h1 : 0 ≤ n) (h2 : n < 18446744073709551616) : IntKind.u64.wrap n = n := by
  unfold IntKind.wrap
  have hb : IntKind.u64.bits = 64 := rfl
  have hs : IntKind.u64.signed = false := rfl
  simp only [hb, hs, Bool.false_and, Bool.false_eq_true, if_false]
  have e1 : (2 : Int) ^ 64 = 18446744073709551616 := by decide
  rw [e1]; omega
theorem qO {n : Int} (h1 : 0 ≤ n) (h2 : n < 256) : IntKind.u8.wrap n = n := by
  unfold IntKind.wrap
  have hb : IntKind.u8.bits = 8 := rfl
  have hs : IntKind.u8.signed = false := rfl
  simp only [hb, hs, Bool.false_and, Bool.false_eq_true, if_false]
  have e1 : (2 : Int) ^ 8 = 256 := by decide
  rw [e1]; omega
theorem dL {i : Nat} (h : i < 256) : yG (.str fP) (.int .u8 (i : Int)) = some (.int .u8 (bitsLen i : Nat)) := by
  have hb : bitsLen i ≤ 8 := (bitsLen_le_iff i 8).2 (by simpa using h)
  have h1 : fP.data.toList[i]? = some (UInt8.ofNat (bitsLen i)) := by rw [tM]; simp [h]
  have h2 : fP[i]? = some (UInt8.ofNat (bitsLen i)) := by
    rw [Array.getElem?_toList] at h1
    obtain ⟨q1, q2⟩ := Array.getElem?_eq_some_iff.1 h1
    have : i < fP.size := q1
    rw [getElem?_pos fP i this]
    exact congrArg some q2
  simp only [yG, nat?]
  rw [if_pos (by omega)]
  simp only [Option.bind_some, Int.toNat_natCast, h2, Option.map_some]
  congr 3
  rw [UInt8.toNat_ofNat_of_lt' (show bitsLen i < 256 by omega)]
theorem xE {P : Program} {n : FuncId} (hc : aD P n = some (lE fP)) (x : Nat) (hx : x < 4398046511104) (H : AH) : aC P n [.int .u64 x] H fun r H' => r = .int .i64 (bitsLen x : Nat) ∧ H' = H := by
  refine aG hc (fun _ => rfl) (by simp [lE]) ?_
  unfold lE
  have sh : ∀ (y s : Nat), s ≤ 64 → cK .shr (.int .u64 (y : Int)) (.int .u64 (s : Int)) = some (.int .u64 ((y / 2 ^ s : Nat) : Int)) := fun y s hs => by
    rw [AD (by omega)]
    have : min ((s : Int)).toNat IntKind.u64.bits = s := by
      show min ((s : Int)).toNat 64 = s
      omega
    rw [this, Int.fdiv_eq_ediv_of_nonneg _ (Int.le_of_lt (by exact Int.pow_pos (by decide)))]
    congr 2
  have s32 : ∀ y : Nat, cK .shr (.int .u64 (y : Int)) (.int .u64 32) = some (.int .u64 ((y / 2 ^ 32 : Nat) : Int)) := fun y => sh y 32 (by omega)
  have s16 : ∀ y : Nat, cK .shr (.int .u64 (y : Int)) (.int .u64 16) = some (.int .u64 ((y / 2 ^ 16 : Nat) : Int)) := fun y => sh y 16 (by omega)
  have s8 : ∀ y : Nat, cK .shr (.int .u64 (y : Int)) (.int .u64 8) = some (.int .u64 ((y / 2 ^ 8 : Nat) : Int)) := fun y => sh y 8 (by omega)
  clear sh
  by_cases h0 : x ≥ 4294967296
  · have g0 : ((x : Nat) : Int) ≥ 4294967296 := by omega
    have r0 := s32 x
    have e0 := bS (x := x) (s := 32) (by omega)
    have f0 : x / 2 ^ 32 < 1024 := by omega
    generalize x / 2 ^ 32 = y0 at r0 e0 f0
    by_cases h1 : y0 ≥ 65536
    · have g1 : ((y0 : Nat) : Int) ≥ 65536 := by omega
      have r1 := s16 y0
      have w1 : IntKind.i64.wrap ((32 : Int) + 16) = 48 := by rw [aE (by omega) (by omega)]; rfl
      have e1 := bS (x := y0) (s := 16) (by omega)
      have f1 : y0 / 2 ^ 16 < 65536 := by omega
      generalize y0 / 2 ^ 16 = y1 at r1 e1 f1
      by_cases h2 : y1 ≥ 256
      · have g2 : ((y1 : Nat) : Int) ≥ 256 := by omega
        have r2 := s8 y1
        have w2 : IntKind.i64.wrap ((48 : Int) + 8) = 56 := by rw [aE (by omega) (by omega)]; rfl
        have e2 := bS (x := y1) (s := 8) (by omega)
        have f2 : y1 / 2 ^ 8 < 256 := by omega
        generalize y1 / 2 ^ 8 = y2 at r2 e2 f2
        have q1 : IntKind.u8.wrap ((y2 : Nat) : Int) = ((y2 : Nat) : Int) := qO (by omega) (by omega)
        have q2 := dL (i := y2) (by omega)
        have q5 : bitsLen y2 ≤ 8 := (bitsLen_le_iff _ 8).2 (by omega)
        have q3 : IntKind.i64.wrap ((bitsLen y2 : Nat) : Int) = ((bitsLen y2 : Nat) : Int) := aE (by omega) (by omega)
        have q4 : IntKind.i64.wrap ((56 : Int) + ((bitsLen y2 : Nat) : Int)) = 56 + ((bitsLen y2 : Nat) : Int) := aE (by omega) (by omega)
        simp only [push_cast, ↓reduceIte, Nat.reduceEqDiff, reduceCtorEq, Nat.reduceAdd, Nat.reduceLT, Nat.reduceLeDiff, g0, decide_true, r0, g1, decide_true, r1, w1, g2, decide_true, r2, w2, q1, q2, q3, q4, List.prefix_refl]
        omega
      · have g2 : ¬ ((y1 : Nat) : Int) ≥ 256 := by omega
        have q1 : IntKind.u8.wrap ((y1 : Nat) : Int) = ((y1 : Nat) : Int) := qO (by omega) (by omega)
        have q2 := dL (i := y1) (by omega)
        have q5 : bitsLen y1 ≤ 8 := (bitsLen_le_iff _ 8).2 (by omega)
        have q3 : IntKind.i64.wrap ((bitsLen y1 : Nat) : Int) = ((bitsLen y1 : Nat) : Int) := aE (by omega) (by omega)
        have q4 : IntKind.i64.wrap ((48 : Int) + ((bitsLen y1 : Nat) : Int)) = 48 + ((bitsLen y1 : Nat) : Int) := aE (by omega) (by omega)
        simp only [push_cast, ↓reduceIte, Nat.reduceEqDiff, reduceCtorEq, Nat.reduceAdd, Nat.reduceLT, Nat.reduceLeDiff, g0, decide_true, r0, g1, decide_true, r1, w1, g2, decide_false, q1, q2, q3, q4, List.prefix_refl]
        omega
    · have g1 : ¬ ((y0 : Nat) : Int) ≥ 65536 := by omega
      by_cases h2 : y0 ≥ 256
      · have g2 : ((y0 : Nat) : Int) ≥ 256 := by omega
        have r2 := s8 y0
        have w2 : IntKind.i64.wrap ((32 : Int) + 8) = 40 := by rw [aE (by omega) (by omega)]; rfl
        have e2 := bS (x := y0) (s := 8) (by omega)
        have f2 : y0 / 2 ^ 8 < 256 := by omega
        generalize y0 / 2 ^ 8 = y2 at r2 e2 f2
        have q1 : IntKind.u8.wrap ((y2 : Nat) : Int) = ((y2 : Nat) : Int) := qO (by omega) (by omega)
        have q2 := dL (i := y2) (by omega)
        have q5 : bitsLen y2 ≤ 8 := (bitsLen_le_iff _ 8).2 (by omega)
        have q3 : IntKind.i64.wrap ((bitsLen y2 : Nat) : Int) = ((bitsLen y2 : Nat) : Int) := aE (by omega) (by omega)
        have q4 : IntKind.i64.wrap ((40 : Int) + ((bitsLen y2 : Nat) : Int)) = 40 + ((bitsLen y2 : Nat) : Int) := aE (by omega) (by omega)
        simp only [push_cast, ↓reduceIte, Nat.reduceEqDiff, reduceCtorEq, Nat.reduceAdd, Nat.reduceLT, Nat.reduceLeDiff, g0, decide_true, r0, g1, decide_false, g2, decide_true, r2, w2, q1, q2, q3, q4, List.prefix_refl]
        omega
      · have g2 : ¬ ((y0 : Nat) : Int) ≥ 256 := by omega
        have q1 : IntKind.u8.wrap ((y0 : Nat) : Int) = ((y0 : Nat) : Int) := qO (by omega) (by omega)
        have q2 := dL (i := y0) (by omega)
        have q5 : bitsLen y0 ≤ 8 := (bitsLen_le_iff _ 8).2 (by omega)
        have q3 : IntKind.i64.wrap ((bitsLen y0 : Nat) : Int) = ((bitsLen y0 : Nat) : Int) := aE (by omega) (by omega)
        have q4 : IntKind.i64.wrap ((32 : Int) + ((bitsLen y0 : Nat) : Int)) = 32 + ((bitsLen y0 : Nat) : Int) := aE (by omega) (by omega)
        simp only [push_cast, ↓reduceIte, Nat.reduceEqDiff, reduceCtorEq, Nat.reduceAdd, Nat.reduceLT, Nat.reduceLeDiff, g0, decide_true, r0, g1, decide_false, g2, decide_false, q1, q2, q3, q4, List.prefix_refl]
        omega
  · have g0 : ¬ ((x : Nat) : Int) ≥ 4294967296 := by omega
    by_cases h1 : x ≥ 65536
    · have g1 : ((x : Nat) : Int) ≥ 65536 := by omega
      have r1 := s16 x
      have w1 : IntKind.i64.wrap ((0 : Int) + 16) = 16 := by rw [aE (by omega) (by omega)]; rfl
      have e1 := bS (x := x) (s := 16) (by omega)
      have f1 : x / 2 ^ 16 < 65536 := by omega
      generalize x / 2 ^ 16 = y1 at r1 e1 f1
      by_cases h2 : y1 ≥ 256
      · have g2 : ((y1 : Nat) : Int) ≥ 256 := by omega
        have r2 := s8 y1
        have w2 : IntKind.i64.wrap ((16 : Int) + 8) = 24 := by rw [aE (by omega) (by omega)]; rfl
        have e2 := bS (x := y1) (s := 8) (by omega)
        have f2 : y1 / 2 ^ 8 < 256 := by omega
        generalize y1 / 2 ^ 8 = y2 at r2 e2 f2
        have q1 : IntKind.u8.wrap ((y2 : Nat) : Int) = ((y2 : Nat) : Int) := qO (by omega) (by omega)
        have q2 := dL (i := y2) (by omega)
        have q5 : bitsLen y2 ≤ 8 := (bitsLen_le_iff _ 8).2 (by omega)
        have q3 : IntKind.i64.wrap ((bitsLen y2 : Nat) : Int) = ((bitsLen y2 : Nat) : Int) := aE (by omega) (by omega)
        have q4 : IntKind.i64.wrap ((24 : Int) + ((bitsLen y2 : Nat) : Int)) = 24 + ((bitsLen y2 : Nat) : Int) := aE (by omega) (by omega)
        simp only [push_cast, ↓reduceIte, Nat.reduceEqDiff, reduceCtorEq, Nat.reduceAdd, Nat.reduceLT, Nat.reduceLeDiff, g0, decide_false, g1, decide_true, r1, w1, g2, decide_true, r2, w2, q1, q2, q3, q4, List.prefix_refl]
        omega
      · have g2 : ¬ ((y1 : Nat) : Int) ≥ 256 := by omega
        have q1 : IntKind.u8.wrap ((y1 : Nat) : Int) = ((y1 : Nat) : Int) := qO (by omega) (by omega)
        have q2 := dL (i := y1) (by omega)
        have q5 : bitsLen y1 ≤ 8 := (bitsLen_le_iff _ 8).2 (by omega)
        have q3 : IntKind.i64.wrap ((bitsLen y1 : Nat) : Int) = ((bitsLen y1 : Nat) : Int) := aE (by omega) (by omega)
        have q4 : IntKind.i64.wrap ((16 : Int) + ((bitsLen y1 : Nat) : Int)) = 16 + ((bitsLen y1 : Nat) : Int) := aE (by omega) (by omega)
        simp only [push_cast, ↓reduceIte, Nat.reduceEqDiff, reduceCtorEq, Nat.reduceAdd, Nat.reduceLT, Nat.reduceLeDiff, g0, decide_false, g1, decide_true, r1, w1, g2, decide_false, q1, q2, q3, q4, List.prefix_refl]
        omega
    · have g1 : ¬ ((x : Nat) : Int) ≥ 65536 := by omega
      by_cases h2 : x ≥ 256
      · have g2 : ((x : Nat) : Int) ≥ 256 := by omega
        have r2 := s8 x
        have w2 : IntKind.i64.wrap ((0 : Int) + 8) = 8 := by rw [aE (by omega) (by omega)]; rfl
        have e2 := bS (x := x) (s := 8) (by omega)
        have f2 : x / 2 ^ 8 < 256 := by omega
        generalize x / 2 ^ 8 = y2 at r2 e2 f2
        have q1 : IntKind.u8.wrap ((y2 : Nat) : Int) = ((y2 : Nat) : Int) := qO (by omega) (by omega)
        have q2 := dL (i := y2) (by omega)
        have q5 : bitsLen y2 ≤ 8 := (bitsLen_le_iff _ 8).2 (by omega)
        have q3 : IntKind.i64.wrap ((bitsLen y2 : Nat) : Int) = ((bitsLen y2 : Nat) : Int) := aE (by omega) (by omega)
        have q4 : IntKind.i64.wrap ((8 : Int) + ((bitsLen y2 : Nat) : Int)) = 8 + ((bitsLen y2 : Nat) : Int) := aE (by omega) (by omega)
        simp only [push_cast, ↓reduceIte, Nat.reduceEqDiff, reduceCtorEq, Nat.reduceAdd, Nat.reduceLT, Nat.reduceLeDiff, g0, decide_false, g1, decide_false, g2, decide_true, r2, w2, q1, q2, q3, q4, List.prefix_refl]
        omega
      · have g2 : ¬ ((x : Nat) : Int) ≥ 256 := by omega
        have q1 : IntKind.u8.wrap ((x : Nat) : Int) = ((x : Nat) : Int) := qO (by omega) (by omega)
        have q2 := dL (i := x) (by omega)
        have q5 : bitsLen x ≤ 8 := (bitsLen_le_iff _ 8).2 (by omega)
        have q3 : IntKind.i64.wrap ((bitsLen x : Nat) : Int) = ((bitsLen x : Nat) : Int) := aE (by omega) (by omega)
        have q4 : IntKind.i64.wrap ((0 : Int) + ((bitsLen x : Nat) : Int)) = 0 + ((bitsLen x : Nat) : Int) := aE (by omega) (by omega)
        simp only [push_cast, ↓reduceIte, Nat.reduceEqDiff, reduceCtorEq, Nat.reduceAdd, Nat.reduceLT, Nat.reduceLeDiff, g0, decide_false, g1, decide_false, g2, decide_false, q1, q2, q3, q4, List.prefix_refl]
        omega
theorem oD {P : Program} {n k4 k8 : FuncId} (hc : aD P n = some (OD k4 k8)) (h8 : aD P k8 = some (lE fP)) (x : Nat) (hx : x < 4398046511104) (H : AH) : aC P n [.int .u64 x] H fun r H' => r = .int .i64 (bitsLen x : Nat) ∧ H' = H := by
  refine aG hc (fun _ => rfl) (by simp [OD]) ?_
  unfold OD
  simp only [push_cast, ↓reduceIte, Nat.reduceEqDiff, reduceCtorEq, Nat.reduceAdd, Nat.reduceLT, Nat.reduceLeDiff]
  refine aC.look (xE h8 x hx H) ?_
  simp only [push_cast, ↓reduceIte, Nat.reduceEqDiff, reduceCtorEq, Nat.reduceAdd, Nat.reduceLT, Nat.reduceLeDiff, List.prefix_refl]
def QV (kl : Nat) : AFn := ⟨7, 1, [.t 2], (.seq (.ops [oo 2 (.mov (.v (.int .u64 0)))]) (.seq (.ops [oo 3 (.mov (.t 0)), oo 4 (.conv .u64 (.t 3)), oo 5 (.call kl [(.t 4)]), oo 6 (.bin .shl (.v (.int .u64 1)) (.t 5)), oo 2 (.mov (.t 6))]) .ret))⟩
theorem GN {P : Program} {n kl k4 k8 : FuncId} (hc : aD P n = some (QV kl)) (hl : aD P kl = some (OD k4 k8)) (h8 : aD P k8 = some (lE fP)) (x : Nat) (h0 : 0 < x) (hx : x < 1099511627776) (H : AH) : aC P n [.int .i64 x] H fun r H' => (∃ M : Nat, r = .int .u64 M ∧ 0 < M ∧ M ≤ 2 * x) ∧ H' = H := by
  refine aC.mono (R := fun r H' => r = .int .u64 ((2 ^ bitsLen x : Nat) : Int) ∧ H' = H) ?_ fun r H' ⟨h1, h2⟩ => ⟨⟨_, h1, Nat.two_pow_pos _, two_pow_bitsLen_le h0⟩, h2⟩
  have hb := two_pow_bitsLen_le h0
  generalize hM : 2 ^ bitsLen x = M at hb ⊢
  have hl64 : bitsLen x ≤ 40 := (bitsLen_le_iff x 40).2 (by simpa using hx)
  have w1 : IntKind.u64.wrap (x : Int) = x := xD (by omega) (by omega)
  have w2 : cK .shl (.int .u64 1) (.int .i64 ((bitsLen x : Nat) : Int)) = some (.int .u64 (M : Int)) := by
    rw [JF (by omega)]
    have : min (((bitsLen x : Nat) : Int)).toNat IntKind.u64.bits = bitsLen x := by
      show min (((bitsLen x : Nat) : Int)).toNat 64 = bitsLen x
      omega
    rw [this, Int.one_mul]
    have e : ((2 : Int) ^ bitsLen x) = (M : Int) := by rw [← hM]; simp
    rw [e, xD (by omega) (by omega)]
  refine aG hc (fun _ => rfl) (by simp [QV]) ?_
  unfold QV
  simp only [push_cast, ↓reduceIte, Nat.reduceEqDiff, reduceCtorEq, Nat.reduceAdd, Nat.reduceLT, Nat.reduceLeDiff, w1]
  refine aC.look (oD hl h8 x (by omega) H) ?_
  simp only [push_cast, ↓reduceIte, Nat.reduceEqDiff, reduceCtorEq, Nat.reduceAdd, Nat.reduceLT, Nat.reduceLeDiff, List.prefix_refl, w2]
def QW : AFn := ⟨33, 1, [.t 2], (.seq (.ops [oo 2 (.mov (.v (.int .u64 0)))]) (.seq (.ops [oo 33 (.mov (.t 0)), oo 34 (.nilc (.t 33)), oo 35 (.load false 1 (.t 34)), oo 36 (.mov (.t 0)), oo 37 (.nilc (.t 36)), oo 38 (.load false 1 (.t 37)), oo 39 (.bin .shl (.t 38) (.v (.int .u64 13))), oo 40 (.bin .xor (.t 35) (.t 39)), oo 41 (.nilc (.t 33)), oo 42 (.store 1 (.t 41) (.t 40)), oo 3 (.mov (.t 33)), oo 4 (.mov (.t 34)), oo 5 (.mov (.t 35)), oo 6 (.mov (.t 36)), oo 7 (.mov (.t 37)), oo 8 (.mov (.t 38)), oo 9 (.mov (.t 39)), oo 10 (.mov (.t 40)), oo 11 (.mov (.t 41))]) (.seq (.ops [oo 33 (.mov (.t 0)), oo 34 (.nilc (.t 33)), oo 35 (.load false 1 (.t 34)), oo 36 (.mov (.t 0)), oo 37 (.nilc (.t 36)), oo 38 (.load false 1 (.t 37)), oo 39 (.bin .shr (.t 38) (.v (.int .u64 7))), oo 40 (.bin .xor (.t 35) (.t 39)), oo 41 (.nilc (.t 33)), oo 42 (.store 1 (.t 41) (.t 40)), oo 12 (.mov (.t 33)), oo 13 (.mov (.t 34)), oo 14 (.mov (.t 35)), oo 15 (.mov (.t 36)), oo 16 (.mov (.t 37)), oo 17 (.mov (.t 38)), oo 18 (.mov (.t 39)), oo 19 (.mov (.t 40)), oo 20 (.mov (.t 41))]) (.seq (.ops [oo 33 (.mov (.t 0)), oo 34 (.nilc (.t 33)), oo 35 (.load false 1 (.t 34)), oo 36 (.mov (.t 0)), oo 37 (.nilc (.t 36)), oo 38 (.load false 1 (.t 37)), oo 39 (.bin .shl (.t 38) (.v (.int .u64 17))), oo 40 (.bin .xor (.t 35) (.t 39)), oo 41 (.nilc (.t 33)), oo 42 (.store 1 (.t 41) (.t 40)), oo 21 (.mov (.t 33)), oo 22 (.mov (.t 34)), oo 23 (.mov (.t 35)), oo 24 (.mov (.t 36)), oo 25 (.mov (.t 37)), oo 26 (.mov (.t 38)), oo 27 (.mov (.t 39)), oo 28 (.mov (.t 40)), oo 29 (.mov (.t 41))]) (.seq (.ops [oo 30 (.mov (.t 0)), oo 31 (.nilc (.t 30)), oo 32 (.load false 1 (.t 31)), oo 2 (.mov (.t 32))]) .ret)))))⟩
section
variable {β : Type} [Inhabited β] {enc : β → AV} {sz t : Nat} {H : AH} {P : Program} {c : β → β → Int} {ag : Bool} {k : FuncId} {as0 bs : List AV}
def SU (enc : β → AV) (sz t : Nat) (H : AH) (d : Array β) (z : Int) : AH := SH enc sz t H d ++ [.live 1 [.int .u64 z]]
theorem LN {d : Array β} {z : Int} : cG false 1 (.ptr H.length 0 0) (SU enc sz t H d z) = some (.int .u64 z) := by
  simp only [cG, SU]
  have : obj? (SH enc sz t H d ++ [aR.live 1 [.int .u64 z]]) H.length = some (1, [.int .u64 z]) := by
    rw [← gJ (enc := enc) (sz := sz) (t := t) (H := H) (d := d)]; exact bA _ _ _
  rw [this]; rfl
theorem uZ {d : Array β} {z y : Int} : dS 1 (.ptr H.length 0 0) (.int .u64 y) (SU enc sz t H d z) = some (SU enc sz t H d y) := by
  simp only [dS, SU]
  have : obj? (SH enc sz t H d ++ [aR.live 1 [.int .u64 z]]) H.length = some (1, [.int .u64 z]) := by
    rw [← gJ (enc := enc) (sz := sz) (t := t) (H := H) (d := d)]; exact bA _ _ _
  rw [this]
  have e : List.set (SH enc sz t H d ++ [aR.live 1 [.int .u64 z]]) H.length (.live 1 [.int .u64 y]) = SH enc sz t H d ++ [.live 1 [.int .u64 y]] := sQ gJ.symm
  simp [cells, fI, dH, kK, e]
theorem mE (h : t < H.length) {d : Array β} {z : Int} : SU enc sz t H d z = SH enc sz t (H ++ [.live 1 [.int .u64 z]]) d := by
  unfold SU SH; rw [List.set_append_left _ _ h]
theorem GO {n : FuncId} (hc : aD P n = some QW) (d : Array β) (z : Int) :
    aC P n [.ptr H.length 0 0] (SU enc sz t H d z) fun r H' => ∃ z' : Int, r = .int .u64 z' ∧ H' = SU enc sz t H d z' := by
  refine aU hc (by simp [QW]) ?_
  unfold QW
  have n1 : ¬ (13 : Int) < 0 := by omega
  have n2 : ¬ (7 : Int) < 0 := by omega
  have n3 : ¬ (17 : Int) < 0 := by omega
  simp only [push_cast, ↓reduceIte, Nat.reduceEqDiff, reduceCtorEq, Nat.reduceAdd, Nat.reduceLT, Nat.reduceLeDiff, LN, uZ, n1, n2, n3]
  exact ⟨_, rfl, rfl⟩
end
end Go.Eng
end
section
namespace Go.Eng
open Go Go.Sort
set_option linter.unusedSimpArgs false
set_option linter.unusedVariables false
set_option linter.unusedSectionVars false
set_option maxRecDepth 10000
theorem QX {z : Int} {M : Nat} (h0 : 0 < M) (hM : M < 4398046511104) : ∃ o : Nat, EV (fun _ x y => x &&& y) .u64 z ((M : Int) - 1) = o ∧ o < M := by
  unfold EV
  have hb : IntKind.u64.bits = 64 := rfl
  have h1 : (BitVec.ofInt 64 ((M : Int) - 1)).toNat = M - 1 := by
    rw [BitVec.toNat_ofInt]
    have : ((M : Int) - 1) % ((2 ^ 64 : Nat) : Int) = ((M - 1 : Nat) : Int) := by
      have : ((2 ^ 64 : Nat) : Int) = 18446744073709551616 := by decide
      rw [this]; omega
    rw [this]; simp
  have h2 : (BitVec.ofInt 64 z &&& BitVec.ofInt 64 ((M : Int) - 1)).toNat ≤ M - 1 := by
    rw [BitVec.toNat_and, h1]; exact Nat.and_le_right
  refine ⟨(BitVec.ofInt 64 z &&& BitVec.ofInt 64 ((M : Int) - 1)).toNat, ?_, by omega⟩
  show IntKind.u64.wrap (((BitVec.ofInt 64 z &&& BitVec.ofInt 64 ((M : Int) - 1)).toNat : Nat) : Int) = _
  exact xD (by omega) (by omega)
def BG (sz : Nat) (ag : Bool) (kp : Nat) (kx : Nat) : AC := (.block 0 (.loop (.seq (.seq (.ops [oo 28 (.mov (.t 11)), oo 29 (.mov (.t 1)), oo 30 (.mov (.t 8)), oo 31 (.bin .quo (.t 30) (.v (.int .i64 4))), oo 32 (.bin .mul (.t 31) (.v (.int .i64 2))), oo 33 (.bin .add (.t 29) (.t 32)), oo 34 (.bin .add (.t 33) (.v (.int .i64 1))), oo 35 (.bin .leq (.t 28) (.t 34))]) (.cond (.t 35) .skip (.exit 0))) (.seq (.block 1 (.seq (.ops [oo 38 (.call kx [(.t 9)]), oo 39 (.mov (.t 10)), oo 40 (.bin .sub (.t 39) (.v (.int .u64 1))), oo 41 (.bin .and (.t 38) (.t 40)), oo 42 (.conv .i64 (.t 41)), oo 12 (.mov (.t 42))]) (.seq (.seq (.ops [oo 43 (.mov (.t 12)), oo 44 (.mov (.t 8)), oo 45 (.bin .geq (.t 43) (.t 44))]) (.cond (.t 45) (.ops [oo 46 (.mov (.t 12)), oo 47 (.mov (.t 8)), oo 48 (.bin .sub (.t 46) (.t 47)), oo 12 (.mov (.t 48))]) .skip)) (.ops [oo 67 (.mov (.t 0)), oo 68 (.mov (.t 11)), oo 69 (.mov (.t 0)), oo 70 (.mov (.t 1)), oo 71 (.mov (.t 12)), oo 72 (.bin .add (.t 70) (.t 71)), oo 73 (.mov (.t 0)), oo 74 (.mov (.t 1)), oo 75 (.mov (.t 12)), oo 76 (.bin .add (.t 74) (.t 75)), oo 77 (.iaddr sz (.t 73) (.t 76)), oo 78 (.load ag sz (.t 77)), oo 79 (.mov (.t 0)), oo 80 (.mov (.t 11)), oo 81 (.iaddr sz (.t 79) (.t 80)), oo 82 (.load ag sz (.t 81)), oo 83 (.iaddr sz (.t 67) (.t 68)), oo 84 (.store sz (.t 83) (.t 78)), oo 85 (.iaddr sz (.t 69) (.t 72)), oo 86 (.store sz (.t 85) (.t 82)), oo 49 (.mov (.t 67)), oo 50 (.mov (.t 68)), oo 51 (.mov (.t 69)), oo 52 (.mov (.t 70)), oo 53 (.mov (.t 71)), oo 54 (.mov (.t 72)), oo 55 (.mov (.t 73)), oo 56 (.mov (.t 74)), oo 57 (.mov (.t 75)), oo 58 (.mov (.t 76)), oo 59 (.mov (.t 77)), oo 60 (.mov (.t 78)), oo 61 (.mov (.t 79)), oo 62 (.mov (.t 80)), oo 63 (.mov (.t 81)), oo 64 (.mov (.t 82)), oo 65 (.mov (.t 83)), oo 66 (.mov (.t 85))])))) (.ops [oo 36 (.mov (.t 11)), oo 37 (.bin .add (.t 36) (.v (.int .i64 1))), oo 11 (.mov (.t 37))])))))
def SW (sz : Nat) (ag : Bool) (kp : Nat) (kx : Nat) : AFn := ⟨67, 4, [], (.seq (.ops [oo 13 (.mov (.t 2)), oo 14 (.mov (.t 1)), oo 15 (.bin .sub (.t 13) (.t 14)), oo 8 (.mov (.t 15))]) (.seq (.ops [oo 16 (.mov (.t 8)), oo 17 (.bin .geq (.t 16) (.v (.int .i64 8)))]) (.cond (.t 17) (.seq (.ops [oo 18 (.mov (.t 8)), oo 19 (.conv .u64 (.t 18)), oo 9 (.alloc 1 (.int .u64 0)), on (.store 1 (.t 9) (.t 19))]) (.seq (.ops [oo 20 (.mov (.t 8)), oo 21 (.call kp [(.t 20)]), oo 10 (.mov (.t 21))]) (.seq (.ops [oo 22 (.mov (.t 1)), oo 23 (.mov (.t 8)), oo 24 (.bin .quo (.t 23) (.v (.int .i64 4))), oo 25 (.bin .mul (.t 24) (.v (.int .i64 2))), oo 26 (.bin .add (.t 22) (.t 25)), oo 27 (.bin .sub (.t 26) (.v (.int .i64 1))), oo 11 (.mov (.t 27))]) (BG sz ag kp kx)))) .skip)))⟩
section
variable {β : Type} [Inhabited β] {enc : β → AV} {sz t : Nat} {H : AH} {P : Program} {c : β → β → Int} {ag : Bool} {k : FuncId} {as0 bs : List AV}
theorem GP {n kp kx kl k4 k8 : FuncId} (hc : aD P n = some (SW sz ag kp kx)) (hp : aD P kp = some (QV kl)) (hkl : aD P kl = some (OD k4 k8)) (h8 : aD P k8 = some (lE fP)) (hx : aD P kx = some QW) (E : cY P enc c sz ag k as0 bs) (h : t < H.length) (d : Array β) {m cp : Nat} {ex : Bool} (hm : m = d.size) (hs : m < 1099511627776) (a b : Nat) (hab : a + 12 < b) (hb : b ≤ m) (v : AV) :
    aC P n [.ref sz t 0 m cp ex, .int .i64 a, .int .i64 b, v] (SH enc sz t H d) fun r H' => ∃ (J : AH) (d' : Array β), H' = SH enc sz t (H ++ J) d' ∧ PermIn a b d d' := by
  refine aU hc (by simp [SW]) ?_
  unfold SW BG
  have g0 : IntKind.i64.wrap ((b : Int) - a) = ((b - a : Nat) : Int) := aX (by omega) (by omega)
  generalize hl : b - a = l at g0
  have g1 : (l : Int) ≥ 8 := by omega
  have g2 : IntKind.u64.wrap (l : Int) = l := xD (by omega) (by omega)
  have q4 : ¬ (4 : Int) = 0 := by omega
  have q0 : IntKind.i64.wrap ((l : Int).tdiv 4) = ((l / 4 : Nat) : Int) := by rw [Int.tdiv_eq_ediv_of_nonneg (by omega)]; exact aX (by omega) (by omega)
  generalize hq : l / 4 = q at q0
  have q1 : IntKind.i64.wrap ((q : Int) * 2) = ((q * 2 : Nat) : Int) := aX (by omega) (by omega)
  generalize hq2 : q * 2 = q2 at q1
  have q3 : IntKind.i64.wrap ((a : Int) + q2) = ((a + q2 : Nat) : Int) := aX (by omega) (by omega)
  generalize hq3 : a + q2 = e at q3
  have q5 : IntKind.i64.wrap ((e : Int) - 1) = ((e - 1 : Nat) : Int) := aX (by omega) (by omega)
  have q6 : IntKind.i64.wrap ((e : Int) + 1) = (e : Int) + 1 := aE (by omega) (by omega)
  generalize hi0 : e - 1 = i0 at q5
  have hz : SH enc sz t H d ++ [aR.live 1 [.int .u64 0]] = SU enc sz t H d 0 := rfl
  simp only [push_cast, ↓reduceIte, Nat.reduceEqDiff, reduceCtorEq, Nat.reduceAdd, Nat.reduceLT, Nat.reduceLeDiff, g0, g1, g2, gJ, hz, uZ]
  refine (GN hp hkl h8 l (by omega) (by omega) _).mono fun r H' ⟨⟨M, e1, hM0, hM⟩, e2⟩ => ?_
  subst e1; subst e2
  simp only [push_cast, ↓reduceIte, Nat.reduceEqDiff, reduceCtorEq, Nat.reduceAdd, Nat.reduceLT, Nat.reduceLeDiff, q4, q0, q1, q3, q5]
  refine aI (fun (s : Nat × Array β × Int) f H' => H' = SU enc sz t H s.2.1 s.2.2 ∧ s.2.1.size = m ∧ PermIn a b d s.2.1 ∧ i0 ≤ s.1 ∧ s.1 ≤ e + 2 ∧ f 0 = .ref sz t 0 m cp ex ∧ f 1 = .int .i64 a ∧ f 8 = .int .i64 l ∧ f 9 = .ptr H.length 0 0 ∧ f 10 = .int .u64 M ∧ f 11 = .int .i64 s.1) (fun s => e + 2 - s.1) (i0, d, l) ?_ ?_
  · refine ⟨rfl, hm.symm, permIn_refl _ _ _, Nat.le_refl _, by dsimp only; omega, ?_⟩
    simp only [push_cast, ↓reduceIte, Nat.reduceEqDiff, reduceCtorEq, Nat.reduceAdd, Nat.reduceLT, Nat.reduceLeDiff, q4, q0, q1, q3, q5, g0, gJ]
  rintro ⟨i, d1, z⟩ f H' ⟨rfl, s1, s2, s3, s4, e0, e1, e8, e9, e10, e11⟩
  dsimp only at s1 s2 s3 s4 e11 ⊢
  by_cases hi : i ≤ e + 1
  case neg =>
    have hi' : ¬ (i : Int) ≤ (e : Int) + 1 := by omega
    simp only [push_cast, ↓reduceIte, Nat.reduceEqDiff, reduceCtorEq, Nat.reduceAdd, Nat.reduceLT, Nat.reduceLeDiff, e0, e1, e8, e9, e10, e11, q4, q0, q1, q3, q6, hi', decide_false]
    exact ⟨_, d1, mE h, s2⟩
  have hi' : (i : Int) ≤ (e : Int) + 1 := by omega
  simp only [push_cast, ↓reduceIte, Nat.reduceEqDiff, reduceCtorEq, Nat.reduceAdd, Nat.reduceLT, Nat.reduceLeDiff, e0, e1, e8, e9, e10, e11, q4, q0, q1, q3, q6, hi', decide_true]
  refine (GO hx d1 z).mono fun r H' ⟨z', h1, h2⟩ => ?_
  subst h1; subst h2
  obtain ⟨o, ho, hoM⟩ := QX (z := z') hM0 (by omega)
  have w1 : IntKind.u64.wrap ((M : Int) - 1) = (M : Int) - 1 := xD (by omega) (by omega)
  have w2 : IntKind.i64.wrap (o : Int) = o := aE (by omega) (by omega)
  have w3 : IntKind.i64.wrap ((i : Int) + 1) = (i : Int) + 1 := aE (by omega) (by omega)
  have hil : i < m := by omega
  have fin : ∀ o2 : Nat, o2 < l → (a + o2 < m) ∧ PermIn a b d (swp d1 i (a + o2)) := fun o2 h2 => ⟨by omega, permIn_trans _ _ _ _ _ s2 (swp_permIn _ _ _ _ _ (by omega) (by omega) (by omega) (by omega) (by omega))⟩
  have i1 : aF sz (.ref sz t 0 m cp ex) (.int .i64 (i : Int)) = some (.ptr t i 0) := aP rfl (by omega)
  have ht : t < (H ++ [aR.live 1 [.int .u64 z']]).length := by simp; omega
  have l1 := E.load (H := H ++ [aR.live 1 [.int .u64 z']]) (d := d1) ht (show i < d1.size by omega)
  rw [← mE h] at l1
  by_cases hol : o ≥ l
  · have hol' : (o : Int) ≥ l := by omega
    have w4 : IntKind.i64.wrap ((o : Int) - l) = ((o - l : Nat) : Int) := aX (by omega) (by omega)
    obtain ⟨f1, f2⟩ := fin (o - l) (by omega)
    generalize o - l = o2 at w4 f1 f2
    have w5 : IntKind.i64.wrap ((a : Int) + o2) = (a : Int) + o2 := aE (by omega) (by omega)
    have i2 : aF sz (.ref sz t 0 m cp ex) (.int .i64 ((a : Int) + o2)) = some (.ptr t (a + o2) 0) := aP (by omega) (by omega)
    have l2 := E.load (H := H ++ [aR.live 1 [.int .u64 z']]) (d := d1) ht (show a + o2 < d1.size by omega)
    have st := E.swap (H := H ++ [aR.live 1 [.int .u64 z']]) (d := d1) ht (show i < d1.size by omega) (show a + o2 < d1.size by omega)
    rw [← mE h, ← mE h, ← mE h] at st
    rw [← mE h] at l2
    simp only [push_cast, ↓reduceIte, Nat.reduceEqDiff, reduceCtorEq, Nat.reduceAdd, Nat.reduceLT, Nat.reduceLeDiff, e0, e1, e8, e9, e10, e11, w1, ho, w2, hol', decide_true, w4, w5, i1, i2, l1, l2, st.1, st.2, w3]
    exact ⟨(i + 1, swp d1 i (a + o2), z'), ⟨rfl, by rw [swp_size']; exact s1, f2, by show i0 ≤ i + 1; omega, by show i + 1 ≤ e + 2; omega, by show (i : Int) + 1 = ((i + 1 : Nat) : Int); omega⟩, by show e + 2 - (i + 1) < e + 2 - i; omega⟩
  · have hol' : ¬ (o : Int) ≥ l := by omega
    obtain ⟨f1, f2⟩ := fin o (by omega)
    have w5 : IntKind.i64.wrap ((a : Int) + o) = (a : Int) + o := aE (by omega) (by omega)
    have i2 : aF sz (.ref sz t 0 m cp ex) (.int .i64 ((a : Int) + o)) = some (.ptr t (a + o) 0) := aP (by omega) (by omega)
    have l2 := E.load (H := H ++ [aR.live 1 [.int .u64 z']]) (d := d1) ht (show a + o < d1.size by omega)
    have st := E.swap (H := H ++ [aR.live 1 [.int .u64 z']]) (d := d1) ht (show i < d1.size by omega) (show a + o < d1.size by omega)
    rw [← mE h, ← mE h, ← mE h] at st
    rw [← mE h] at l2
    simp only [push_cast, ↓reduceIte, Nat.reduceEqDiff, reduceCtorEq, Nat.reduceAdd, Nat.reduceLT, Nat.reduceLeDiff, e0, e1, e8, e9, e10, e11, w1, ho, w2, hol', decide_false, w5, i1, i2, l1, l2, st.1, st.2, w3]
    exact ⟨(i + 1, swp d1 i (a + o), z'), ⟨rfl, by rw [swp_size']; exact s1, f2, by show i0 ≤ i + 1; omega, by show i + 1 ≤ e + 2; omega, by show (i : Int) + 1 = ((i + 1 : Nat) : Int); omega⟩, by show e + 2 - (i + 1) < e + 2 - i; omega⟩
end
end Go.Eng
end
section
namespace Go.Eng
open Go Go.Sort
set_option linter.unusedSimpArgs false
set_option linter.unusedVariables false
set_option linter.unusedSectionVars false
set_option maxRecDepth 10000
def oE (sz : Nat) (ag : Bool) (ki : Nat) (kh : Nat) (kb : Nat) (kc : Nat) (kr : Nat) (kp : Nat) (ke : Nat) (kq : Nat) (kz : Nat) : AC := (.cond (.t 39) (.seq (.ops [oo 40 (.mov (.t 0)), oo 41 (.mov (.t 1)), oo 42 (.mov (.t 2)), oo 43 (.mov (.t 4)), oo 44 (.call kb [(.t 40), (.t 41), (.t 42), (.t 43)])]) (.ops [oo 45 (.mov (.t 3)), oo 46 (.bin .sub (.t 45) (.v (.int .i64 1))), oo 3 (.mov (.t 46))])) .skip)
def oF (sz : Nat) (ag : Bool) (ki : Nat) (kh : Nat) (kb : Nat) (kc : Nat) (kr : Nat) (kp : Nat) (ke : Nat) (kq : Nat) (kz : Nat) : AC := (.cond (.t 56) (.seq (.ops [oo 57 (.mov (.t 0)), oo 58 (.mov (.t 1)), oo 59 (.mov (.t 2)), oo 60 (.mov (.t 4)), oo 61 (.call kr [(.t 57), (.t 58), (.t 59), (.t 60)])]) (.seq (.ops [oo 62 (.mov (.t 2)), oo 63 (.bin .sub (.t 62) (.v (.int .i64 1))), oo 64 (.mov (.t 13)), oo 65 (.mov (.t 1)), oo 66 (.bin .sub (.t 64) (.t 65)), oo 67 (.bin .sub (.t 63) (.t 66)), oo 13 (.mov (.t 67))]) (.ops [oo 14 (.mov (.v (.int .i64 1)))]))) .skip)
def oI (sz : Nat) (ag : Bool) (ki : Nat) (kh : Nat) (kb : Nat) (kc : Nat) (kr : Nat) (kp : Nat) (ke : Nat) (kq : Nat) (kz : Nat) : AC := (.cond (.t 75) (.seq (.ops [oo 76 (.mov (.t 0)), oo 77 (.mov (.t 1)), oo 78 (.mov (.t 2)), oo 79 (.mov (.t 4)), oo 80 (.call kp [(.t 76), (.t 77), (.t 78), (.t 79)])]) (.cond (.t 80) .ret .skip)) .skip)
def oJ (sz : Nat) (ag : Bool) (ki : Nat) (kh : Nat) (kb : Nat) (kc : Nat) (kr : Nat) (kp : Nat) (ke : Nat) (kq : Nat) (kz : Nat) : AC := (.ops [oo 68 (.mov (.t 10)), oo 69 (.mov (.t 68)), og 70 69 true (.mov (.t 11)), oo 71 (.pick (.t 69) (.t 70) (.v (.bool false))), oo 72 (.mov (.t 71)), og 73 72 true (.mov (.t 14)), og 74 72 true (.bin .eql (.t 73) (.v (.int .i64 1))), oo 75 (.pick (.t 72) (.t 74) (.v (.bool false)))])
def lF (sz : Nat) (ag : Bool) (ki : Nat) (kh : Nat) (kb : Nat) (kc : Nat) (kr : Nat) (kp : Nat) (ke : Nat) (kq : Nat) (kz : Nat) : AC := (.ops [oo 148 (.mov (.t 1)), oo 149 (.bin .gtr (.t 148) (.v (.int .i64 0))), oo 150 (.mov (.t 149)), og 151 150 true (.mov (.t 4)), og 152 150 true (.mov (.t 0)), og 153 150 true (.mov (.t 1)), og 154 150 true (.bin .sub (.t 153) (.v (.int .i64 1))), og 155 150 true (.iaddr sz (.t 152) (.t 154)), og 156 150 true (.load ag sz (.t 155)), og 157 150 true (.mov (.t 0)), og 158 150 true (.mov (.t 13)), og 159 150 true (.iaddr sz (.t 157) (.t 158)), og 160 150 true (.load ag sz (.t 159)), og 161 150 true (.callv (.t 151) [(.t 156), (.t 160)]), og 162 150 true (.bin .lss (.t 161) (.v (.int .i64 0))), og 163 150 true (.un .not (.t 162)), oo 164 (.pick (.t 150) (.t 163) (.v (.bool false))), oo 81 (.mov (.t 148)), oo 82 (.mov (.t 149)), oo 83 (.mov (.t 150)), oo 84 (.mov (.t 151)), oo 85 (.mov (.t 152)), oo 86 (.mov (.t 153)), oo 87 (.mov (.t 154)), oo 88 (.mov (.t 155)), oo 89 (.mov (.t 156)), oo 90 (.mov (.t 157)), oo 91 (.mov (.t 158)), oo 92 (.mov (.t 159)), oo 93 (.mov (.t 160)), oo 94 (.mov (.t 161)), oo 95 (.mov (.t 162)), oo 96 (.mov (.t 163)), oo 97 (.mov (.t 164))])
def tO (sz : Nat) (ag : Bool) (ki : Nat) (kh : Nat) (kb : Nat) (kc : Nat) (kr : Nat) (kp : Nat) (ke : Nat) (kq : Nat) (kz : Nat) : AC := (.block 0 (.loop (.block 1 (.seq (.ops [oo 21 (.mov (.t 2)), oo 22 (.mov (.t 1)), oo 23 (.bin .sub (.t 21) (.t 22)), oo 12 (.mov (.t 23))]) (.seq (.seq (.ops [oo 24 (.mov (.t 12)), oo 25 (.bin .leq (.t 24) (.v (.int .i64 12)))]) (.cond (.t 25) (.seq (.ops [oo 26 (.mov (.t 0)), oo 27 (.mov (.t 1)), oo 28 (.mov (.t 2)), oo 29 (.mov (.t 4)), oo 30 (.call ki [(.t 26), (.t 27), (.t 28), (.t 29)])]) .ret) .skip)) (.seq (.seq (.ops [oo 31 (.mov (.t 3)), oo 32 (.bin .eql (.t 31) (.v (.int .i64 0)))]) (.cond (.t 32) (.seq (.ops [oo 33 (.mov (.t 0)), oo 34 (.mov (.t 1)), oo 35 (.mov (.t 2)), oo 36 (.mov (.t 4)), oo 37 (.call kh [(.t 33), (.t 34), (.t 35), (.t 36)])]) .ret) .skip)) (.seq (.seq (.ops [oo 38 (.mov (.t 10)), oo 39 (.un .not (.t 38))]) (oE sz ag ki kh kb kc kr kp ke kq kz)) (.seq (.ops [oo 48 (.mov (.t 0)), oo 49 (.mov (.t 1)), oo 50 (.mov (.t 2)), oo 51 (.mov (.t 4)), oo 52 (.call kc [(.t 48), (.t 49), (.t 50), (.t 51)]), oo 47 (.mov (.t 52)), oo 53 (.ext (.t 47) 0), oo 54 (.ext (.t 47) 1), oo 13 (.mov (.t 53)), oo 14 (.mov (.t 54))]) (.seq (.seq (.ops [oo 55 (.mov (.t 14)), oo 56 (.bin .eql (.t 55) (.v (.int .i64 2)))]) (oF sz ag ki kh kb kc kr kp ke kq kz)) (.seq (.seq (oJ sz ag ki kh kb kc kr kp ke kq kz) (oI sz ag ki kh kb kc kr kp ke kq kz)) (.seq (.seq (lF sz ag ki kh kb kc kr kp ke kq kz) (.cond (.t 97) (.seq (.ops [oo 98 (.mov (.t 0)), oo 99 (.mov (.t 1)), oo 100 (.mov (.t 2)), oo 101 (.mov (.t 13)), oo 102 (.mov (.t 4)), oo 103 (.call ke [(.t 98), (.t 99), (.t 100), (.t 101), (.t 102)]), oo 15 (.mov (.t 103))]) (.seq (.ops [oo 104 (.mov (.t 15)), oo 1 (.mov (.t 104))]) (.exit 1))) .skip)) (.seq (.ops [oo 106 (.mov (.t 0)), oo 107 (.mov (.t 1)), oo 108 (.mov (.t 2)), oo 109 (.mov (.t 13)), oo 110 (.mov (.t 4)), oo 111 (.call kq [(.t 106), (.t 107), (.t 108), (.t 109), (.t 110)]), oo 105 (.mov (.t 111)), oo 112 (.ext (.t 105) 0), oo 113 (.ext (.t 105) 1), oo 16 (.mov (.t 112)), oo 17 (.mov (.t 113))]) (.seq (.ops [oo 114 (.mov (.t 17)), oo 11 (.mov (.t 114))]) (.seq (.ops [oo 115 (.mov (.t 16)), oo 116 (.mov (.t 1)), oo 117 (.bin .sub (.t 115) (.t 116)), oo 118 (.mov (.t 2)), oo 119 (.mov (.t 16)), oo 120 (.bin .sub (.t 118) (.t 119)), oo 18 (.mov (.t 117)), oo 19 (.mov (.t 120))]) (.seq (.ops [oo 121 (.mov (.t 12)), oo 122 (.bin .quo (.t 121) (.v (.int .i64 8))), oo 20 (.mov (.t 122))]) (.seq (.ops [oo 123 (.mov (.t 18)), oo 124 (.mov (.t 19)), oo 125 (.bin .lss (.t 123) (.t 124))]) (.cond (.t 125) (.seq (.ops [oo 126 (.mov (.t 18)), oo 127 (.mov (.t 20)), oo 128 (.bin .geq (.t 126) (.t 127)), oo 10 (.mov (.t 128))]) (.seq (.ops [oo 129 (.mov (.t 0)), oo 130 (.mov (.t 1)), oo 131 (.mov (.t 16)), oo 132 (.mov (.t 3)), oo 133 (.mov (.t 4)), oo 134 (.call kz [(.t 129), (.t 130), (.t 131), (.t 132), (.t 133)])]) (.ops [oo 135 (.mov (.t 16)), oo 136 (.bin .add (.t 135) (.v (.int .i64 1))), oo 1 (.mov (.t 136))]))) (.seq (.ops [oo 137 (.mov (.t 19)), oo 138 (.mov (.t 20)), oo 139 (.bin .geq (.t 137) (.t 138)), oo 10 (.mov (.t 139))]) (.seq (.ops [oo 140 (.mov (.t 0)), oo 141 (.mov (.t 16)), oo 142 (.bin .add (.t 141) (.v (.int .i64 1))), oo 143 (.mov (.t 2)), oo 144 (.mov (.t 3)), oo 145 (.mov (.t 4)), oo 146 (.call kz [(.t 140), (.t 142), (.t 143), (.t 144), (.t 145)])]) (.ops [oo 147 (.mov (.t 16)), oo 2 (.mov (.t 147))]))))))))))))))))))))
def QY (sz : Nat) (ag : Bool) (ki : Nat) (kh : Nat) (kb : Nat) (kc : Nat) (kr : Nat) (kp : Nat) (ke : Nat) (kq : Nat) (kz : Nat) : AFn := ⟨148, 5, [], (.seq (.ops [oo 10 (.mov (.v (.bool true)))]) (.seq (.ops [oo 11 (.mov (.v (.bool true)))]) (tO sz ag ki kh kb kc kr kp ke kq kz)))⟩
def lG (sz : Nat) (ag : Bool) (kz : Nat) (kl : Nat) : AFn := ⟨14, 2, [], (.seq (.ops [oo 5 (.mov (.t 0)), oo 6 (.len (.t 5)), oo 4 (.mov (.t 6))]) (.ops [oo 7 (.mov (.t 0)), oo 8 (.mov (.t 4)), oo 9 (.mov (.t 4)), oo 10 (.conv .u64 (.t 9)), oo 11 (.call kl [(.t 10)]), oo 12 (.mov (.t 1)), oo 13 (.call kz [(.t 7), (.v (.int .i64 0)), (.t 8), (.t 11), (.t 12)])]))⟩
structure Pdq (P : Program) (sz : Nat) (ag : Bool) (ki kh kb kc kr kp ke kq kz kl : FuncId) : Prop where
  ins : aD P ki = some (JH sz ag)
  heap : ∃ ks, aD P kh = some (GE sz ag ks) ∧ aD P ks = some (AX sz ag)
  len : ∃ k4 k8, aD P kl = some (OD k4 k8) ∧ aD P k8 = some (lE fP)
  brk : ∃ knp kx, aD P kb = some (SW sz ag knp kx) ∧ aD P knp = some (QV kl) ∧ aD P kx = some QW
  cho : ∃ km kj ko, aD P kc = some (SV sz ag km kj) ∧ aD P kj = some (QU sz ag km) ∧ aD P km = some (OC sz ag ko) ∧ aD P ko = some (LM sz ag)
  rev : aD P kr = some (SR sz ag)
  pis : aD P kp = some (ST sz ag)
  peq : aD P ke = some (SS sz ag)
  part : aD P kq = some (GG sz ag)
  pdq : aD P kz = some (QY sz ag ki kh kb kc kr kp ke kq kz)
section
variable {β : Type} [Inhabited β] {enc : β → AV} {sz t : Nat} {P : Program} {c : β → β → Int} {ag : Bool} {k : FuncId} {as0 bs : List AV} {ki kh kb kc kr kp ke kq kz kl : FuncId}
theorem QZ {H J : AH} (h : t < H.length) {d : Array β} : SH enc sz t H d ++ J = SH enc sz t (H ++ J) d := by
  unfold SH; rw [List.set_append_left _ _ h]
theorem LO (D : Pdq P sz ag ki kh kb kc kr kp ke kq kz kl) (E : cY P enc c sz ag k as0 bs) {H : AH} (h : t < H.length) {d : Array β} {m cp : Nat} {ex : Bool} (hm : m = d.size) (hs : m < 1099511627776) {a b : Nat} (hab : a + 12 < b) (hb : b ≤ m) {lim : Int} {x y : Bool} {f : AF} {Q : AE → AF → AH → Prop} {l : AV}
    (e0 : f 0 = .ref sz t 0 m cp ex) (e1 : f 1 = .int .i64 a) (e2 : f 2 = .int .i64 b) (e3 : f 3 = .int .i64 lim) (e4 : f 4 = .fn k as0 bs) (e10 : f 10 = .bool x) (e11 : f 11 = .bool y) (e12 : f 12 = l) (e39 : f 39 = .bool !x)
    (hQ : ∀ (f : AF) (J : AH) (d1 : Array β) (lim : Int), PermIn a b d d1 → f 0 = .ref sz t 0 m cp ex → f 1 = .int .i64 a → f 2 = .int .i64 b → f 3 = .int .i64 lim → f 4 = .fn k as0 bs → f 10 = .bool x → f 11 = .bool y → f 12 = l → Q .normal f (SH enc sz t (H ++ J) d1)) :
    (oE sz ag ki kh kb kc kr kp ke kq kz).wp P Q f (SH enc sz t H d) := by
  unfold oE
  cases x with
  | true =>
    simp only [push_cast, ↓reduceIte, Nat.reduceEqDiff, reduceCtorEq, Nat.reduceAdd, Nat.reduceLT, Nat.reduceLeDiff, e39]
    have := hQ f [] d lim (permIn_refl _ _ _) e0 e1 e2 e3 e4 e10 e11 e12
    simpa using this
  | false =>
    obtain ⟨knp, kx, b1, b2, b3⟩ := D.brk
    obtain ⟨k4, k8, b4, b5⟩ := D.len
    simp only [push_cast, ↓reduceIte, Nat.reduceEqDiff, reduceCtorEq, Nat.reduceAdd, Nat.reduceLT, Nat.reduceLeDiff, e39, e0, e1, e2, e3, e4]
    refine (GP b1 b2 b4 b5 b3 E h d hm hs a b hab hb _).mono fun r H' ⟨J, d1, h1, h2⟩ => ?_
    subst h1
    simp only [push_cast, ↓reduceIte, Nat.reduceEqDiff, reduceCtorEq, Nat.reduceAdd, Nat.reduceLT, Nat.reduceLeDiff, e3]
    refine hQ _ J d1 (IntKind.i64.wrap (lim - 1)) h2 ?_ ?_ ?_ ?_ ?_ ?_ ?_ ?_ <;> simp only [push_cast, ↓reduceIte, Nat.reduceEqDiff, reduceCtorEq, Nat.reduceAdd, Nat.reduceLT, Nat.reduceLeDiff, e0, e1, e2, e3, e4, e10, e11, e12]
theorem LP (D : Pdq P sz ag ki kh kb kc kr kp ke kq kz kl) (E : cY P enc c sz ag k as0 bs) {H : AH} (h : t < H.length) {d : Array β} {m cp : Nat} {ex : Bool} (hm : m = d.size) (hs : m < 1099511627776) {a b p : Nat} (hp1 : a ≤ p) (hp2 : p < b) (hb : b ≤ m) {x y : Bool} {f : AF} {Q : AE → AF → AH → Prop} {l lim : AV} {hint : Int}
    (e0 : f 0 = .ref sz t 0 m cp ex) (e1 : f 1 = .int .i64 a) (e2 : f 2 = .int .i64 b) (e3 : f 3 = lim) (e4 : f 4 = .fn k as0 bs) (e10 : f 10 = .bool x) (e11 : f 11 = .bool y) (e12 : f 12 = l) (e13 : f 13 = .int .i64 p) (e14 : f 14 = .int .i64 hint) {z : Bool} (e56 : f 56 = .bool z)
    (hQ : ∀ (f : AF) (d1 : Array β) (p : Nat) (hint : Int), PermIn a b d d1 → a ≤ p → p < b → f 0 = .ref sz t 0 m cp ex → f 1 = .int .i64 a → f 2 = .int .i64 b → f 3 = lim → f 4 = .fn k as0 bs → f 10 = .bool x → f 11 = .bool y → f 12 = l → f 13 = .int .i64 p → f 14 = .int .i64 hint → Q .normal f (SH enc sz t H d1)) :
    (oF sz ag ki kh kb kc kr kp ke kq kz).wp P Q f (SH enc sz t H d) := by
  unfold oF
  cases z with
  | false =>
    simp only [push_cast, ↓reduceIte, Nat.reduceEqDiff, reduceCtorEq, Nat.reduceAdd, Nat.reduceLT, Nat.reduceLeDiff, e56]
    exact hQ f d p hint (permIn_refl _ _ _) hp1 hp2 e0 e1 e2 e3 e4 e10 e11 e12 e13 e14
  | true =>
    have w1 : IntKind.i64.wrap ((b : Int) - 1) = (b : Int) - 1 := aE (by omega) (by omega)
    have w2 : IntKind.i64.wrap ((p : Int) - a) = (p : Int) - a := aE (by omega) (by omega)
    have w3 : IntKind.i64.wrap ((b : Int) - 1 - ((p : Int) - a)) = ((b - 1 - (p - a) : Nat) : Int) := aX (by omega) (by omega)
    simp only [push_cast, ↓reduceIte, Nat.reduceEqDiff, reduceCtorEq, Nat.reduceAdd, Nat.reduceLT, Nat.reduceLeDiff, e56, e0, e1, e2, e4]
    refine (GF D.rev E h d hm hs a b (by omega) hb _).mono fun r H' h1 => ?_
    subst h1
    have hz : b - 1 - (p - a) < b ∧ a ≤ b - 1 - (p - a) := by omega
    generalize b - 1 - (p - a) = p2 at w3 hz
    simp only [push_cast, ↓reduceIte, Nat.reduceEqDiff, reduceCtorEq, Nat.reduceAdd, Nat.reduceLT, Nat.reduceLeDiff, e0, e1, e2, e4, e13, w1, w2, w3]
    refine hQ _ (reverseRange d a b) p2 1 (reverseRange_holds _ _ _ (by omega) (by omega)) hz.2 hz.1 ?_ ?_ ?_ ?_ ?_ ?_ ?_ ?_ ?_ ?_ <;> simp only [push_cast, ↓reduceIte, Nat.reduceEqDiff, reduceCtorEq, Nat.reduceAdd, Nat.reduceLT, Nat.reduceLeDiff, e0, e1, e2, e3, e4, e10, e11, e12]
theorem LQ (D : Pdq P sz ag ki kh kb kc kr kp ke kq kz kl) (E : cY P enc c sz ag k as0 bs) (O : SWO (ltC c)) {H : AH} (h : t < H.length) {d : Array β} {m cp : Nat} {ex : Bool} (hm : m = d.size) (hs : m < 1099511627776) {a b : Nat} (hab : a < b) (hb : b ≤ m) (hB : Below (ltC c) a b d) {f : AF} {Q : AE → AF → AH → Prop} {x y l lim p : AV}
    (e0 : f 0 = .ref sz t 0 m cp ex) (e1 : f 1 = .int .i64 a) (e2 : f 2 = .int .i64 b) (e3 : f 3 = lim) (e4 : f 4 = .fn k as0 bs) (e10 : f 10 = x) (e11 : f 11 = y) (e12 : f 12 = l) (e13 : f 13 = p) {z : Bool} (e75 : f 75 = .bool z)
    (hQ : ∀ (f : AF) (d1 : Array β), PermIn a b d d1 → f 0 = .ref sz t 0 m cp ex → f 1 = .int .i64 a → f 2 = .int .i64 b → f 3 = lim → f 4 = .fn k as0 bs → f 10 = x → f 11 = y → f 12 = l → f 13 = p → Q .normal f (SH enc sz t H d1))
    (hR : ∀ (f : AF) (d1 : Array β), PermIn a b d d1 → SortedIn (ltC c) a b d1 → Q .ret f (SH enc sz t H d1)) :
    (oI sz ag ki kh kb kc kr kp ke kq kz).wp P Q f (SH enc sz t H d) := by
  unfold oI
  cases z with
  | false =>
    simp only [push_cast, ↓reduceIte, Nat.reduceEqDiff, reduceCtorEq, Nat.reduceAdd, Nat.reduceLT, Nat.reduceLeDiff, e75]
    exact hQ f d (permIn_refl _ _ _) e0 e1 e2 e3 e4 e10 e11 e12 e13
  | true =>
    simp only [push_cast, ↓reduceIte, Nat.reduceEqDiff, reduceCtorEq, Nat.reduceAdd, Nat.reduceLT, Nat.reduceLeDiff, e75, e0, e1, e2, e4]
    refine (GJ D.pis E h d hm hs a b hab hb).mono fun r H' ⟨h1, h2⟩ => ?_
    subst h1; subst h2
    have hp := partialInsertionSort_holds O d a b hab (by omega) hB
    cases hr : (partialInsertionSort (ltC c) d a b).2 with
    | false =>
      simp only [push_cast, ↓reduceIte, Nat.reduceEqDiff, reduceCtorEq, Nat.reduceAdd, Nat.reduceLT, Nat.reduceLeDiff, hr]
      refine hQ _ _ hp.1 ?_ ?_ ?_ ?_ ?_ ?_ ?_ ?_ ?_ <;> simp only [push_cast, ↓reduceIte, Nat.reduceEqDiff, reduceCtorEq, Nat.reduceAdd, Nat.reduceLT, Nat.reduceLeDiff, e0, e1, e2, e3, e4, e10, e11, e12, e13]
    | true =>
      simp only [push_cast, ↓reduceIte, Nat.reduceEqDiff, reduceCtorEq, Nat.reduceAdd, Nat.reduceLT, Nat.reduceLeDiff, hr]
      exact hR _ _ hp.1 (hp.2 hr)
theorem LR {H : AH} {f : AF} {Q : AE → AF → AH → Prop} {x y : Bool} {hint : Int} (e10 : f 10 = .bool x) (e11 : f 11 = .bool y) (e14 : f 14 = .int .i64 hint)
    (hQ : ∀ (f' : AF) (z : Bool), f' 75 = .bool z → f' 0 = f 0 → f' 1 = f 1 → f' 2 = f 2 → f' 3 = f 3 → f' 4 = f 4 → f' 10 = f 10 → f' 11 = f 11 → f' 12 = f 12 → f' 13 = f 13 → Q .normal f' H) :
    (oJ sz ag ki kh kb kc kr kp ke kq kz).wp P Q f H := by
  unfold oJ
  cases x
  · simp only [push_cast, ↓reduceIte, Nat.reduceEqDiff, reduceCtorEq, Nat.reduceAdd, Nat.reduceLT, Nat.reduceLeDiff, e10, e11, e14]
    refine hQ _ false ?_ ?_ ?_ ?_ ?_ ?_ ?_ ?_ ?_ ?_ <;> simp only [push_cast, ↓reduceIte, Nat.reduceEqDiff, reduceCtorEq, Nat.reduceAdd, Nat.reduceLT, Nat.reduceLeDiff]
  · cases y
    · simp only [push_cast, ↓reduceIte, Nat.reduceEqDiff, reduceCtorEq, Nat.reduceAdd, Nat.reduceLT, Nat.reduceLeDiff, e10, e11, e14]
      refine hQ _ false ?_ ?_ ?_ ?_ ?_ ?_ ?_ ?_ ?_ ?_ <;> simp only [push_cast, ↓reduceIte, Nat.reduceEqDiff, reduceCtorEq, Nat.reduceAdd, Nat.reduceLT, Nat.reduceLeDiff, e10, e11]
    · simp only [push_cast, ↓reduceIte, Nat.reduceEqDiff, reduceCtorEq, Nat.reduceAdd, Nat.reduceLT, Nat.reduceLeDiff, e10, e11, e14]
      refine hQ _ (decide (hint = 1)) ?_ ?_ ?_ ?_ ?_ ?_ ?_ ?_ ?_ ?_ <;> simp only [push_cast, ↓reduceIte, Nat.reduceEqDiff, reduceCtorEq, Nat.reduceAdd, Nat.reduceLT, Nat.reduceLeDiff, e10, e11]
theorem GQ (E : cY P enc c sz ag k as0 bs) {H : AH} (h : t < H.length) {d : Array β} {m cp : Nat} {ex : Bool} (hm : m = d.size) (hs : m < 1099511627776) {a p : Nat} (ha : a ≤ m) (hp : p < m) {f : AF} {Q : AE → AF → AH → Prop}
    (e0 : f 0 = .ref sz t 0 m cp ex) (e1 : f 1 = .int .i64 a) (e4 : f 4 = .fn k as0 bs) (e13 : f 13 = .int .i64 p)
    (hQ : ∀ (f' : AF) (z : Bool), (z = true → a > 0 ∧ ltC c d[a - 1]! d[p]! = false) → f' 97 = .bool z → f' 0 = f 0 → f' 1 = f 1 → f' 2 = f 2 → f' 3 = f 3 → f' 4 = f 4 → f' 10 = f 10 → f' 11 = f 11 → f' 12 = f 12 → f' 13 = f 13 → Q .normal f' (SH enc sz t H d)) :
    (lF sz ag ki kh kb kc kr kp ke kq kz).wp P Q f (SH enc sz t H d) := by
  unfold lF
  by_cases hpos : a > 0
  · have hpos' : (a : Int) > 0 := by omega
    have ip : aF sz (.ref sz t 0 m cp ex) (.int .i64 (p : Int)) = some (.ptr t p 0) := aP rfl (by omega)
    have lp := E.load (d := d) h (show p < d.size by omega)
    have wa : IntKind.i64.wrap ((a : Int) - 1) = ((a - 1 : Nat) : Int) := aX (by omega) (by omega)
    have ia : aF sz (.ref sz t 0 m cp ex) (.int .i64 ((a - 1 : Nat) : Int)) = some (.ptr t (a - 1) 0) := aP rfl (by omega)
    have la := E.load (d := d) h (show a - 1 < d.size by omega)
    generalize a - 1 = a2 at wa ia la hQ
    simp only [push_cast, ↓reduceIte, Nat.reduceEqDiff, reduceCtorEq, Nat.reduceAdd, Nat.reduceLT, Nat.reduceLeDiff, e0, e1, e4, e13, hpos', decide_true, wa, ia, la, ip, lp]
    refine aC.look (E.cmp d[a2]! d[p]! _) ?_
    by_cases hlt : c d[a2]! d[p]! < 0
    · simp only [push_cast, ↓reduceIte, Nat.reduceEqDiff, reduceCtorEq, Nat.reduceAdd, Nat.reduceLT, Nat.reduceLeDiff, e0, e1, e4, e13, hlt]
      refine hQ _ false (fun h => by cases h) ?_ ?_ ?_ ?_ ?_ ?_ ?_ ?_ ?_ ?_ <;> simp only [push_cast, ↓reduceIte, Nat.reduceEqDiff, reduceCtorEq, Nat.reduceAdd, Nat.reduceLT, Nat.reduceLeDiff, e0, e1, e4, e13]
    · simp only [push_cast, ↓reduceIte, Nat.reduceEqDiff, reduceCtorEq, Nat.reduceAdd, Nat.reduceLT, Nat.reduceLeDiff, e0, e1, e4, e13, hlt]
      refine hQ _ true (fun _ => ⟨hpos, iC.2 hlt⟩) ?_ ?_ ?_ ?_ ?_ ?_ ?_ ?_ ?_ ?_ <;> simp only [push_cast, ↓reduceIte, Nat.reduceEqDiff, reduceCtorEq, Nat.reduceAdd, Nat.reduceLT, Nat.reduceLeDiff, e0, e1, e4, e13]
  · have hpos' : ¬ (a : Int) > 0 := by omega
    simp only [push_cast, ↓reduceIte, Nat.reduceEqDiff, reduceCtorEq, Nat.reduceAdd, Nat.reduceLT, Nat.reduceLeDiff, e0, e1, e4, e13, hpos', decide_false]
    refine hQ _ false (fun h => by cases h) ?_ ?_ ?_ ?_ ?_ ?_ ?_ ?_ ?_ ?_ <;> simp only [push_cast, ↓reduceIte, Nat.reduceEqDiff, reduceCtorEq, Nat.reduceAdd, Nat.reduceLT, Nat.reduceLeDiff, e0, e1, e4, e13]
theorem GR (D : Pdq P sz ag ki kh kb kc kr kp ke kq kz kl) (E : cY P enc c sz ag k as0 bs) (O : SWO (ltC c)) {m cp : Nat} {ex : Bool} (hs : m < 1099511627776) : ∀ (N : Nat) (H : AH) (h : t < H.length) (d : Array β) (hm : m = d.size) (a b : Nat) (lim : Int), b - a = N → a ≤ b → b ≤ m → Below (ltC c) a b d →
    aC P kz [.ref sz t 0 m cp ex, .int .i64 a, .int .i64 b, .int .i64 lim, .fn k as0 bs] (SH enc sz t H d) fun r H' => ∃ (J : AH) (d' : Array β), H' = SH enc sz t (H ++ J) d' ∧ PermIn a b d d' ∧ SortedIn (ltC c) a b d' := by
  intro N
  induction N using Nat.strongRecOn with
  | _ N ih =>
  intro H h d hm a b lim hN hab hb hB
  refine aU D.pdq (by simp [QY]) ?_
  unfold QY tO
  simp only [push_cast, ↓reduceIte, Nat.reduceEqDiff, reduceCtorEq, Nat.reduceAdd, Nat.reduceLT, Nat.reduceLeDiff]
  refine aI (fun (s : Nat × Nat × Array β × AH × Int × Bool × Bool) f H' => H' = SH enc sz t (H ++ s.2.2.2.1) s.2.2.1 ∧ s.2.2.1.size = m ∧ a ≤ s.1 ∧ s.1 ≤ s.2.1 ∧ s.2.1 ≤ b ∧ Below (ltC c) s.1 s.2.1 s.2.2.1 ∧ (∀ R, PermIn s.1 s.2.1 s.2.2.1 R → SortedIn (ltC c) s.1 s.2.1 R → PermIn a b d R ∧ SortedIn (ltC c) a b R) ∧ f 0 = .ref sz t 0 m cp ex ∧ f 4 = .fn k as0 bs ∧ f 1 = .int .i64 s.1 ∧ f 2 = .int .i64 s.2.1 ∧ f 3 = .int .i64 s.2.2.2.2.1 ∧ f 10 = .bool s.2.2.2.2.2.1 ∧ f 11 = .bool s.2.2.2.2.2.2) (fun s => s.2.1 - s.1) (a, b, d, [], lim, true, true) ?_ ?_
  · refine ⟨by simp, hm.symm, Nat.le_refl _, hab, Nat.le_refl _, hB, fun R h1 h2 => ⟨h1, h2⟩, ?_⟩
    simp only [push_cast, ↓reduceIte, Nat.reduceEqDiff, reduceCtorEq, Nat.reduceAdd, Nat.reduceLT, Nat.reduceLeDiff]
  rintro ⟨a1, b1, d1, J, lim, x, y⟩ f H' ⟨rfl, s1, s2, s3, s4, s5, s6, e0, e4, e1, e2, e3, e10, e11⟩
  dsimp only at s1 s2 s3 s4 s5 s6 e1 e2 e3 e10 e11 ⊢
  have ht : t < (H ++ J).length := by simp; omega
  have w1 : IntKind.i64.wrap ((b1 : Int) - a1) = ((b1 - a1 : Nat) : Int) := aX (by omega) (by omega)
  generalize hl : b1 - a1 = l at w1
  by_cases h12 : l ≤ 12
  · have h12' : (l : Int) ≤ 12 := by omega
    simp only [push_cast, ↓reduceIte, Nat.reduceEqDiff, reduceCtorEq, Nat.reduceAdd, Nat.reduceLT, Nat.reduceLeDiff, e0, e1, e2, e3, e4, e10, e11, w1, h12', decide_true]
    refine (nO D.ins E ht d1 s1.symm hs a1 b1 (by omega) (by omega)).mono fun r H' h1 => ?_
    subst h1
    simp only [push_cast, ↓reduceIte, Nat.reduceEqDiff, reduceCtorEq, Nat.reduceAdd, Nat.reduceLT, Nat.reduceLeDiff]
    have hi := insertionSort_holds O d1 a1 b1 s3 (by omega)
    exact ⟨J, _, rfl, s6 _ hi.1 hi.2⟩
  have h12' : ¬ (l : Int) ≤ 12 := by omega
  by_cases h0 : lim = 0
  · obtain ⟨ks, h1, h2⟩ := D.heap
    simp only [push_cast, ↓reduceIte, Nat.reduceEqDiff, reduceCtorEq, Nat.reduceAdd, Nat.reduceLT, Nat.reduceLeDiff, e0, e1, e2, e3, e4, e10, e11, w1, h12', h0, decide_true, decide_false]
    refine (AY h1 h2 E ht d1 s1.symm hs a1 b1 s3 (by omega)).mono fun r H' h1 => ?_
    subst h1
    simp only [push_cast, ↓reduceIte, Nat.reduceEqDiff, reduceCtorEq, Nat.reduceAdd, Nat.reduceLT, Nat.reduceLeDiff]
    have hi := heapSort_holds O d1 a1 b1 s3 (by omega)
    exact ⟨J, _, rfl, s6 _ hi.1 hi.2⟩
  simp only [push_cast, ↓reduceIte, Nat.reduceEqDiff, reduceCtorEq, Nat.reduceAdd, Nat.reduceLT, Nat.reduceLeDiff, e0, e1, e2, e3, e4, e10, e11, w1, h12', h0, decide_false]
  refine LO D E ht s1.symm hs (a := a1) (b := b1) (cp := cp) (ex := ex) (lim := lim) (x := x) (y := y) (l := .int .i64 l) (by omega) (by omega) ?_ ?_ ?_ ?_ ?_ ?_ ?_ ?_ ?_ fun f J2 d2 lim p1 e0 e1 e2 e3 e4 e10 e11 e12 => ?_
  all_goals first | (simp only [push_cast, ↓reduceIte, Nat.reduceEqDiff, reduceCtorEq, Nat.reduceAdd, Nat.reduceLT, Nat.reduceLeDiff, e0, e1, e2, e3, e4, e10, e11, w1]; done) | skip
  rw [List.append_assoc]
  generalize J ++ J2 = J
  have ht : t < (H ++ J).length := by simp; omega
  have z1 : d2.size = m := by rw [p1.1]; exact s1
  have B2 := s5.perm (by omega) p1
  have s6 : ∀ R, PermIn a1 b1 d2 R → SortedIn (ltC c) a1 b1 R → PermIn a b d R ∧ SortedIn (ltC c) a b R := fun R q1 q2 => s6 R (permIn_trans _ _ _ _ _ p1 q1) q2
  clear s1 s5 p1
  obtain ⟨km, kj, ko, q1, q2, q3, q4⟩ := D.cho
  simp only [push_cast, ↓reduceIte, Nat.reduceEqDiff, reduceCtorEq, Nat.reduceAdd, Nat.reduceLT, Nat.reduceLeDiff, e0, e1, e2, e4]
  refine (GM q1 q2 q3 q4 E ht d2 z1.symm hs a1 b1 (by omega) (by omega)).mono fun r H' ⟨J2, p, hint, h1, h2, h3, h4⟩ => ?_
  subst h1; subst h2
  rw [QZ ht, List.append_assoc]
  generalize J ++ J2 = J
  have ht : t < (H ++ J).length := by simp; omega
  simp only [push_cast, ↓reduceIte, Nat.reduceEqDiff, reduceCtorEq, Nat.reduceAdd, Nat.reduceLT, Nat.reduceLeDiff, e0, e1, e2, e4]
  refine LP D E ht z1.symm hs (a := a1) (b := b1) (cp := cp) (ex := ex) (p := p) (x := x) (y := y) (l := .int .i64 l) (lim := .int .i64 lim) (hint := hint) (z := decide (hint = 2)) h3 h4 (by omega) ?_ ?_ ?_ ?_ ?_ ?_ ?_ ?_ ?_ ?_ ?_ fun f d3 p hint p1 h3 h4 e0 e1 e2 e3 e4 e10 e11 e12 e13 e14 => ?_
  all_goals first | (simp only [push_cast, ↓reduceIte, Nat.reduceEqDiff, reduceCtorEq, Nat.reduceAdd, Nat.reduceLT, Nat.reduceLeDiff, e0, e1, e2, e3, e4, e10, e11, e12]; done) | skip
  have z2 : d3.size = m := by rw [p1.1]; exact z1
  have B3 := B2.perm (by omega) p1
  have s6 : ∀ R, PermIn a1 b1 d3 R → SortedIn (ltC c) a1 b1 R → PermIn a b d R ∧ SortedIn (ltC c) a b R := fun R q1 q2 => s6 R (permIn_trans _ _ _ _ _ p1 q1) q2
  clear z1 B2 p1
  simp only [push_cast, ↓reduceIte, Nat.reduceEqDiff, reduceCtorEq, Nat.reduceAdd, Nat.reduceLT, Nat.reduceLeDiff]
  refine LR e10 e11 e14 fun f' z e75 a0 a1' a2 a3 a4 a10 a11 a12 a13 => ?_
  rw [e0] at a0; rw [e1] at a1'; rw [e2] at a2; rw [e3] at a3; rw [e4] at a4; rw [e10] at a10; rw [e11] at a11; rw [e12] at a12; rw [e13] at a13
  clear e0 e1 e2 e3 e4 e10 e11 e12 e13 e14
  simp only [push_cast, ↓reduceIte, Nat.reduceEqDiff, reduceCtorEq, Nat.reduceAdd, Nat.reduceLT, Nat.reduceLeDiff]
  refine LQ D E O ht z2.symm hs (a := a1) (b := b1) (cp := cp) (ex := ex) (by omega) (by omega) B3 a0 a1' a2 a3 a4 a10 a11 a12 a13 e75 (fun f d4 p1 e0 e1 e2 e3 e4 e10 e11 e12 e13 => ?_) fun f d4 p1 p2 => ?_
  rotate_left
  · simp only [push_cast, ↓reduceIte, Nat.reduceEqDiff, reduceCtorEq, Nat.reduceAdd, Nat.reduceLT, Nat.reduceLeDiff]
    obtain ⟨r1, r2⟩ := s6 _ p1 p2
    exact ⟨J, d4, rfl, r1, r2⟩
  have z3 : d4.size = m := by rw [p1.1]; exact z2
  have B4 := B3.perm (by omega) p1
  have s6 : ∀ R, PermIn a1 b1 d4 R → SortedIn (ltC c) a1 b1 R → PermIn a b d R ∧ SortedIn (ltC c) a b R := fun R q1 q2 => s6 R (permIn_trans _ _ _ _ _ p1 q1) q2
  clear z2 B3 p1
  have partn : ∀ (mid : Nat) (ap : Bool) (d5 : Array β), partition (ltC c) d4 a1 b1 p = (mid, ap, d5) → a1 ≤ mid ∧ mid < b1 ∧ d5.size = d4.size ∧ Below (ltC c) a1 mid d5 ∧ Below (ltC c) (mid + 1) b1 d5 ∧
    (∀ L, PermIn a1 mid d5 L → SortedIn (ltC c) a1 mid L → Below (ltC c) (mid + 1) b1 L ∧ ∀ R, PermIn (mid + 1) b1 L R → SortedIn (ltC c) (mid + 1) b1 R → PermIn a1 b1 d4 R ∧ SortedIn (ltC c) a1 b1 R) ∧
    (∀ L, PermIn (mid + 1) b1 d5 L → SortedIn (ltC c) (mid + 1) b1 L → Below (ltC c) a1 mid L ∧ ∀ R, PermIn a1 mid L R → SortedIn (ltC c) a1 mid R → PermIn a1 b1 d4 R ∧ SortedIn (ltC c) a1 b1 R) :=
    fun mid ap d5 hx => round_part O (partition_holds _) h3 h4 (by omega) B4 hx
  have reqn : ∀ (mid : Nat) (d5 : Array β), a1 > 0 → ltC c d4[a1 - 1]! d4[p]! = false → partitionEqual (ltC c) d4 a1 b1 p = (mid, d5) → a1 < mid ∧ mid ≤ b1 ∧ d5.size = d4.size ∧ Below (ltC c) mid b1 d5 ∧ ∀ R, PermIn mid b1 d5 R → SortedIn (ltC c) mid b1 R → PermIn a1 b1 d4 R ∧ SortedIn (ltC c) a1 b1 R := fun mid d5 hpos hnl hx => round_eq O (partitionEqual_holds _) hpos h3 h4 (by omega) B4 hnl hx
  simp only [push_cast, ↓reduceIte, Nat.reduceEqDiff, reduceCtorEq, Nat.reduceAdd, Nat.reduceLT, Nat.reduceLeDiff]
  refine GQ E ht z3.symm hs (a := a1) (p := p) (cp := cp) (ex := ex) (by omega) (by omega) e0 e1 e4 e13 fun f' z hz e97 a0 a1' a2 a3 a4 a10 a11 a12 a13 => ?_
  rw [e0] at a0; rw [e1] at a1'; rw [e2] at a2; rw [e3] at a3; rw [e4] at a4; rw [e10] at a10; rw [e11] at a11; rw [e12] at a12; rw [e13] at a13
  clear e0 e1 e2 e3 e4 e10 e11 e12 e13
  cases z with
  | true =>
    obtain ⟨hpos, hnl⟩ := hz rfl
    simp only [push_cast, ↓reduceIte, Nat.reduceEqDiff, reduceCtorEq, Nat.reduceAdd, Nat.reduceLT, Nat.reduceLeDiff, a0, a1', a2, a3, a4, a10, a11, a13, e97]
    refine (GH D.peq E ht d4 z3.symm hs a1 b1 p h3 h4 (by omega)).mono fun r H' ⟨h5, h6⟩ => ?_
    subst h5; subst h6
    cases hx : partitionEqual (ltC c) d4 a1 b1 p with
    | mk mid d5 =>
      obtain ⟨r1, r2, r3, r4, r5⟩ := reqn mid d5 hpos hnl hx
      simp only [push_cast, ↓reduceIte, Nat.reduceEqDiff, reduceCtorEq, Nat.reduceAdd, Nat.reduceLT, Nat.reduceLeDiff, a0, a1', a2, a3, a4, a10, a11, a13]
      exact ⟨(mid, b1, d5, J, lim, x, y), ⟨rfl, r3.trans z3, by show a ≤ mid; omega, by show mid ≤ b1; omega, s4, r4, fun R q1 q2 => by
        obtain ⟨t1, t2⟩ := r5 R q1 q2
        exact s6 R t1 t2, rfl, rfl, rfl, rfl, rfl⟩, by show b1 - mid < l; omega⟩
  | false =>
    simp only [push_cast, ↓reduceIte, Nat.reduceEqDiff, reduceCtorEq, Nat.reduceAdd, Nat.reduceLT, Nat.reduceLeDiff, a0, a1', a2, a3, a4, a10, a11, a13, e97]
    refine (BC D.part E ht d4 z3.symm hs a1 b1 p h3 h4 (by omega)).mono fun r H' ⟨h5, h6⟩ => ?_
    subst h5; subst h6
    cases hx : partition (ltC c) d4 a1 b1 p with
    | mk mid r =>
      obtain ⟨ap, d5⟩ := r
      obtain ⟨r1, r2, r3, r4, r5, r6, r7⟩ := partn mid ap d5 hx
      have v1 : IntKind.i64.wrap ((mid : Int) - a1) = ((mid - a1 : Nat) : Int) := aX (by omega) (by omega)
      have v2 : IntKind.i64.wrap ((b1 : Int) - mid) = ((b1 - mid : Nat) : Int) := aX (by omega) (by omega)
      have v3 : IntKind.i64.wrap ((mid : Int) + 1) = ((mid + 1 : Nat) : Int) := aX (by omega) (by omega)
      have n8 : ¬ (8 : Int) = 0 := by omega
      generalize hv1 : mid - a1 = lf at v1
      generalize hv2 : b1 - mid = rt at v2
      generalize hv3 : mid + 1 = md at v3 r5 r6 r7
      by_cases hlr : lf < rt
      · have hlr' : (lf : Int) < rt := by omega
        simp only [push_cast, ↓reduceIte, Nat.reduceEqDiff, reduceCtorEq, Nat.reduceAdd, Nat.reduceLT, Nat.reduceLeDiff, a0, a1', a2, a3, a4, a10, a11, a12, a13, v1, v2, v3, n8, hlr', decide_true]
        refine (ih (mid - a1) (by omega) (H ++ J) ht d5 (by omega) a1 mid lim rfl (by omega) (by omega) r4).mono fun r H' ⟨J2, d6, h5, h6, h7⟩ => ?_
        subst h5
        simp only [push_cast, ↓reduceIte, Nat.reduceEqDiff, reduceCtorEq, Nat.reduceAdd, Nat.reduceLT, Nat.reduceLeDiff, a0, a1', a2, a3, a4, a10, a11, a12, a13, v3]
        obtain ⟨t1, t2⟩ := r6 d6 h6 h7
        exact ⟨(md, b1, d6, J ++ J2, lim, _, ap), ⟨by rw [List.append_assoc], by rw [h6.1]; omega, by show a ≤ md; omega, by show md ≤ b1; omega, s4, t1, fun R q1 q2 => by
          obtain ⟨t3, t4⟩ := t2 R q1 q2
          exact s6 R t3 t4, rfl, rfl, rfl, rfl, rfl⟩, by show b1 - md < l; omega⟩
      · have hlr' : ¬ (lf : Int) < rt := by omega
        simp only [push_cast, ↓reduceIte, Nat.reduceEqDiff, reduceCtorEq, Nat.reduceAdd, Nat.reduceLT, Nat.reduceLeDiff, a0, a1', a2, a3, a4, a10, a11, a12, a13, v1, v2, v3, n8, hlr', decide_false]
        refine (ih (b1 - md) (by omega) (H ++ J) ht d5 (by omega) md b1 lim rfl (by omega) (by omega) r5).mono fun r H' ⟨J2, d6, h5, h6, h7⟩ => ?_
        subst h5
        simp only [push_cast, ↓reduceIte, Nat.reduceEqDiff, reduceCtorEq, Nat.reduceAdd, Nat.reduceLT, Nat.reduceLeDiff, a0, a1', a2, a3, a4, a10, a11, a12, a13, v3]
        obtain ⟨t1, t2⟩ := r7 d6 h6 h7
        exact ⟨(a1, mid, d6, J ++ J2, lim, _, ap), ⟨by rw [List.append_assoc], by rw [h6.1]; omega, s2, by show a1 ≤ mid; omega, by show mid ≤ b; omega, t1, fun R q1 q2 => by
          obtain ⟨t3, t4⟩ := t2 R q1 q2
          exact s6 R t3 t4, rfl, rfl, rfl, rfl, rfl⟩, by show mid - a1 < l; omega⟩
theorem xF {n : FuncId} (hc : aD P n = some (lG sz ag kz kl)) (D : Pdq P sz ag ki kh kb kc kr kp ke kq kz kl) (E : cY P enc c sz ag k as0 bs) (O : SWO (ltC c)) {H : AH} (h : t < H.length) {d : Array β} {m cp : Nat} {ex : Bool} (hm : m = d.size) (hs : m < 1099511627776) :
    aC P n [.ref sz t 0 m cp ex, .fn k as0 bs] (SH enc sz t H d) fun r H' => ∃ (J : AH) (d' : Array β), H' = SH enc sz t (H ++ J) d' ∧ PermIn 0 m d d' ∧ SortedIn (ltC c) 0 m d' := by
  refine aU hc (by simp [lG]) ?_
  unfold lG
  obtain ⟨k4, k8, l1, l2⟩ := D.len
  have w1 : IntKind.u64.wrap (m : Int) = m := xD (by omega) (by omega)
  simp only [push_cast, ↓reduceIte, Nat.reduceEqDiff, reduceCtorEq, Nat.reduceAdd, Nat.reduceLT, Nat.reduceLeDiff, w1]
  refine aC.look (oD l1 l2 m (by omega) _) ?_
  simp only [push_cast, ↓reduceIte, Nat.reduceEqDiff, reduceCtorEq, Nat.reduceAdd, Nat.reduceLT, Nat.reduceLeDiff, w1]
  have := GR D E O (m := m) (cp := cp) (ex := ex) hs m H h d hm 0 m ((bitsLen m : Nat) : Int) (by omega) (Nat.zero_le _) (Nat.le_refl _) (.inl rfl)
  refine aC.mono (R := fun r H' => ∃ (J : AH) (d' : Array β), H' = SH enc sz t (H ++ J) d' ∧ PermIn 0 m d d' ∧ SortedIn (ltC c) 0 m d') (by simpa using this) fun r H' hh => ?_
  simp only [push_cast, ↓reduceIte, Nat.reduceEqDiff, reduceCtorEq, Nat.reduceAdd, Nat.reduceLT, Nat.reduceLeDiff]
  exact hh
end
theorem JJ {β : Type} [Inhabited β] {c : β → β → Int} (O : Stab.Ord c) : SWO (ltC c) where
  irrefl x := by simp [ltC, O.refl]
  trans x y z h1 h2 := by
    rw [uY] at *
    exact O.lt_le h1 (by omega)
  ntrans x y z h1 h2 := by
    rw [iC] at *
    have a := O.sw x y; have b := O.sw y z; have e := O.sw x z
    have := O.tr z y x (by omega) (by omega)
    omega
theorem dV {β : Type} (p : β → Bool) (z : β) (h : ∀ x, p x = true → x = z) : ∀ l : List β, l.filter p = List.replicate (l.countP p) z
  | [] => rfl
  | x :: l => by
    rw [List.filter_cons, List.countP_cons]
    by_cases hx : p x = true
    · rw [if_pos hx, if_pos hx, dV p z h l, List.replicate_succ, h x hx]
    · rw [if_neg hx, if_neg hx, dV p z h l]; rfl
theorem BH {β : Type} {c : β → β → Int} (O : Stab.Ord c) (hz : ∀ x y, c x y = 0 → x = y) {l l' : List β} (hp : l'.Perm l) (hs : Stab.Srt c l') : l' = Stab.sortS c l := by
  refine Stab.sortS_unique O hs ⟨hp.length_eq.symm, fun z => ?_⟩
  rw [dV _ z (fun x hx => (hz z x (of_decide_eq_true hx)).symm) l, dV _ z (fun x hx => (hz z x (of_decide_eq_true hx)).symm) l', hp.countP_eq]
theorem RA {β : Type} [Inhabited β] {c : β → β → Int} (O : Stab.Ord c) {d : Array β} (h : SortedIn (ltC c) 0 d.size d) : Stab.Srt c d.toList := by
  refine List.pairwise_iff_getElem.2 fun i j hi hj hij => ?_
  have := h i j (Nat.zero_le _) hij (by simpa using hj)
  rw [iC, getElem!_pos d j (by simpa using hj), getElem!_pos d i (by simpa using hi)] at this
  simp only [Array.getElem_toList]
  have e := O.sw d[i] d[j]
  omega
theorem LS {β : Type} [Inhabited β] {d d' : Array β} (h : PermIn 0 d.size d d') : d'.toList.Perm d.toList := by
  have h1 := h.2.2
  have h2 := h.1
  have e : (d'.extract 0 d.size).toList = d'.toList := by rw [← h2]; simp
  rw [e] at h1
  simpa using h1
theorem xG {β : Type} [Inhabited β] {enc : β → AV} {sz t : Nat} {P : Program} {c : β → β → Int} {ag : Bool} {k : FuncId} {as0 bs : List AV} {ki kh kb kc kr kp ke kq kz kl : FuncId} {n : FuncId} (hc : aD P n = some (lG sz ag kz kl)) (D : Pdq P sz ag ki kh kb kc kr kp ke kq kz kl) (E : cY P enc c sz ag k as0 bs) (O : Stab.Ord c) (hz : ∀ x y, c x y = 0 → x = y) {H : AH} {l : List β} (ho : obj? H t = some (sz, l.map enc)) {cp : Nat} {ex : Bool} (hs : l.length < 1099511627776) :
    aC P n [.ref sz t 0 l.length cp ex, .fn k as0 bs] H fun r H' => ∃ J, H' = List.set H t (.live sz ((Stab.sortS c l).map enc)) ++ J := by
  have ht := aY ho
  have h1 := xF (m := l.length) (cp := cp) (ex := ex) hc D E (JJ O) ht (d := l.toArray) (by simp) hs
  rw [AK ho] at h1
  refine h1.mono fun r H' ⟨J, d', e1, e2, e3⟩ => ⟨J, ?_⟩
  have hz1 : d'.size = l.length := by rw [e2.1]; simp
  have p1 : d'.toList.Perm l := by
    have := LS (d := l.toArray) (d' := d') (by simpa using e2)
    simpa using this
  have p2 := RA O (d := d') (by rw [hz1]; exact e3)
  have := BH O hz p1 p2
  subst e1
  unfold SH
  rw [this, List.set_append_left _ _ ht]
end Go.Eng
end
section
namespace Go.Eng
open Go Go.Sort
set_option linter.unusedSimpArgs false
set_option linter.unusedVariables false
set_option linter.unusedSectionVars false
set_option linter.unnecessarySimpa false
set_option maxRecDepth 10000
def tP (sz : Nat) (ag : Bool) (ki : Nat) (kz : Nat) : AC := (.block 4 (.loop (.seq (.seq (.ops [oo 33 (.mov (.t 8)), oo 34 (.mov (.t 1)), oo 35 (.bin .leq (.t 33) (.t 34))]) (.cond (.t 35) .skip (.exit 4))) (.block 5 (.seq (.ops [oo 36 (.mov (.t 0)), oo 37 (.mov (.t 7)), oo 38 (.mov (.t 7)), oo 39 (.mov (.t 6)), oo 40 (.bin .add (.t 38) (.t 39)), oo 41 (.mov (.t 8)), oo 42 (.mov (.t 2)), oo 43 (.call kz [(.t 36), (.t 37), (.t 40), (.t 41), (.t 42)])]) (.seq (.ops [oo 44 (.mov (.t 8)), oo 7 (.mov (.t 44))]) (.ops [oo 45 (.mov (.t 8)), oo 46 (.mov (.t 6)), oo 47 (.bin .mul (.v (.int .i64 2)) (.t 46)), oo 48 (.bin .add (.t 45) (.t 47)), oo 8 (.mov (.t 48))])))))))
def tQ (sz : Nat) (ag : Bool) (ki : Nat) (kz : Nat) : AC := (.block 2 (.loop (.seq (.seq (.ops [oo 28 (.mov (.t 6)), oo 29 (.mov (.t 1)), oo 30 (.bin .lss (.t 28) (.t 29))]) (.cond (.t 30) .skip (.exit 2))) (.block 3 (.seq (.ops [oo 31 (.mov (.t 6)), oo 32 (.bin .mul (.v (.int .i64 2)) (.t 31)), oo 7 (.mov (.v (.int .i64 0))), oo 8 (.mov (.t 32))]) (.seq (tP sz ag ki kz) (.seq (.seq (.ops [oo 49 (.mov (.t 7)), oo 50 (.mov (.t 6)), oo 51 (.bin .add (.t 49) (.t 50)), oo 9 (.mov (.t 51))]) (.seq (.ops [oo 52 (.mov (.t 9)), oo 53 (.mov (.t 1)), oo 54 (.bin .lss (.t 52) (.t 53))]) (.cond (.t 54) (.ops [oo 55 (.mov (.t 0)), oo 56 (.mov (.t 7)), oo 57 (.mov (.t 9)), oo 58 (.mov (.t 1)), oo 59 (.mov (.t 2)), oo 60 (.call kz [(.t 55), (.t 56), (.t 57), (.t 58), (.t 59)])]) .skip))) (.ops [oo 61 (.mov (.t 6)), oo 62 (.bin .mul (.t 61) (.v (.int .i64 2))), oo 6 (.mov (.t 62))]))))))))
def oK (sz : Nat) (ag : Bool) (ki : Nat) (kz : Nat) : AC := (.block 0 (.loop (.seq (.seq (.ops [oo 11 (.mov (.t 8)), oo 12 (.mov (.t 1)), oo 13 (.bin .leq (.t 11) (.t 12))]) (.cond (.t 13) .skip (.exit 0))) (.block 1 (.seq (.ops [oo 14 (.mov (.t 0)), oo 15 (.mov (.t 7)), oo 16 (.mov (.t 8)), oo 17 (.mov (.t 2)), oo 18 (.call ki [(.t 14), (.t 15), (.t 16), (.t 17)])]) (.seq (.ops [oo 19 (.mov (.t 8)), oo 7 (.mov (.t 19))]) (.ops [oo 20 (.mov (.t 8)), oo 21 (.mov (.t 6)), oo 22 (.bin .add (.t 20) (.t 21)), oo 8 (.mov (.t 22))])))))))
def JK (sz : Nat) (ag : Bool) (ki : Nat) (kz : Nat) : AFn := ⟨63, 3, [], (.seq (.ops [oo 6 (.mov (.v (.int .i64 20)))]) (.seq (.ops [oo 10 (.mov (.t 6)), oo 7 (.mov (.v (.int .i64 0))), oo 8 (.mov (.t 10))]) (.seq (oK sz ag ki kz) (.seq (.ops [oo 23 (.mov (.t 0)), oo 24 (.mov (.t 7)), oo 25 (.mov (.t 1)), oo 26 (.mov (.t 2)), oo 27 (.call ki [(.t 23), (.t 24), (.t 25), (.t 26)])]) (tQ sz ag ki kz)))))⟩
def OE (sz : Nat) (ag : Bool) (kt : Nat) : AFn := ⟨9, 2, [], (.ops [oo 4 (.mov (.t 0)), oo 5 (.mov (.t 0)), oo 6 (.len (.t 5)), oo 7 (.mov (.t 1)), oo 8 (.call kt [(.t 4), (.t 6), (.t 7)])])⟩
section
variable {β : Type} [Inhabited β] {c : β → β → Int}
theorem BI (O : Stab.Ord c) {d : Array β} {j : Nat} (hj : j + 1 < d.size) (hc : c d[j + 1]! d[j]! < 0) : Stab.Keeps c d.toList (swp d (j + 1) j).toList := by
  obtain ⟨l⟩ := d
  simp only [List.size_toArray] at hj
  obtain ⟨p, x, y, r, rfl, rfl⟩ : ∃ p x y r, l = p ++ x :: y :: r ∧ p.length = j := by
    refine ⟨l.take j, l[j], l[j + 1], l.drop (j + 2), ?_, by rw [List.length_take]; omega⟩
    rw [← List.drop_eq_getElem_cons hj, ← List.drop_eq_getElem_cons (by omega : j < l.length), List.take_append_drop]
  rw [Stab.swp_adj']
  have e1 : (p ++ x :: y :: r).toArray[p.length]! = x := iZ _ _ _
  have e2 : (p ++ x :: y :: r).toArray[p.length + 1]! = y := by
    have := iZ (p ++ [x]) r y
    simpa using this
  rw [e1, e2] at hc
  have := Stab.Keeps.app (Stab.Keeps.refl (c := c) p) (Stab.Keeps.app (Stab.Keeps.swap [x] [y] O (fun a ha b hb => by rw [List.mem_singleton.1 ha, List.mem_singleton.1 hb]; exact hc)) (Stab.Keeps.refl (c := c) r))
  simpa using this
theorem gM (O : Stab.Ord c) (a : Nat) : ∀ (j : Nat) (d : Array β), j < d.size → Stab.Keeps c d.toList (insInner (ltC c) a j d).toList ∧ (insInner (ltC c) a j d).size = d.size
  | 0, d, h => ⟨Stab.Keeps.refl _, rfl⟩
  | j + 1, d, h => by
    rw [insInner]
    split
    · rename_i hh
      simp only [Bool.and_eq_true, decide_eq_true_eq] at hh
      obtain ⟨h1, h2⟩ := gM O a j (swp d (j + 1) j) (by rw [swp_size']; omega)
      exact ⟨(BI O h (uY.1 hh.2)).trans h1, by rw [h2, swp_size']⟩
    · exact ⟨Stab.Keeps.refl _, rfl⟩
theorem mF (O : Stab.Ord c) (a b : Nat) : ∀ (n i : Nat) (d : Array β), b - i ≤ n → b ≤ d.size → Stab.Keeps c d.toList (insOuter (ltC c) a b i d).toList := by
  intro n
  induction n with
  | zero => intro i d h1 h2; rw [insOuter, if_neg (by omega)]; exact Stab.Keeps.refl _
  | succ n ih =>
    intro i d h1 h2
    rw [insOuter]
    split
    · obtain ⟨h3, h4⟩ := gM O a i d (by omega)
      exact h3.trans (ih _ _ (by omega) (by rw [h4]; exact h2))
    · exact Stab.Keeps.refl _
theorem BJ {p x x' r : List β} (h : Stab.Keeps c (p ++ x ++ r) (p ++ x' ++ r)) : Stab.Keeps c x x' := by
  refine ⟨?_, fun z => ?_⟩
  · have := h.1; simp only [List.length_append] at this; omega
  · have := h.2 z
    simp only [List.filter_append] at this
    exact List.append_cancel_left (List.append_cancel_right this)
theorem vA (O : Stab.Ord c) (p x r : List β) : ∃ x', insertionSort (ltC c) (p ++ x ++ r).toArray p.length (p.length + x.length) = (p ++ x' ++ r).toArray ∧ Stab.Srt c x' ∧ Stab.Keeps c x x' := by
  have hb : p.length + x.length ≤ (p ++ x ++ r).toArray.size := by simp
  obtain ⟨h1, h2⟩ := insertionSort_holds (JJ O) (p ++ x ++ r).toArray p.length (p.length + x.length) (by omega) hb
  have hk := mF O p.length (p.length + x.length) _ (p.length + 1) (p ++ x ++ r).toArray (Nat.le_refl _) hb
  change Stab.Keeps c _ (insertionSort (ltC c) (p ++ x ++ r).toArray p.length (p.length + x.length)).toList at hk
  generalize insertionSort (ltC c) (p ++ x ++ r).toArray p.length (p.length + x.length) = d at h1 h2 hk
  obtain ⟨l⟩ := d
  have hl : l.length = (p ++ x ++ r).length := by have := h1.1; simpa using this
  have hg : ∀ i (hi : i < l.length), (i < p.length ∨ p.length + x.length ≤ i) → l[i] = (p ++ x ++ r)[i]'(by omega) := fun i hi hh => by
    have := h1.2.1 i hh
    rw [getElem!_pos _ _ (by simpa using hi), getElem!_pos _ _ (by simp only [List.size_toArray]; omega)] at this
    simpa using this
  simp only [List.length_append] at hl
  have hp : l.take p.length = p := List.ext_getElem (by simp; omega) fun i h3 h4 => by
    rw [List.getElem_take, hg i (by omega) (.inl h4)]
    simp [List.getElem_append, h4]
  have hr : l.drop (p.length + x.length) = r := List.ext_getElem (by simp; omega) fun i h3 h4 => by
    rw [List.length_drop] at h3
    rw [List.getElem_drop, hg _ (by omega) (.inr (by omega)), List.getElem_append_right (by simp)]
    congr 1; simp
  obtain ⟨x', hx'⟩ : ∃ x', l = p ++ x' ++ r ∧ x'.length = x.length := by
    refine ⟨(l.drop p.length).take x.length, ?_, by simp; omega⟩
    conv => lhs; rw [← List.take_append_drop p.length l, hp, ← List.take_append_drop x.length (l.drop p.length), List.drop_drop, hr, ← List.append_assoc]
  obtain ⟨rfl, hxl⟩ := hx'
  refine ⟨x', rfl, ?_, BJ hk⟩
  refine List.pairwise_iff_getElem.2 fun i j hi hj hij => ?_
  have := h2 (p.length + i) (p.length + j) (by omega) (by omega) (by omega)
  rw [jA p x' r hi, jA p x' r hj, iC] at this
  have e := O.sw x'[i] x'[j]
  omega
end
section
variable {β : Type} [Inhabited β] {enc : β → AV} {sz t : Nat} {H : AH} {P : Program} {c : β → β → Int} {ag : Bool} {k : FuncId} {as0 bs : List AV} {kr kw kz ki : FuncId}
structure Sta (P : Program) (sz : Nat) (ag : Bool) (ki kr kw kz : FuncId) : Prop where
  ins : aD P ki = some (JH sz ag)
  swr : aD P kw = some (JI sz ag)
  rot : aD P kr = some (LJ sz ag kw)
  sym : aD P kz = some (SP sz ag kr kz)
theorem BK (D : Sta P sz ag ki kr kw kz) (E : cY P enc c sz ag k as0 bs) (O : Stab.Ord c) (h : t < H.length) {m cp : Nat} {ex : Bool} (hs : m < 1099511627776) (p x y r : List β) (hm : m = (p ++ x ++ y ++ r).length) (hx : 0 < x.length) (hy : 0 < y.length) (sx : Stab.Srt c x) (sy : Stab.Srt c y) {a q b : Nat} (ha : a = p.length) (hq : q = p.length + x.length) (hb : b = p.length + x.length + y.length) :
    aC P kz [.ref sz t 0 m cp ex, .int .i64 a, .int .i64 q, .int .i64 b, .fn k as0 bs] (LH enc sz t H (p ++ x ++ y ++ r)) fun _ H' => ∃ z, Stab.Srt c z ∧ Stab.Keeps c (x ++ y) z ∧ H' = LH enc sz t H (p ++ z ++ r) :=
  (GD D.sym D.rot D.swr E O h hs (x.length + y.length + 1) p x y r (by omega) hm hx hy sx sy a q b ha (by rw [List.length_append]; exact hq) (by rw [List.length_append, List.length_append]; exact hb)).mono fun _ H' ⟨z, h1, h2⟩ => ⟨z, h1.1, h1.2, h2⟩
theorem vB {p x x' r : List β} (h : Stab.Keeps c x x') : Stab.Keeps c (p ++ x ++ r) (p ++ x' ++ r) := Stab.Keeps.app (Stab.Keeps.app (Stab.Keeps.refl p) h) (Stab.Keeps.refl r)
theorem BL (D : Sta P sz ag ki kr kw kz) (E : cY P enc c sz ag k as0 bs) (O : Stab.Ord c) (h : t < H.length) (l : List β) {m cp : Nat} {ex : Bool} (hm : m = l.length) (hs : m < 1099511627776) {f : AF} {Q : AE → AF → AH → Prop}
    (e0 : f 0 = .ref sz t 0 m cp ex) (e1 : f 1 = .int .i64 m) (e2 : f 2 = .fn k as0 bs) (e6 : f 6 = .int .i64 20) (e7 : f 7 = .int .i64 0) (e8 : f 8 = .int .i64 20)
    (hQ : ∀ (f : AF) (p r : List β), Stab.Full c 20 p → Stab.Keeps c l (p ++ r) → f 0 = .ref sz t 0 m cp ex → f 1 = .int .i64 m → f 2 = .fn k as0 bs → f 6 = .int .i64 20 → f 7 = .int .i64 p.length → r.length < 20 → Q .normal f (LH enc sz t H (p ++ r))) :
    (oK sz ag ki kz).wp P Q f (LH enc sz t H l) := by
  unfold oK
  simp only [push_cast, ↓reduceIte, Nat.reduceEqDiff, reduceCtorEq, Nat.reduceAdd, Nat.reduceLT, Nat.reduceLeDiff]
  refine aI (fun (s : List β × List β) f H' => H' = LH enc sz t H (s.1 ++ s.2) ∧ Stab.Full c 20 s.1 ∧ Stab.Keeps c l (s.1 ++ s.2) ∧ f 0 = .ref sz t 0 m cp ex ∧ f 1 = .int .i64 m ∧ f 2 = .fn k as0 bs ∧ f 6 = .int .i64 20 ∧ f 7 = .int .i64 s.1.length ∧ f 8 = .int .i64 ((s.1.length + 20 : Nat) : Int)) (fun s => s.2.length) ([], l) ⟨by simp, .nil, Stab.Keeps.refl _, e0, e1, e2, e6, e7, by simpa using e8⟩ ?_
  rintro ⟨p, r⟩ f H' ⟨rfl, h1, h2, e0, e1, e2, e6, e7, e8⟩
  dsimp only at h1 h2 e7 e8 ⊢
  have hlen := h2.1
  rw [List.length_append] at hlen
  have hm2 : m = p.length + r.length := hm.trans hlen
  by_cases hle : p.length + 20 ≤ m
  · have hle' : ((p.length + 20 : Nat) : Int) ≤ m := by omega
    obtain ⟨x, r2, rfl, hx⟩ : ∃ x r2, r = x ++ r2 ∧ x.length = 20 := ⟨r.take 20, r.drop 20, (List.take_append_drop _ _).symm, by rw [List.length_take]; omega⟩
    obtain ⟨x', g1, g2, g3⟩ := vA O p x r2
    have hx' : x'.length = 20 := by rw [← g3.1]; exact hx
    have hq : p.length + x.length = p.length + 20 := by omega
    have hi := nO D.ins E h (p ++ x ++ r2).toArray (m := m) (cp := cp) (ex := ex) (by rw [List.size_toArray, List.length_append, List.length_append]; rw [List.length_append] at hm2; omega) hs p.length (p.length + x.length) (by omega) (by omega)
    rw [g1] at hi
    rw [hq] at hi
    have w1 : IntKind.i64.wrap (((p.length + 20 : Nat) : Int) + 20) = ((p.length + 20 : Nat) : Int) + 20 := aE (by omega) (by omega)
    generalize hB : p.length + 20 = B at hle' e8 hi w1
    rw [show p ++ (x ++ r2) = p ++ x ++ r2 by simp]
    simp only [push_cast, ↓reduceIte, Nat.reduceEqDiff, reduceCtorEq, Nat.reduceAdd, Nat.reduceLT, Nat.reduceLeDiff, e0, e1, e2, e6, e7, e8, hle', decide_true]
    refine aC.mono hi fun _ H' hh => ?_
    subst hh
    simp only [push_cast, ↓reduceIte, Nat.reduceEqDiff, reduceCtorEq, Nat.reduceAdd, Nat.reduceLT, Nat.reduceLeDiff, e0, e1, e2, e6, e7, e8, w1]
    have hk : Stab.Keeps c l (p ++ x' ++ r2) := h2.trans (by
      have := vB (p := p) (r := r2) g3
      simpa using this)
    exact ⟨(p ++ x', r2), ⟨rfl, .snoc p x' h1 hx' g2, hk, by show (B : Int) = ((p ++ x').length : Nat); rw [List.length_append]; omega, by show (B : Int) + 20 = (((p ++ x').length + 20 : Nat) : Int); rw [List.length_append]; omega⟩, by show r2.length < x.length + r2.length; omega⟩
  · have hle' : ¬ ((p.length + 20 : Nat) : Int) ≤ m := by omega
    generalize hB : p.length + 20 = B at hle' e8
    simp only [push_cast, ↓reduceIte, Nat.reduceEqDiff, reduceCtorEq, Nat.reduceAdd, Nat.reduceLT, Nat.reduceLeDiff, e0, e1, e2, e6, e7, e8, hle', decide_false]
    refine hQ _ p r h1 h2 ?_ ?_ ?_ ?_ ?_ (by omega) <;> simp only [push_cast, ↓reduceIte, Nat.reduceEqDiff, reduceCtorEq, Nat.reduceAdd, Nat.reduceLT, Nat.reduceLeDiff, e0, e1, e2, e6, e7]
theorem BM (D : Sta P sz ag ki kr kw kz) (E : cY P enc c sz ag k as0 bs) (O : Stab.Ord c) (h : t < H.length) (l : List β) {m cp b : Nat} {ex : Bool} (hm : m = l.length) (hs : m < 1099511627776) (hb0 : 0 < b) (hbm : b < m) (hB : Stab.Blk c b l) {f : AF} {Q : AE → AF → AH → Prop}
    (e0 : f 0 = .ref sz t 0 m cp ex) (e1 : f 1 = .int .i64 m) (e2 : f 2 = .fn k as0 bs) (e6 : f 6 = .int .i64 b) (e7 : f 7 = .int .i64 0) (e8 : f 8 = .int .i64 ((2 * b : Nat) : Int))
    (hQ : ∀ (f : AF) (p r : List β), Stab.Full c (2 * b) p → Stab.Blk c b r → r.length < 2 * b → Stab.Keeps c l (p ++ r) → f 0 = .ref sz t 0 m cp ex → f 1 = .int .i64 m → f 2 = .fn k as0 bs → f 6 = .int .i64 b → f 7 = .int .i64 p.length → Q .normal f (LH enc sz t H (p ++ r))) :
    (tP sz ag ki kz).wp P Q f (LH enc sz t H l) := by
  unfold tP
  simp only [push_cast, ↓reduceIte, Nat.reduceEqDiff, reduceCtorEq, Nat.reduceAdd, Nat.reduceLT, Nat.reduceLeDiff]
  refine aI (fun (s : List β × List β) f H' => H' = LH enc sz t H (s.1 ++ s.2) ∧ Stab.Full c (2 * b) s.1 ∧ Stab.Blk c b s.2 ∧ Stab.Keeps c l (s.1 ++ s.2) ∧ f 0 = .ref sz t 0 m cp ex ∧ f 1 = .int .i64 m ∧ f 2 = .fn k as0 bs ∧ f 6 = .int .i64 b ∧ f 7 = .int .i64 s.1.length ∧ f 8 = .int .i64 ((s.1.length + 2 * b : Nat) : Int)) (fun s => s.2.length) ([], l) ⟨by simp, .nil, hB, Stab.Keeps.refl _, e0, e1, e2, e6, e7, by simpa using e8⟩ ?_
  rintro ⟨p, r⟩ f H' ⟨rfl, h1, h1b, h2, e0, e1, e2, e6, e7, e8⟩
  dsimp only at h1 h1b h2 e7 e8 ⊢
  have hlen := h2.1
  rw [List.length_append] at hlen
  have hm2 : m = p.length + r.length := hm.trans hlen
  by_cases hle : p.length + 2 * b ≤ m
  · have hle' : ((p.length + 2 * b : Nat) : Int) ≤ m := by omega
    obtain ⟨x, r1, rfl, hx, sx, hr1⟩ := h1b.split (by omega)
    rw [List.length_append] at hm2
    obtain ⟨y, r2, rfl, hy, sy, hr2⟩ := hr1.split (by omega)
    rw [List.length_append] at hm2
    have hsm := BK D E O h (cp := cp) (ex := ex) hs p x y r2 (by simp only [List.length_append]; omega) (by omega) (by omega) sx sy (a := p.length) (q := p.length + b) (b := p.length + 2 * b) rfl (by omega) (by omega)
    have w1 : IntKind.i64.wrap ((p.length : Int) + b) = ((p.length + b : Nat) : Int) := aX (by omega) (by omega)
    have w2 : IntKind.i64.wrap (2 * (b : Int)) = ((2 * b : Nat) : Int) := aX (by omega) (by omega)
    have w3 : IntKind.i64.wrap (((p.length + 2 * b : Nat) : Int) + ((2 * b : Nat) : Int)) = ((p.length + 2 * b + 2 * b : Nat) : Int) := aX (by omega) (by omega)
    have hN : ((p.length + 2 * b + 2 * b : Nat) : Int) = ((p.length + 2 * b + 2 * b : Nat) : Int) := rfl
    generalize hb2 : 2 * b = b2 at *
    generalize hB2 : p.length + b2 = B at *
    generalize hB3 : B + b2 = B3 at *
    generalize hq : p.length + b = qq at *
    rw [show p ++ (x ++ (y ++ r2)) = p ++ x ++ y ++ r2 by simp]
    simp only [push_cast, ↓reduceIte, Nat.reduceEqDiff, reduceCtorEq, Nat.reduceAdd, Nat.reduceLT, Nat.reduceLeDiff, e0, e1, e2, e6, e7, e8, hle', decide_true, w1]
    refine aC.mono hsm fun _ H' ⟨z, g1, g2, hh⟩ => ?_
    subst hh
    simp only [push_cast, ↓reduceIte, Nat.reduceEqDiff, reduceCtorEq, Nat.reduceAdd, Nat.reduceLT, Nat.reduceLeDiff, e0, e1, e2, e6, e7, e8, w2, w3]
    have hz : z.length = b2 := by have := g2.1; rw [List.length_append] at this; omega
    have hk : Stab.Keeps c l (p ++ z ++ r2) := h2.trans (by
      have := vB (p := p) (r := r2) g2
      simpa using this)
    exact ⟨(p ++ z, r2), ⟨rfl, .snoc p z h1 hz g1, hr2, hk, by show (B : Int) = ((p ++ z).length : Nat); rw [List.length_append]; omega, by show (B3 : Int) = (((p ++ z).length + b2 : Nat) : Int); rw [List.length_append]; omega⟩, by show r2.length < x.length + (y.length + r2.length); omega⟩
  · have hle' : ¬ ((p.length + 2 * b : Nat) : Int) ≤ m := by omega
    generalize hB2 : p.length + 2 * b = B at hle' e8
    simp only [push_cast, ↓reduceIte, Nat.reduceEqDiff, reduceCtorEq, Nat.reduceAdd, Nat.reduceLT, Nat.reduceLeDiff, e0, e1, e2, e6, e7, e8, hle', decide_false]
    refine hQ _ p r h1 h1b (by omega) h2 ?_ ?_ ?_ ?_ ?_ <;> simp only [push_cast, ↓reduceIte, Nat.reduceEqDiff, reduceCtorEq, Nat.reduceAdd, Nat.reduceLT, Nat.reduceLeDiff, e0, e1, e2, e6, e7]
theorem GS {n : FuncId} (hc : aD P n = some (JK sz ag ki kz)) (D : Sta P sz ag ki kr kw kz) (E : cY P enc c sz ag k as0 bs) (O : Stab.Ord c) (h : t < H.length) (l : List β) {m cp : Nat} {ex : Bool} (hm : m = l.length) (hs : m < 1099511627776) :
    aC P n [.ref sz t 0 m cp ex, .int .i64 m, .fn k as0 bs] (LH enc sz t H l) fun _ H' => H' = LH enc sz t H (Stab.sortS c l) := by
  refine aC.mono (R := fun _ H' => ∃ z, Stab.Srt c z ∧ Stab.Keeps c l z ∧ H' = LH enc sz t H z) ?_ fun _ H' ⟨z, h1, h2, h3⟩ => by rw [h3, Stab.sortS_unique O h1 h2]
  refine aU hc (by simp [JK]) ?_
  unfold JK
  simp only [push_cast, ↓reduceIte, Nat.reduceEqDiff, reduceCtorEq, Nat.reduceAdd, Nat.reduceLT, Nat.reduceLeDiff]
  refine BL D E O h l hm hs (cp := cp) (ex := ex) ?_ ?_ ?_ ?_ ?_ ?_ fun f p r h1 h2 e0 e1 e2 e6 e7 h3 => ?_
  all_goals first | (simp only [push_cast, ↓reduceIte, Nat.reduceEqDiff, reduceCtorEq, Nat.reduceAdd, Nat.reduceLT, Nat.reduceLeDiff]; done) | skip
  have hlen := h2.1
  rw [List.length_append] at hlen
  have hm2 : m = p.length + r.length := hm.trans hlen
  obtain ⟨r', g1, g2, g3⟩ := vA O p r []
  simp only [List.append_nil] at g1
  have hi := nO D.ins E h (p ++ r).toArray (m := m) (cp := cp) (ex := ex) (by rw [List.size_toArray, List.length_append]; exact hm2) hs p.length (p.length + r.length) (by omega) (by omega)
  rw [g1, ← hm2] at hi
  simp only [push_cast, ↓reduceIte, Nat.reduceEqDiff, reduceCtorEq, Nat.reduceAdd, Nat.reduceLT, Nat.reduceLeDiff, e0, e1, e2, e6, e7]
  refine aC.mono hi fun _ H' hh => ?_
  subst hh
  have hr' : r'.length = r.length := g3.1.symm
  have hB : Stab.Blk c 20 (p ++ r') := h1.blk r' (.last r' (by omega) g2)
  have hK : Stab.Keeps c l (p ++ r') := h2.trans (Stab.Keeps.app (Stab.Keeps.refl p) g3)
  generalize p ++ r' = l1 at hB hK
  simp only [push_cast, ↓reduceIte, Nat.reduceEqDiff, reduceCtorEq, Nat.reduceAdd, Nat.reduceLT, Nat.reduceLeDiff, e0, e1, e2, e6, e7]
  unfold tQ
  simp only [push_cast, ↓reduceIte, Nat.reduceEqDiff, reduceCtorEq, Nat.reduceAdd, Nat.reduceLT, Nat.reduceLeDiff]
  refine aI (fun (s : Nat × List β) f H' => H' = LH enc sz t H s.2 ∧ Stab.Blk c s.1 s.2 ∧ Stab.Keeps c l s.2 ∧ 0 < s.1 ∧ s.1 ≤ 2 * m + 20 ∧ f 0 = .ref sz t 0 m cp ex ∧ f 1 = .int .i64 m ∧ f 2 = .fn k as0 bs ∧ f 6 = .int .i64 s.1) (fun s => m - s.1) (20, l1) ⟨rfl, hB, hK, by omega, by dsimp only; omega, by simp only [push_cast, ↓reduceIte, Nat.reduceEqDiff, reduceCtorEq, Nat.reduceAdd, Nat.reduceLT, Nat.reduceLeDiff, e0], by simp only [push_cast, ↓reduceIte, Nat.reduceEqDiff, reduceCtorEq, Nat.reduceAdd, Nat.reduceLT, Nat.reduceLeDiff, e1], by simp only [push_cast, ↓reduceIte, Nat.reduceEqDiff, reduceCtorEq, Nat.reduceAdd, Nat.reduceLT, Nat.reduceLeDiff, e2], by simp only [push_cast, ↓reduceIte, Nat.reduceEqDiff, reduceCtorEq, Nat.reduceAdd, Nat.reduceLT, Nat.reduceLeDiff, e6]⟩ ?_
  rintro ⟨b, l2⟩ f H' ⟨rfl, h1, h2, h3, h4, e0, e1, e2, e6⟩
  dsimp only at h1 h2 h3 h4 e6 ⊢
  have hl2 : m = l2.length := hm.trans h2.1
  by_cases hbm : b < m
  · have hbm' : (b : Int) < m := by omega
    have w1 : IntKind.i64.wrap (2 * (b : Int)) = ((2 * b : Nat) : Int) := aX (by omega) (by omega)
    have w2 : IntKind.i64.wrap ((b : Int) * 2) = ((2 * b : Nat) : Int) := aX (by omega) (by omega)
    generalize hb2 : 2 * b = b2 at w1 w2
    simp only [push_cast, ↓reduceIte, Nat.reduceEqDiff, reduceCtorEq, Nat.reduceAdd, Nat.reduceLT, Nat.reduceLeDiff, e0, e1, e2, e6, hbm', decide_true, w1]
    refine BM D E O h l2 hl2 hs (cp := cp) (ex := ex) h3 hbm h1 ?_ ?_ ?_ ?_ ?_ ?_ fun f p r h5 h6 h7 h8 e0 e1 e2 e6 e7 => ?_
    all_goals first | (simp only [push_cast, ↓reduceIte, Nat.reduceEqDiff, reduceCtorEq, Nat.reduceAdd, Nat.reduceLT, Nat.reduceLeDiff, e0, e1, e2, e6, w1, hb2]; done) | skip
    have hlen := h8.1
    rw [List.length_append] at hlen
    have hm3 : m = p.length + r.length := hl2.trans hlen
    have w3 : IntKind.i64.wrap ((p.length : Int) + b) = ((p.length + b : Nat) : Int) := aX (by omega) (by omega)
    have fin : ∀ z : List β, Stab.Srt c z → Stab.Keeps c r z → ∃ s' : Nat × List β, (LH enc sz t H (p ++ z) = LH enc sz t H s'.2 ∧ Stab.Blk c s'.1 s'.2 ∧ Stab.Keeps c l s'.2 ∧ 0 < s'.1 ∧ s'.1 ≤ 2 * m + 20 ∧ (b2 : Int) = s'.1) ∧ m - s'.1 < m - b := fun z q1 q2 => by
      refine ⟨(b2, p ++ z), ⟨rfl, ?_, (h2.trans h8).trans (Stab.Keeps.app (Stab.Keeps.refl p) q2), by show 0 < b2; omega, by show b2 ≤ 2 * m + 20; omega, rfl⟩, by show m - b2 < m - b; omega⟩
      rw [← hb2]
      exact h5.blk z (.last z (by have := q2.1; omega) q1)
    by_cases hlt : p.length + b < m
    · obtain ⟨x, y, rfl, hx, sx, hy⟩ := h6.split (by omega)
      rw [List.length_append] at h7 hm3
      have sy := hy.whole (by omega)
      have hsm := BK D E O h (cp := cp) (ex := ex) hs p x y [] (by simp only [List.length_append, List.length_nil]; omega) (by omega) (by omega) sx sy (a := p.length) (q := p.length + b) (b := m) rfl (by omega) (by omega)
      have hlt' : ((p.length + b : Nat) : Int) < m := by omega
      simp only [List.append_nil] at hsm
      rw [← List.append_assoc]
      generalize hqq : p.length + b = qq at w3 hlt' hsm
      simp only [push_cast, ↓reduceIte, Nat.reduceEqDiff, reduceCtorEq, Nat.reduceAdd, Nat.reduceLT, Nat.reduceLeDiff, e0, e1, e2, e6, e7, w3, hlt', decide_true]
      refine aC.mono hsm fun _ H' ⟨z, q1, q2, hh⟩ => ?_
      subst hh
      simp only [push_cast, ↓reduceIte, Nat.reduceEqDiff, reduceCtorEq, Nat.reduceAdd, Nat.reduceLT, Nat.reduceLeDiff, e0, e1, e2, e6, w2]
      exact fin z q1 q2
    · have hlt' : ¬ ((p.length + b : Nat) : Int) < m := by omega
      generalize hqq : p.length + b = qq at w3 hlt'
      simp only [push_cast, ↓reduceIte, Nat.reduceEqDiff, reduceCtorEq, Nat.reduceAdd, Nat.reduceLT, Nat.reduceLeDiff, e0, e1, e2, e6, e7, w3, hlt', decide_false, w2]
      exact fin r (h6.whole (by omega)) (Stab.Keeps.refl _)
  · have hbm' : ¬ (b : Int) < m := by omega
    simp only [push_cast, ↓reduceIte, Nat.reduceEqDiff, reduceCtorEq, Nat.reduceAdd, Nat.reduceLT, Nat.reduceLeDiff, e0, e1, e2, e6, hbm', decide_false]
    exact ⟨l2, h1.whole (by omega), h2, rfl⟩
theorem tS {n kt : FuncId} (hc : aD P n = some (OE sz ag kt)) (ht : aD P kt = some (JK sz ag ki kz)) (D : Sta P sz ag ki kr kw kz) (E : cY P enc c sz ag k as0 bs) (O : Stab.Ord c) {H : AH} {l : List β} (ho : obj? H t = some (sz, l.map enc)) {cp : Nat} {ex : Bool} (hs : l.length < 1099511627776) :
    aC P n [.ref sz t 0 l.length cp ex, .fn k as0 bs] H fun _ H' => H' = List.set H t (.live sz ((Stab.sortS c l).map enc)) := by
  have hlt := aY ho
  have h1 := GS (cp := cp) (ex := ex) ht D E O hlt l rfl hs
  rw [LK ho, UA] at h1
  refine aU hc (by simp [OE]) ?_
  unfold OE
  simp only [push_cast, ↓reduceIte, Nat.reduceEqDiff, reduceCtorEq, Nat.reduceAdd, Nat.reduceLT, Nat.reduceLeDiff]
  refine aC.mono h1 fun _ H' hh => ?_
  subst hh
  simp only [push_cast, ↓reduceIte, Nat.reduceEqDiff, reduceCtorEq, Nat.reduceAdd, Nat.reduceLT, Nat.reduceLeDiff]
end
end Go.Eng
end
section
namespace Go.Eng
open Go Go.Eng Go.Proofs
set_option linter.unusedSimpArgs false
def UB : AFn := ⟨6, 1, [.t 2], (.seq (.ops [oo 2 (.mov (.v (.bool false)))]) (.seq (.ops [oo 3 (.mov (.t 0)), oo 4 (.mov (.t 0)), oo 5 (.bin .neq (.t 3) (.t 4)), oo 2 (.mov (.t 5))]) .ret))⟩
theorem WH : aD Tryz.prog 135 = some UB := by kernel_rfl
def UC : AFn := ⟨20, 2, [.t 4], (.seq (.ops [oo 4 (.mov (.v (.int .i64 0)))]) (.seq (.ops [oo 7 (.mov (.t 0)), oo 8 (.call 135 [(.t 7)]), oo 5 (.mov (.t 8))]) (.seq (.ops [oo 9 (.mov (.t 1)), oo 10 (.call 135 [(.t 9)]), oo 6 (.mov (.t 10))]) (.seq (.seq (.ops [oo 11 (.mov (.t 5))]) (.cond (.t 11) (.seq (.seq (.ops [oo 12 (.mov (.t 6))]) (.cond (.t 12) (.seq (.ops [oo 4 (.mov (.v (.int .i64 0)))]) .ret) .skip)) (.seq (.ops [oo 4 (.mov (.v (.int .i64 (-1))))]) .ret)) .skip)) (.seq (.seq (.ops [oo 13 (.mov (.t 6))]) (.cond (.t 13) (.seq (.ops [oo 4 (.mov (.v (.int .i64 1)))]) .ret) .skip)) (.seq (.seq (.ops [oo 14 (.mov (.t 0)), oo 15 (.mov (.t 1)), oo 16 (.bin .lss (.t 14) (.t 15))]) (.cond (.t 16) (.seq (.ops [oo 4 (.mov (.v (.int .i64 (-1))))]) .ret) .skip)) (.seq (.seq (.ops [oo 17 (.mov (.t 0)), oo 18 (.mov (.t 1)), oo 19 (.bin .gtr (.t 17) (.t 18))]) (.cond (.t 19) (.seq (.ops [oo 4 (.mov (.v (.int .i64 1)))]) .ret) .skip)) (.seq (.ops [oo 4 (.mov (.v (.int .i64 0)))]) .ret))))))))⟩
theorem WI : aD Tryz.prog 121 = some UC := by kernel_rfl
theorem BN (a : Int) (k : IntKind) (H : AH) : aC Tryz.prog 135 [.int k a] H fun x H' => x = .bool false ∧ H' = H := by
  refine aU WH (by simp [UB]) ?_
  unfold UB
  simp only [push_cast, ↓reduceIte, Nat.reduceEqDiff, reduceCtorEq, Nat.reduceAdd, Nat.reduceLT, Nat.reduceLeDiff]
theorem iL (a b : Int) (H : AH) : aC Tryz.prog 121 [.int .i64 a, .int .i64 b] H fun x H' => x = .int .i64 (if a < b then -1 else if b < a then 1 else 0) ∧ H' = H := by
  refine aU WI (by simp [UC]) ?_
  unfold UC
  simp only [push_cast, ↓reduceIte, Nat.reduceEqDiff, reduceCtorEq, Nat.reduceAdd, Nat.reduceLT, Nat.reduceLeDiff]
  (refine aC.look (BN a .i64 H) ?_; try simp only [push_cast, ↓reduceIte, Nat.reduceEqDiff, reduceCtorEq, Nat.reduceAdd, Nat.reduceLT, Nat.reduceLeDiff, aB, aA])
  (refine aC.look (BN b .i64 _) ?_; try simp only [push_cast, ↓reduceIte, Nat.reduceEqDiff, reduceCtorEq, Nat.reduceAdd, Nat.reduceLT, Nat.reduceLeDiff, aB, aA])
  refine pS (fun h => ?_) fun h => pS (fun h2 => ?_) fun h2 => ?_ <;> simp_all <;> omega
structure Val where
  f0 : Int
  f1 : Int
  f2 : ByteArray
def eC (a : Val) : AV := .agg [.int .i64 a.f0, .int .i64 a.f1, .str a.f2]
def jU (x y : Int) : Int := if x < y then -1 else if y < x then 1 else 0
def BO (x y : ByteArray) : Int := if Op.bytesLess x.toList y.toList = true then -1 else if Op.bytesLess y.toList x.toList = true then 1 else 0
def UD : AFn := ⟨6, 1, [.t 2], (.seq (.ops [oo 2 (.mov (.v (.bool false)))]) (.seq (.ops [oo 3 (.mov (.t 0)), oo 4 (.mov (.t 0)), oo 5 (.bin .neq (.t 3) (.t 4)), oo 2 (.mov (.t 5))]) .ret))⟩
theorem WJ : aD Tryz.prog 136 = some UD := by kernel_rfl
def UE : AFn := ⟨20, 2, [.t 4], (.seq (.ops [oo 4 (.mov (.v (.int .i64 0)))]) (.seq (.ops [oo 7 (.mov (.t 0)), oo 8 (.call 136 [(.t 7)]), oo 5 (.mov (.t 8))]) (.seq (.ops [oo 9 (.mov (.t 1)), oo 10 (.call 136 [(.t 9)]), oo 6 (.mov (.t 10))]) (.seq (.seq (.ops [oo 11 (.mov (.t 5))]) (.cond (.t 11) (.seq (.seq (.ops [oo 12 (.mov (.t 6))]) (.cond (.t 12) (.seq (.ops [oo 4 (.mov (.v (.int .i64 0)))]) .ret) .skip)) (.seq (.ops [oo 4 (.mov (.v (.int .i64 (-1))))]) .ret)) .skip)) (.seq (.seq (.ops [oo 13 (.mov (.t 6))]) (.cond (.t 13) (.seq (.ops [oo 4 (.mov (.v (.int .i64 1)))]) .ret) .skip)) (.seq (.seq (.ops [oo 14 (.mov (.t 0)), oo 15 (.mov (.t 1)), oo 16 (.bin .lss (.t 14) (.t 15))]) (.cond (.t 16) (.seq (.ops [oo 4 (.mov (.v (.int .i64 (-1))))]) .ret) .skip)) (.seq (.seq (.ops [oo 17 (.mov (.t 0)), oo 18 (.mov (.t 1)), oo 19 (.bin .gtr (.t 17) (.t 18))]) (.cond (.t 19) (.seq (.ops [oo 4 (.mov (.v (.int .i64 1)))]) .ret) .skip)) (.seq (.ops [oo 4 (.mov (.v (.int .i64 0)))]) .ret))))))))⟩
theorem WK : aD Tryz.prog 122 = some UE := by kernel_rfl
theorem BP (a : ByteArray) (H : AH) : aC Tryz.prog 136 [.str a] H fun x H' => x = .bool false ∧ H' = H := by
  refine aU WJ (by simp [UD]) ?_
  unfold UD
  simp only [push_cast, ↓reduceIte, Nat.reduceEqDiff, reduceCtorEq, Nat.reduceAdd, Nat.reduceLT, Nat.reduceLeDiff]
theorem BQ (a b : ByteArray) (H : AH) : aC Tryz.prog 122 [.str a, .str b] H fun x H' => x = .int .i64 (BO a b) ∧ H' = H := by
  refine aU WK (by simp [UE]) ?_
  unfold UE
  simp only [push_cast, ↓reduceIte, Nat.reduceEqDiff, reduceCtorEq, Nat.reduceAdd, Nat.reduceLT, Nat.reduceLeDiff]
  (refine aC.look (BP a H) ?_; try simp only [push_cast, ↓reduceIte, Nat.reduceEqDiff, reduceCtorEq, Nat.reduceAdd, Nat.reduceLT, Nat.reduceLeDiff, aB, aA])
  (refine aC.look (BP b _) ?_; try simp only [push_cast, ↓reduceIte, Nat.reduceEqDiff, reduceCtorEq, Nat.reduceAdd, Nat.reduceLT, Nat.reduceLeDiff, aB, aA])
  unfold BO
  refine pS (fun h => ?_) fun h => pS (fun h2 => ?_) fun h2 => ?_ <;> simp_all
def gZ (a b : Val) : Int := if a.f0 = b.f0 then (if a.f0 = 0 then jU a.f1 b.f1 else if a.f0 = 1 then BO a.f2 b.f2 else 0) else jU a.f0 b.f0
def UF : AFn := ⟨31, 2, [.t 4], (.seq (.ops [oo 2 (.box 3 (.t 0)), oo 3 (.box 3 (.t 1)), oo 4 (.mov (.v (.int .i64 0)))]) (.seq (.seq (.ops [oo 5 (.faddr 0 (.t 2)), oo 6 (.load false 1 (.t 5)), oo 7 (.faddr 0 (.t 3)), oo 8 (.load false 1 (.t 7)), oo 9 (.bin .neq (.t 6) (.t 8))]) (.cond (.t 9) (.seq (.ops [oo 10 (.faddr 0 (.t 2)), oo 11 (.load false 1 (.t 10)), oo 12 (.faddr 0 (.t 3)), oo 13 (.load false 1 (.t 12)), oo 14 (.call 121 [(.t 11), (.t 13)]), oo 4 (.mov (.t 14))]) .ret) .skip)) (.seq (.seq (.ops [oo 15 (.faddr 0 (.t 2)), oo 16 (.load false 1 (.t 15))]) (.block 0 (.seq (.ops [oo 18 (.bin .eql (.t 16) (.v (.int .i64 0))), oo 17 (.mov (.t 18))]) (.cond (.t 17) (.seq (.ops [oo 19 (.faddr 1 (.t 2)), oo 20 (.load false 1 (.t 19)), oo 21 (.faddr 1 (.t 3)), oo 22 (.load false 1 (.t 21)), oo 23 (.call 121 [(.t 20), (.t 22)]), oo 4 (.mov (.t 23))]) .ret) (.seq (.ops [oo 25 (.bin .eql (.t 16) (.v (.int .i64 1))), oo 24 (.mov (.t 25))]) (.cond (.t 24) (.seq (.ops [oo 26 (.faddr 2 (.t 2)), oo 27 (.load false 1 (.t 26)), oo 28 (.faddr 2 (.t 3)), oo 29 (.load false 1 (.t 28)), oo 30 (.call 122 [(.t 27), (.t 29)]), oo 4 (.mov (.t 30))]) .ret) .skip)))))) (.seq (.ops [oo 4 (.mov (.v (.int .i64 0)))]) .ret))))⟩
theorem WL : aD Tryz.prog 113 = some UF := by kernel_rfl
theorem UG (a b : Val) (H : AH) : aC Tryz.prog 113 [eC a, eC b] H fun x H' => x = .int .i64 (gZ a b) ∧ H' = H := by
  refine aG WL (fun _ => rfl) (by simp [UF]) ?_
  unfold UF eC
  simp only [push_cast, ↓reduceIte, Nat.reduceEqDiff, reduceCtorEq, Nat.reduceAdd, Nat.reduceLT, Nat.reduceLeDiff, aB, aA]
  refine pS (fun h => pS (fun h1 => ?_) fun h1 => pS (fun h2 => ?_) fun h2 => ⟨by (repeat (first | exact List.prefix_refl _ | refine List.IsPrefix.trans ?_ (List.prefix_append _ _))), ?_⟩) fun h => ?_
  · (refine aC.look (iL _ _ _) ?_; try simp only [push_cast, ↓reduceIte, Nat.reduceEqDiff, reduceCtorEq, Nat.reduceAdd, Nat.reduceLT, Nat.reduceLeDiff, aB, aA])
    exact ⟨by (repeat (first | exact List.prefix_refl _ | refine List.IsPrefix.trans ?_ (List.prefix_append _ _))), by rw [gZ, if_pos h, if_pos h1]; rfl⟩
  · (refine aC.look (BQ _ _ _) ?_; try simp only [push_cast, ↓reduceIte, Nat.reduceEqDiff, reduceCtorEq, Nat.reduceAdd, Nat.reduceLT, Nat.reduceLeDiff, aB, aA])
    exact ⟨by (repeat (first | exact List.prefix_refl _ | refine List.IsPrefix.trans ?_ (List.prefix_append _ _))), by rw [gZ, if_pos h, if_neg h1, if_pos h2]⟩
  · rw [gZ, if_pos h, if_neg h1, if_neg h2]
  · (refine aC.look (iL _ _ _) ?_; try simp only [push_cast, ↓reduceIte, Nat.reduceEqDiff, reduceCtorEq, Nat.reduceAdd, Nat.reduceLT, Nat.reduceLeDiff, aB, aA])
    exact ⟨by (repeat (first | exact List.prefix_refl _ | refine List.IsPrefix.trans ?_ (List.prefix_append _ _))), by rw [gZ, if_neg h]; rfl⟩
def UH : AFn := ⟨39, 3, [.t 6], (.seq (.ops [oo 6 (.mov (.v (.int .i64 0)))]) (.seq (.seq (.ops [oo 11 (.mov (.t 0)), oo 12 (.len (.t 11)), oo 13 (.mov (.v (.int .i64 0)))]) (.block 0 (.loop (.seq (.ops [oo 14 (.bin .lss (.t 13) (.t 12))]) (.seq (.cond (.t 14) .skip (.exit 0)) (.seq (.block 1 (.seq (.ops [oo 15 (.mov (.t 13)), oo 16 (.iaddr 3 (.t 11) (.t 13)), oo 17 (.load true 3 (.t 16)), oo 8 (.alloc 3 (.agg [(.int .i64 0), (.int .i64 0), (.str ⟨#[]⟩)])), oo 7 (.mov (.t 15)), on (.store 3 (.t 8) (.t 17))]) (.seq (.seq (.ops [oo 18 (.mov (.t 7)), oo 19 (.mov (.t 1)), oo 20 (.len (.t 19)), oo 21 (.bin .geq (.t 18) (.t 20))]) (.cond (.t 21) (.seq (.ops [oo 6 (.mov (.v (.int .i64 1)))]) .ret) .skip)) (.seq (.ops [oo 22 (.mov (.t 1)), oo 23 (.mov (.t 7)), oo 24 (.iaddr 3 (.t 22) (.t 23)), oo 25 (.load true 3 (.t 24)), oo 9 (.alloc 3 (.agg [(.int .i64 0), (.int .i64 0), (.str ⟨#[]⟩)])), on (.store 3 (.t 9) (.t 25))]) (.seq (.ops [oo 26 (.mov (.t 2)), oo 27 (.load true 3 (.t 8)), oo 28 (.load true 3 (.t 9)), oo 29 (.callv (.t 26) [(.t 27), (.t 28)]), oo 10 (.mov (.t 29))]) (.seq (.ops [oo 30 (.mov (.t 10)), oo 31 (.bin .neq (.t 30) (.v (.int .i64 0)))]) (.cond (.t 31) (.seq (.ops [oo 32 (.mov (.t 10)), oo 6 (.mov (.t 32))]) .ret) .skip))))))) (.ops [oo 33 (.bin .add (.t 13) (.v (.int .i64 1))), oo 13 (.mov (.t 33))]))))))) (.seq (.seq (.ops [oo 34 (.mov (.t 0)), oo 35 (.len (.t 34)), oo 36 (.mov (.t 1)), oo 37 (.len (.t 36)), oo 38 (.bin .lss (.t 35) (.t 37))]) (.cond (.t 38) (.seq (.ops [oo 6 (.mov (.v (.int .i64 (-1))))]) .ret) .skip)) (.seq (.ops [oo 6 (.mov (.v (.int .i64 0)))]) .ret))))⟩
theorem WM : aD Tryz.prog 112 = some UH := by kernel_rfl
def bG : List Val → List Val → Int
  | [], [] => 0
  | [], _ :: _ => -1
  | _ :: _, [] => 1
  | a :: x, b :: y => if gZ a b = 0 then bG x y else gZ a b
theorem UI (x y : AV) (a b : List Val) (H : AH) (hx : elems 3 x H = some (a.map eC)) (hy : elems 3 y H = some (b.map eC)) (ha : a.length < 1099511627776) (hb : b.length < 1099511627776) : aC Tryz.prog 112 [x, y, .fn 113 [] []] H fun r H' => r = .int .i64 (bG a b) ∧ H' = H := by
  refine aG WM (fun _ => rfl) (by simp [UH]) ?_
  unfold UH
  have hlx := aL hx
  have hly := aL hy
  simp only [push_cast, ↓reduceIte, Nat.reduceEqDiff, reduceCtorEq, Nat.reduceAdd, Nat.reduceLT, Nat.reduceLeDiff, hlx, hly]
  refine aI (fun (i : Nat) f H' => H <+: H' ∧ i ≤ a.length ∧ i ≤ b.length ∧ f 13 = .int .i64 i ∧ f 11 = x ∧ f 12 = .int .i64 a.length ∧ f 0 = x ∧ f 1 = y ∧ f 2 = .fn 113 [] [] ∧ bG a b = bG (a.drop i) (b.drop i)) (fun i => a.length - i) 0 ?_ ?_
  · simp [zQ]
    exact ⟨rfl, rfl, rfl⟩
  · rintro i f H' ⟨hp, h1, h2, e13, e11, e12, e0, e1, e2, ho⟩
    have ax : i < a.length → aF 3 x (.int .i64 (i : Int)) = some (ptk x i 0) := fun h => aK hx (by simpa using h) _
    have ay : i < b.length → aF 3 y (.int .i64 (i : Int)) = some (ptk y i 0) := fun h => aK hy (by simpa using h) _
    have lx : ∀ h : i < a.length, (a.map eC)[i]? = some (eC a[i]) := fun h => by simp [h]
    have ly : ∀ h : i < b.length, (b.map eC)[i]? = some (eC b[i]) := fun h => by simp [h]
    by_cases hi : i < a.length
    · have hi' : (i : Int) < a.length := by omega
      by_cases hj : i < b.length
      · have hj' : ¬ (i : Int) ≥ b.length := by omega
        simp only [push_cast, ↓reduceIte, Nat.reduceEqDiff, reduceCtorEq, Nat.reduceAdd, Nat.reduceLT, Nat.reduceLeDiff, aB, aA, e13, e11, e12, e0, e1, e2, hlx, hly, List.length_map, hi', hj', ax hi, ay hj, aO hx (lx hi), aO hy (ly hj), aN, hp, eC]
        (refine aC.look (UG a[i] b[i] _) ?_; simp only [push_cast, ↓reduceIte, Nat.reduceEqDiff, reduceCtorEq, Nat.reduceAdd, Nat.reduceLT, Nat.reduceLeDiff, aB, aA, e13, e11, e12, e0, e1, e2])
        have hd : bG a b = bG (a[i] :: a.drop (i + 1)) (b[i] :: b.drop (i + 1)) := by
          rw [ho, List.drop_eq_getElem_cons hi, List.drop_eq_getElem_cons hj]
        refine pS (fun hc => ⟨i + 1, ⟨by (repeat (first | exact List.prefix_refl _ | refine List.IsPrefix.trans ?_ (List.prefix_append _ _))); exact hp, hi, hj, ?_, ?_⟩, by omega⟩) (fun hc => ⟨by (repeat (first | exact List.prefix_refl _ | refine List.IsPrefix.trans ?_ (List.prefix_append _ _))); exact hp, ?_⟩)
        · rw [aE (by omega) (by omega)]; simp
        · rw [hd, bG, if_pos (by simpa using hc)]
        · rw [hd, bG, if_neg hc]
      · have hj' : (i : Int) ≥ b.length := by omega
        simp only [push_cast, ↓reduceIte, Nat.reduceEqDiff, reduceCtorEq, Nat.reduceAdd, Nat.reduceLT, Nat.reduceLeDiff, aB, aA, e13, e11, e12, e0, e1, e2, hlx, hly, List.length_map, hi', hj', ax hi, aO hx (lx hi), aN, hp, eC]
        rw [ho, List.drop_eq_getElem_cons hi, List.drop_eq_nil_of_le (by omega : b.length ≤ i), bG]
    · have hi' : ¬ (i : Int) < a.length := by omega
      simp only [push_cast, ↓reduceIte, Nat.reduceEqDiff, reduceCtorEq, Nat.reduceAdd, Nat.reduceLT, Nat.reduceLeDiff, e13, e11, e12, e0, e1, e2, hlx, hly, List.length_map, hi', hp]
      rw [ho, List.drop_eq_nil_of_le (by omega : a.length ≤ i)]
      refine pS (fun h => ?_) (fun h => ?_)
      · rw [List.drop_eq_getElem_cons (by omega : i < b.length), bG]
      · rw [List.drop_eq_nil_of_le (by omega : b.length ≤ i), bG]
def F90 : AFn := ⟨8, 2, [.t 4], (.seq (.ops [oo 4 (.mov (.v (.int .i64 0)))]) (.seq (.ops [oo 5 (.mov (.t 0)), oo 6 (.mov (.t 1)), oo 7 (.call 112 [(.t 5), (.t 6), (.v (.fn 113 [] []))]), oo 4 (.mov (.t 7))]) .ret))⟩
theorem c90 : aD Tryz.prog 90 = some F90 := by kernel_rfl
theorem iM (x y : AV) (a b : List Val) (H : AH) (hx : elems 3 x H = some (a.map eC)) (hy : elems 3 y H = some (b.map eC)) (ha : a.length < 1099511627776) (hb : b.length < 1099511627776) : aC Tryz.prog 90 [x, y] H fun r H' => r = .int .i64 (bG a b) ∧ H' = H := by
  refine aG c90 (fun _ => rfl) (by simp [F90]) ?_
  unfold F90
  simp only [push_cast, ↓reduceIte, Nat.reduceEqDiff, reduceCtorEq, Nat.reduceAdd, Nat.reduceLT, Nat.reduceLeDiff]
  (refine aC.look (UI x y a b H hx hy ha hb) ?_; try simp only [push_cast, ↓reduceIte, Nat.reduceEqDiff, reduceCtorEq, Nat.reduceAdd, Nat.reduceLT, Nat.reduceLeDiff, aB, aA])
  (repeat (first | exact List.prefix_refl _ | refine List.IsPrefix.trans ?_ (List.prefix_append _ _)))
end Go.Eng
end
section
set_option linter.unusedSimpArgs false
namespace Go.Eng
open Go
theorem GW {sz : Nat} {x : AV} {H : AH} {l : List AV} (hx : elems sz x H = some l) : (yF x = some true ∧ l = []) ∨ (yF x = some false) ∨ (yF x = none ∧ emp x = true ∧ l = []) := by
  cases x with
  | nils => cases hx; exact .inl ⟨rfl, rfl⟩
  | list sz' es ex =>
    cases es with
    | nil =>
      simp only [elems] at hx
      split at hx
      · cases hx; exact .inr (.inr ⟨rfl, rfl, rfl⟩)
      · cases hx
    | cons y es => exact .inr (.inl rfl)
  | ref sz' t off n c ex =>
    by_cases hn : 0 < n
    · exact .inr (.inl (by simp [yF, hn]))
    · have : n = 0 := by omega
      subst this
      simp only [elems, Option.bind_eq_some_iff] at hx
      obtain ⟨o, h1, h2⟩ := hx
      split at h2
      · cases h2; exact .inr (.inr ⟨rfl, rfl, by simp⟩)
      · cases h2
  | _ => cases hx
theorem qP {sz bytes : Nat} {x : AV} {l : List AV} {H : AH} (hx : elems sz x H = some l) (hl : l.length * bytes ≤ 140737488355328) {K : AV → AH → Prop} (hk : ∀ r H', Own H H' sz r l → H <+: H' → K r H') : xAt (mM sz bytes (.ref sz H.length 0 0 0 true) x (H ++ [aR.live sz []])) K := by
  have hp : H <+: H ++ [aR.live sz []] := List.prefix_append _ _
  have ho : Own H (H ++ [aR.live sz []]) sz (.ref sz H.length 0 0 0 true) [] := .inr ⟨H.length, true, Nat.le_refl _, rfl, bA _ _ _⟩
  exact ho.xapp hp (bJ hx hp) (by simpa using hl) fun v' H' h1 h2 => hk v' H' (by simpa using h1) h2
def vC (sz bytes : Nat) (z : AV) : AFn := ⟨8, 1, [.t 2], (.seq (.ops [oo 2 (.mov (.v .nils))]) (.seq (.seq (.ops [oo 3 (.mov (.t 0)), oo 4 (.nilt false (.t 3))]) (.cond (.t 4) (.seq (.ops [oo 2 (.mov (.v .nils))]) .ret) .skip)) (.seq (.ops [oo 5 (.bsl sz 0 z []), oo 6 (.mov (.t 0)), oo 7 (.app sz bytes (.t 5) (.t 6)), oo 2 (.mov (.t 7))]) .ret)))⟩
theorem gB {P : Program} {n : FuncId} {sz bytes : Nat} {z : AV} (hc : aD P n = some (vC sz bytes z)) (x : AV) (l : List AV) (H : AH) (hx : elems sz x H = some l) (hl : l.length * bytes ≤ 140737488355328) : aC P n [x] H fun r H' => Own H H' sz r l ∧ H <+: H' := by
  refine aU hc (by simp [vC]) ?_
  unfold vC
  rcases GW hx with ⟨h1, h2⟩ | h1 | ⟨h1, h2, h3⟩
  · simp only [push_cast, ↓reduceIte, Nat.reduceEqDiff, reduceCtorEq, Nat.reduceAdd, Nat.reduceLT, Nat.reduceLeDiff, h1, bne_self_eq_false, Bool.true_bne, Bool.not_false]
    exact ⟨.inl ⟨rfl, h2⟩, List.prefix_refl _⟩
  · simp only [push_cast, ↓reduceIte, Nat.reduceEqDiff, reduceCtorEq, Nat.reduceAdd, Nat.reduceLT, Nat.reduceLeDiff, h1, bne_self_eq_false]
    refine qP hx hl fun r H' a b => ?_
    simp only [push_cast, ↓reduceIte, Nat.reduceEqDiff, reduceCtorEq, Nat.reduceAdd, Nat.reduceLT, Nat.reduceLeDiff]
    exact ⟨a, b⟩
  · simp only [push_cast, ↓reduceIte, Nat.reduceEqDiff, reduceCtorEq, Nat.reduceAdd, Nat.reduceLT, Nat.reduceLeDiff, h1, h2]
    refine ⟨⟨.inl ⟨rfl, h3⟩, List.prefix_refl _⟩, qP hx hl fun r H' a b => ?_⟩
    simp only [push_cast, ↓reduceIte, Nat.reduceEqDiff, reduceCtorEq, Nat.reduceAdd, Nat.reduceLT, Nat.reduceLeDiff]
    exact ⟨a, b⟩
theorem xH {P : Program} {n : FuncId} {sz bytes : Nat} {z : AV} (hc : aD P n = some (vC sz bytes z)) (x : AV) (l : List AV) (H : AH) (hx : elems sz x H = some l) (hl : l.length * bytes ≤ 140737488355328) (hcl : ∀ n, cls n l = true) : aC P n [x] H fun r H' => r = .list sz l false ∧ H' = H :=
  (aC.gc (R := fun r _ => r = .list sz l false) (((gB hc x l H hx hl).weak (R' := fun r H' => H <+: H' ∧ r = .list sz l false) fun r H' ⟨h1, h2⟩ => by
    obtain ⟨H2, a, b⟩ := h1.weak h2
    exact ⟨_, H2, a, b, rfl⟩).mono fun x H' ⟨hp, e⟩ => ⟨hp, by rw [e]; exact hcl _, e⟩)).mono fun x H' ⟨e, _, e2⟩ => ⟨e2, e⟩
end Go.Eng
end
section
set_option linter.unusedSimpArgs false
namespace Go.Eng
open Go Go.Proofs
structure Tm where
  f0 : Int
  f1 : Int
structure Upd where
  f0 : List Val
  f1 : Tm
  f2 : Int
def aQ (t : Tm) : AV := .agg [.int .i64 t.f0, .int .i64 t.f1]
def cP (a b : Tm) : Int := if a.f0 = b.f0 then jU a.f1 b.f1 else jU a.f0 b.f0
def UJ (H : AH) (v : AV) (u : Upd) : Prop := ∃ r, v = .agg [r, .int .i64 u.f1.f0, .int .i64 u.f1.f1, .int .i64 u.f2] ∧ elems 3 r H = some (u.f0.map eC)
def bL (a b : Upd) : Int := if bG a.f0 b.f0 = 0 then cP a.f1 b.f1 else bG a.f0 b.f0
def UK : AFn := ⟨20, 2, [.t 4], (.seq (.ops [oo 2 (.box 2 (.t 0)), oo 3 (.box 2 (.t 1)), oo 4 (.mov (.v (.int .i64 0)))]) (.seq (.seq (.ops [oo 5 (.faddr 0 (.t 2)), oo 6 (.load false 1 (.t 5)), oo 7 (.faddr 0 (.t 3)), oo 8 (.load false 1 (.t 7)), oo 9 (.bin .neq (.t 6) (.t 8))]) (.cond (.t 9) (.seq (.ops [oo 10 (.faddr 0 (.t 2)), oo 11 (.load false 1 (.t 10)), oo 12 (.faddr 0 (.t 3)), oo 13 (.load false 1 (.t 12)), oo 14 (.call 121 [(.t 11), (.t 13)]), oo 4 (.mov (.t 14))]) .ret) .skip)) (.seq (.ops [oo 15 (.faddr 1 (.t 2)), oo 16 (.load false 1 (.t 15)), oo 17 (.faddr 1 (.t 3)), oo 18 (.load false 1 (.t 17)), oo 19 (.call 121 [(.t 16), (.t 18)]), oo 4 (.mov (.t 19))]) .ret)))⟩
theorem WN : aD Tryz.prog 118 = some UK := by kernel_rfl
theorem LT (a b : Tm) (H : AH) : aC Tryz.prog 118 [aQ a, aQ b] H fun x H' => x = .int .i64 (cP a b) ∧ H' = H := by
  refine aG WN (fun _ => rfl) (by simp [UK]) ?_
  unfold UK aQ
  simp only [push_cast, ↓reduceIte, Nat.reduceEqDiff, reduceCtorEq, Nat.reduceAdd, Nat.reduceLT, Nat.reduceLeDiff, aB, aA]
  refine pS (fun h => ?_) (fun h => ?_)
  · (refine aC.look (iL _ _ _) ?_; try simp only [push_cast, ↓reduceIte, Nat.reduceEqDiff, reduceCtorEq, Nat.reduceAdd, Nat.reduceLT, Nat.reduceLeDiff, aB, aA])
    exact ⟨by (repeat (first | exact List.prefix_refl _ | refine List.IsPrefix.trans ?_ (List.prefix_append _ _))), by rw [cP, if_pos h]; rfl⟩
  · (refine aC.look (iL _ _ _) ?_; try simp only [push_cast, ↓reduceIte, Nat.reduceEqDiff, reduceCtorEq, Nat.reduceAdd, Nat.reduceLT, Nat.reduceLeDiff, aB, aA])
    exact ⟨by (repeat (first | exact List.prefix_refl _ | refine List.IsPrefix.trans ?_ (List.prefix_append _ _))), by rw [cP, if_neg h]; rfl⟩
def F99 : AFn := ⟨8, 2, [.t 4], (.seq (.ops [oo 2 (.box 2 (.t 0)), oo 3 (.box 2 (.t 1)), oo 4 (.mov (.v (.int .i64 0)))]) (.seq (.ops [oo 5 (.load true 2 (.t 2)), oo 6 (.load true 2 (.t 3)), oo 7 (.call 118 [(.t 5), (.t 6)]), oo 4 (.mov (.t 7))]) .ret))⟩
theorem c99 : aD Tryz.prog 99 = some F99 := by kernel_rfl
theorem jO (a b : Tm) (H : AH) : aC Tryz.prog 99 [aQ a, aQ b] H fun x H' => x = .int .i64 (cP a b) ∧ H' = H := by
  refine aG c99 (fun _ => rfl) (by simp [F99]) ?_
  unfold F99
  simp only [push_cast, ↓reduceIte, Nat.reduceEqDiff, reduceCtorEq, Nat.reduceAdd, Nat.reduceLT, Nat.reduceLeDiff, aB, aA, aQ]
  (refine aC.look (LT a b _) ?_; try simp only [push_cast, ↓reduceIte, Nat.reduceEqDiff, reduceCtorEq, Nat.reduceAdd, Nat.reduceLT, Nat.reduceLeDiff, aB, aA])
  (repeat (first | exact List.prefix_refl _ | refine List.IsPrefix.trans ?_ (List.prefix_append _ _)))
def F80 : AFn := ⟨19, 2, [.t 4], (.seq (.ops [oo 2 (.box 4 (.t 0)), oo 3 (.box 4 (.t 1)), oo 4 (.mov (.v (.int .i64 0)))]) (.seq (.seq (.ops [oo 6 (.faddr 0 (.t 2)), oo 7 (.load false 1 (.t 6)), oo 8 (.faddr 0 (.t 3)), oo 9 (.load false 1 (.t 8)), oo 10 (.call 90 [(.t 7), (.t 9)]), oo 5 (.mov (.t 10))]) (.seq (.ops [oo 11 (.mov (.t 5)), oo 12 (.bin .neq (.t 11) (.v (.int .i64 0)))]) (.cond (.t 12) (.seq (.ops [oo 13 (.mov (.t 5)), oo 4 (.mov (.t 13))]) .ret) .skip))) (.seq (.ops [oo 14 (.faddr 1 (.t 2)), oo 15 (.load true 2 (.t 14)), oo 16 (.faddr 1 (.t 3)), oo 17 (.load true 2 (.t 16)), oo 18 (.call 99 [(.t 15), (.t 17)]), oo 4 (.mov (.t 18))]) .ret)))⟩
theorem c80 : aD Tryz.prog 80 = some F80 := by kernel_rfl
theorem jB (x y : AV) (a b : Upd) (H : AH) (hx : UJ H x a) (hy : UJ H y b) (ha : a.f0.length < 1099511627776) (hb : b.f0.length < 1099511627776) : aC Tryz.prog 80 [x, y] H fun r H' => r = .int .i64 (bL a b) ∧ H' = H := by
  obtain ⟨rx, rfl, hx⟩ := hx
  obtain ⟨ry, rfl, hy⟩ := hy
  have sx : dH rx = true := by cases rx <;> first | rfl | cases hx
  have sy : dH ry = true := by cases ry <;> first | rfl | cases hy
  refine aG c80 (fun _ => rfl) (by simp [F80]) ?_
  unfold F80
  simp only [push_cast, ↓reduceIte, Nat.reduceEqDiff, reduceCtorEq, Nat.reduceAdd, Nat.reduceLT, Nat.reduceLeDiff, aB, aA, sx, sy]
  (refine aC.look (iM rx ry a.f0 b.f0 _ (bJ hx (by (repeat (first | exact List.prefix_refl _ | refine List.IsPrefix.trans ?_ (List.prefix_append _ _))))) (bJ hy (by (repeat (first | exact List.prefix_refl _ | refine List.IsPrefix.trans ?_ (List.prefix_append _ _))))) ha hb) ?_; try simp only [push_cast, ↓reduceIte, Nat.reduceEqDiff, reduceCtorEq, Nat.reduceAdd, Nat.reduceLT, Nat.reduceLeDiff, aB, aA])
  refine pS (fun h => ?_) (fun h => ⟨by (repeat (first | exact List.prefix_refl _ | refine List.IsPrefix.trans ?_ (List.prefix_append _ _))), ?_⟩)
  · (refine aC.look (jO a.f1 b.f1 _) ?_; try simp only [push_cast, ↓reduceIte, Nat.reduceEqDiff, reduceCtorEq, Nat.reduceAdd, Nat.reduceLT, Nat.reduceLeDiff, aB, aA])
    exact ⟨by (repeat (first | exact List.prefix_refl _ | refine List.IsPrefix.trans ?_ (List.prefix_append _ _))), by rw [bL, if_pos (by simpa using h)]⟩
  · rw [bL, if_neg h]
end Go.Eng
end
section
namespace Go.Eng
open Go
set_option linter.unusedVariables false
set_option linter.unusedSimpArgs false
theorem vD : ∀ a b c : List UInt8, Op.bytesLess a b = true → Op.bytesLess b c = true → Op.bytesLess a c = true
  | [], [], _ => by simp [Op.bytesLess]
  | [], _ :: _, [] => by simp [Op.bytesLess]
  | [], _ :: _, _ :: _ => by simp [Op.bytesLess]
  | _ :: _, [], _ => by simp [Op.bytesLess]
  | _ :: _, _ :: _, [] => by simp [Op.bytesLess]
  | x :: a, y :: b, z :: c => by
    have ih := vD a b c
    simp only [Op.bytesLess, Bool.or_eq_true, Bool.and_eq_true, decide_eq_true_eq, beq_iff_eq, UInt8.lt_iff_toNat_lt, ← UInt8.toNat_inj]
    rintro (h | ⟨h, h1⟩) (k | ⟨k, k1⟩)
    · left; omega
    · left; omega
    · left; omega
    · right; exact ⟨by omega, ih h1 k1⟩
theorem lH (x y : Int) : jU y x = - jU x y := by unfold jU; repeat' split <;> omega
theorem BR (x y z : Int) : jU x y ≤ 0 → jU y z ≤ 0 → jU x z ≤ 0 := by unfold jU; repeat' split <;> omega
theorem BS (x y : Int) : jU x y = 0 ↔ x = y := by unfold jU; repeat' split <;> omega
theorem LU (x y : ByteArray) : BO y x = - BO x y := by
  unfold BO
  rcases qK x.toList y.toList with ⟨h1, _, h3⟩ | ⟨h1, _, h3⟩ | ⟨h1, _, h3⟩ <;> simp [h1, h3]
theorem LV (x y z : ByteArray) : BO x y ≤ 0 → BO y z ≤ 0 → BO x z ≤ 0 := by
  unfold BO
  rcases qK x.toList y.toList with ⟨h1, h2, h3⟩ | ⟨h1, h2, h3⟩ | ⟨h1, h2, h3⟩ <;> rcases qK y.toList z.toList with ⟨k1, k2, k3⟩ | ⟨k1, k2, k3⟩ | ⟨k1, k2, k3⟩ <;> simp [h1, h3, k1, k3]
  · simp [vD _ _ _ h1 k1]
  · rw [← k2]; simp [h1]
  · rw [h2]; simp [k1]
  · rw [h2, k2]; simp [lB]
theorem oL (a b : Val) : gZ b a = - gZ a b := by
  unfold gZ
  by_cases h : a.f0 = b.f0
  · rw [if_pos h, if_pos h.symm, ← h]
    split
    · exact lH _ _
    · split
      · exact LU _ _
      · rfl
  · rw [if_neg h, if_neg (fun e => h e.symm)]
    exact lH _ _
theorem tT (a b c : Val) (h1 : gZ a b ≤ 0) (h2 : gZ b c ≤ 0) : gZ a c ≤ 0 := by
  unfold gZ at *
  by_cases e1 : a.f0 = b.f0
  · by_cases e2 : b.f0 = c.f0
    · rw [if_pos e1] at h1
      rw [if_pos e2, ← e1] at h2
      rw [if_pos (e1.trans e2)]
      split
      · rename_i h; rw [if_pos h] at h1 h2; exact BR _ _ _ h1 h2
      · rename_i h; rw [if_neg h] at h1 h2
        split
        · rename_i h'; rw [if_pos h'] at h1 h2; exact LV _ _ _ h1 h2
        · omega
    · rw [if_neg e2] at h2
      rw [if_neg (by omega), e1]; exact h2
  · rw [if_neg e1] at h1
    by_cases e2 : b.f0 = c.f0
    · rw [if_neg (by omega), ← e2]; exact h1
    · rw [if_neg e2] at h2
      have h3 := BR _ _ _ h1 h2
      by_cases e3 : a.f0 = c.f0
      · exfalso
        have k1 := lH b.f0 c.f0
        rw [← e3] at k1 h2
        have := (BS a.f0 b.f0).1 (by omega)
        exact e1 this
      · rw [if_neg e3]; exact h3
abbrev Row := List Val
theorem cV : ∀ x y : Row, bG y x = - bG x y
  | [], [] => rfl
  | [], _ :: _ => rfl
  | _ :: _, [] => rfl
  | a :: x, b :: y => by
    simp only [bG]
    have h := oL a b
    by_cases e : gZ a b = 0
    · rw [if_pos e, if_pos (by omega)]; exact cV x y
    · rw [if_neg e, if_neg (by omega)]; exact h
theorem fQ : ∀ x y z : Row, bG x y ≤ 0 → bG y z ≤ 0 → bG x z ≤ 0
  | [], _, [] => fun _ _ => by simp [bG]
  | [], _, _ :: _ => fun _ _ => by simp [bG]
  | _ :: _, [], _ => fun h _ => by simp [bG] at h
  | _ :: _, _ :: _, [] => fun _ h => by simp [bG] at h
  | a :: x, b :: y, c :: z => by
    simp only [bG]
    intro h1 h2
    have s1 := oL a b
    have s2 := oL b c
    have s3 := oL a c
    have l1 : gZ a b ≤ 0 := by
      by_cases e : gZ a b = 0
      · omega
      · rw [if_neg e] at h1; exact h1
    have l2 : gZ b c ≤ 0 := by
      by_cases e : gZ b c = 0
      · omega
      · rw [if_neg e] at h2; exact h2
    have l3 := tT a b c l1 l2
    by_cases e : gZ a c = 0
    · have k1 := tT b c a l2 (by omega)
      have k2 := tT c a b (by omega) l1
      rw [if_pos (show gZ a b = 0 by omega)] at h1
      rw [if_pos (show gZ b c = 0 by omega)] at h2
      rw [if_pos e]
      exact fQ x y z h1 h2
    · rw [if_neg e]; exact l3
theorem eQ (x : Row) : bG x x = 0 := by have := cV x x; omega
theorem dP {x y z : Row} (h1 : bG x y ≤ 0) (h2 : bG y z < 0) : bG x z < 0 := by
  have := fQ z x y; have := cV x z; have := cV y z; omega
theorem fB {x y z : Row} (h1 : bG x y < 0) (h2 : bG y z ≤ 0) : bG x z < 0 := by
  have := fQ y z x; have := cV x z; have := cV x y; omega
theorem oP (x y : Tm) : cP y x = - cP x y := by
  unfold cP
  by_cases h : x.f0 = y.f0
  · rw [if_pos h, if_pos h.symm, lH]
  · rw [if_neg h, if_neg (fun e => h e.symm), lH]
theorem BT (x y z : Tm) (h1 : cP x y ≤ 0) (h2 : cP y z ≤ 0) : cP x z ≤ 0 := by
  unfold cP jU at *
  repeat' split at h1
  all_goals repeat' split at h2
  all_goals repeat' split
  all_goals omega
theorem gN (x y : Tm) : cP x y = 0 ↔ x = y := by
  obtain ⟨a, b⟩ := x
  obtain ⟨c, d⟩ := y
  unfold cP
  by_cases h : a = c
  · subst h; simp [BS]
  · rw [if_neg h, BS]; simp [h]
theorem lI (x : Tm) : cP x x = 0 := (gN x x).2 rfl
theorem LW (x y : Tm) : cP x y < 0 ↔ x.f0 < y.f0 ∨ (x.f0 = y.f0 ∧ x.f1 < y.f1) := by
  unfold cP jU
  repeat' split
  all_goals omega
theorem dG (x y : Upd) : bL y x = - bL x y := by
  have h := cV x.f0 y.f0
  have h2 := oP x.f1 y.f1
  unfold bL
  by_cases h0 : bG x.f0 y.f0 = 0
  · rw [if_pos h0, if_pos (by omega)]; exact h2
  · rw [if_neg h0, if_neg (by omega)]; exact h
theorem lJ (x y z : Upd) (h1 : bL x y ≤ 0) (h2 : bL y z ≤ 0) : bL x z ≤ 0 := by
  have a := fQ x.f0 y.f0 z.f0
  have b := fQ z.f0 x.f0 y.f0
  have c := fQ y.f0 z.f0 x.f0
  have c2 := fQ z.f0 y.f0 x.f0
  have d := BT x.f1 y.f1 z.f1
  have e1 := cV x.f0 y.f0
  have e2 := cV y.f0 z.f0
  have e3 := cV x.f0 z.f0
  unfold bL at *
  split at h1 <;> split at h2 <;> split <;> omega
theorem GX : Stab.Ord cP := ⟨fun x y => oP x y, fun x y z => BT x y z⟩
theorem iP : Stab.Ord bL := ⟨fun x y => dG x y, fun x y z => lJ x y z⟩
end Go.Eng
end
section
namespace Go.Eng
open Go Go.Sort Go.Proofs
set_option linter.unusedSimpArgs false
set_option linter.unusedVariables false
set_option maxRecDepth 10000
instance : Inhabited Tm := ⟨⟨0, 0⟩⟩
instance : Inhabited Upd := ⟨⟨[], ⟨0, 0⟩, 0⟩⟩
theorem UL : cY Tryz.prog aQ cP 2 true 99 [] [] := ⟨fun _ => rfl, fun _ _ => rfl, fun _ => rfl, fun _ => rfl, fun x y H => jO x y H⟩
theorem VX : Pdq Tryz.prog 2 true 123 124 125 126 127 128 129 130 116 117 where
  ins := by kernel_rfl
  heap := ⟨137, by kernel_rfl, by kernel_rfl⟩
  len := ⟨131, 132, by kernel_rfl, by kernel_rfl⟩
  brk := ⟨138, 139, by kernel_rfl, by kernel_rfl, by kernel_rfl⟩
  cho := ⟨141, 140, 143, by kernel_rfl, by kernel_rfl, by kernel_rfl, by kernel_rfl⟩
  rev := by kernel_rfl
  pis := by kernel_rfl
  peq := by kernel_rfl
  part := by kernel_rfl
  pdq := by kernel_rfl
theorem RB {t : Nat} {H : AH} {l : List Tm} (ho : obj? H t = some (2, l.map aQ)) {cp : Nat} {ex : Bool} (hs : l.length < 1099511627776) :
    aC Tryz.prog 98 [.ref 2 t 0 l.length cp ex, .fn 99 [] []] H fun r H' => ∃ J, H' = List.set H t (.live 2 ((Stab.sortS cP l).map aQ)) ++ J :=
  xG (by kernel_rfl) VX UL GX (fun x y => (gN x y).1) ho hs
def aS (r : List Val) : AV := .list 3 (r.map eC) false
def upA (u : Upd) : AV := .agg [aS u.f0, .int .i64 u.f1.f0, .int .i64 u.f1.f1, .int .i64 u.f2]
def trU (u : Upd) : Upd := ⟨u.f0.take 1099511627775, u.f1, u.f2⟩
theorem BU (u : Upd) : (trU u).f0.length < 1099511627776 := by simp only [trU, List.length_take]; omega
theorem JL {u : Upd} (h : u.f0.length < 1099511627776) : trU u = u := by
  unfold trU; rw [List.take_of_length_le (by omega)]
def cI (l : List Upd) : Prop := ∀ u ∈ l, u.f0.length < 1099511627776
theorem LX {l : List Upd} (h : cI l) : l.map trU = l := by
  rw [List.map_congr_left (fun u hu => JL (h u hu)), List.map_id']
def upT (u : Upd) : AV := upA (trU u)
def UM (x y : Upd) : Int := bL (trU x) (trU y)
theorem UN : Stab.Ord UM := ⟨fun x y => dG _ _, fun x y z => lJ _ _ _⟩
theorem OG (u : Upd) (H : AH) : UJ H (upA u) u := ⟨_, rfl, rfl⟩
theorem UO : cY Tryz.prog upT UM 4 true 80 [] [] := ⟨fun _ => rfl, fun _ _ => rfl, fun _ => rfl, fun _ => rfl, fun x y H => jB _ _ _ _ H (OG _ H) (OG _ H) (BU x) (BU y)⟩
theorem VY : Sta Tryz.prog 4 true 133 142 144 134 where
  ins := by kernel_rfl
  swr := by kernel_rfl
  rot := by kernel_rfl
  sym := by kernel_rfl
theorem RC {t : Nat} {H : AH} {l : List Upd} (hl : cI l) (ho : obj? H t = some (4, l.map upA)) {cp : Nat} {ex : Bool} (hs : l.length < 1099511627776) :
    aC Tryz.prog 105 [.ref 4 t 0 l.length cp ex, .fn 80 [] []] H fun _ H' => H' = List.set H t (.live 4 ((Stab.sortS bL l).map upA)) := by
  have e : l.map upT = l.map upA := List.map_congr_left fun u hu => by rw [upT, JL (hl u hu)]
  have h := tS (cp := cp) (ex := ex) (n := 105) (kt := 119) (by kernel_rfl) (by kernel_rfl) VY UO UN (l := l) (e ▸ ho) hs
  refine h.mono fun _ H' e2 => ?_
  rw [e2]
  have h2 : (Stab.sortS UM l).map trU = Stab.sortS bL l := by
    have := Stab.sortS_map (c := bL) trU l
    rw [LX hl] at this
    exact this
  rw [← h2, List.map_map]
  rfl
end Go.Eng
end
