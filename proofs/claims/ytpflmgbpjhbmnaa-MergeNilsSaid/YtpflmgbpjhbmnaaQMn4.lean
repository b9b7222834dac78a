/- KMerge, KWork, KLive11, KMuch, KOpen, KOpenU, LMergeNils. -/
import Derived.Test.YtpflmgbpjhbmnaaQMn3
import Derived.Test.YtpflmgbpjhbmnaaQMn2
import Derived.Deep.Slices
import Derived.ChangeArms
import Derived.Below
import Derived.KernelRfl
section
set_option linter.unusedVariables false
set_option linter.unusedSimpArgs false
set_option maxRecDepth 10000
namespace Go.Eng
open Go Go.Proofs
structure Mg where
  key : Int
  weight : Int
  since : List Tm
  la : List Upd
  ai : Nat
  lb : List Upd
  bi : Nat
  out : List Upd
  broken : Int
def mgC (m : Mg) (v : AV) : List AV := [.int .i64 m.key, .int .i64 m.weight, fK m.since, upsA m.la, .int .i64 m.ai, upsA m.lb, .int .i64 m.bi, v, .int .i64 m.broken]
structure jQ (H0 H : AH) (t : Nat) (m : Mg) (v : AV) : Prop where
  pre : H0 <+: H
  lt : H0.length ≤ t
  ob : obj? H t = some (9, [.agg (mgC m v)])
  own : Own H0 H 4 v (m.out.map upA)
  ap : idx v ≠ some t
theorem jQ.mono {H0 H J : AH} {t : Nat} {m : Mg} {v : AV} (O : jQ H0 H t m v) : jQ H0 (H ++ J) t m v :=
  ⟨aQ O.pre, O.lt, bM (List.prefix_append _ _) O.ob, O.own.mono, O.ap⟩
theorem jQ.cell {H0 H : AH} {t : Nat} {m m' : Mg} {v : AV} (O : jQ H0 H t m v) (ho : m'.out = m.out) : jQ H0 (List.set H t (.live 9 [.agg (mgC m' v)])) t m' v :=
  ⟨bQ O.pre O.lt _, O.lt, bP (bG O.ob), by rw [ho]; exact O.own.set_other O.ap, O.ap⟩
theorem jQ.app {H0 H : AH} {t : Nat} {m : Mg} {v : AV} {l : List Upd} (O : jQ H0 H t m v) (hb : m.out.length + l.length < 1099511627776) :
    ∃ v' Hm H2, iA 4 48 v (upsA l) H = some (v', Hm) ∧ obj? Hm t = some (9, [.agg (mgC m v)]) ∧ cells v' = [v'] ∧ cX v' = true ∧ List.set Hm t (.live 9 [.agg (mgC m v')]) = H2 ∧ jQ H0 H2 t { m with out := m.out ++ l } v' := by
  have ht := bG O.ob
  by_cases hl : l = []
  · subst hl
    have he := dP O.own
    have sc := dJ O.own
    refine ⟨v, H, _, ?_, O.ob, sc.2.1, sc.1, rfl, bQ O.pre O.lt _, O.lt, bP ht, ?_, O.ap⟩
    · unfold iA
      rw [he]
      rfl
    · show Own H0 _ 4 v ((m.out ++ []).map upA)
      rw [List.append_nil]
      exact O.own.set_other O.ap
  · have ha := O.own.app_eq (bytes := 48) (x := upsA l) (xs := l.map upA) rfl (by simpa using hl) (by simp only [List.length_map]; omega)
    have hk := gD (H := H) O.ap
    refine ⟨_, _, _, ha, bM (List.prefix_append _ _) (hk.trans O.ob), rfl, rfl, rfl, bQ (O.own.killed O.pre) O.lt _, O.lt, bP ?_, ?_, ?_⟩
    · rw [List.length_append, lX]; omega
    · show Own H0 _ 4 _ ((m.out ++ l).map upA)
      rw [List.map_append]
      exact (Own.fresh O.pre).set_other (fun e => by cases e; omega)
    · exact fun e => by cases e; omega
def NZ : AFn := ⟨25, 1, [.t 2, .t 3], (.seq (.ops [oo 2 (.mov (.v .nils)), oo 3 (.mov (.v (.bool false)))]) (.seq (.seq (.ops [oo 25 (.mov (.t 0)), oo 26 (.nilc (.t 25)), oo 27 (.faddr 1 (.t 26)), oo 28 (.load false 1 (.t 27)), oo 29 (.mov (.t 0)), oo 30 (.nilc (.t 29)), oo 31 (.faddr 0 (.t 30)), oo 32 (.load false 1 (.t 31)), oo 33 (.len (.t 32)), oo 34 (.bin .eql (.t 28) (.t 33)), oo 4 (.mov (.t 25)), oo 5 (.mov (.t 26)), oo 6 (.mov (.t 27)), oo 7 (.mov (.t 28)), oo 8 (.mov (.t 29)), oo 9 (.mov (.t 30)), oo 10 (.mov (.t 31)), oo 11 (.mov (.t 32)), oo 12 (.mov (.t 33)), oo 13 (.mov (.t 34))]) (.cond (.t 13) (.seq (.ops [oo 2 (.mov (.v .nils)), oo 3 (.mov (.v (.bool false)))]) .ret) .skip)) (.seq (.ops [oo 25 (.mov (.t 0)), oo 26 (.nilc (.t 25)), oo 27 (.faddr 0 (.t 26)), oo 28 (.load false 1 (.t 27)), oo 29 (.mov (.t 0)), oo 30 (.nilc (.t 29)), oo 31 (.faddr 1 (.t 30)), oo 32 (.load false 1 (.t 31)), oo 33 (.iaddr 4 (.t 28) (.t 32)), oo 34 (.faddr 0 (.t 33)), oo 35 (.load false 1 (.t 34)), oo 36 (.mov (.t 35)), oo 37 (.mov (.v (.bool true))), oo 14 (.mov (.t 25)), oo 15 (.mov (.t 26)), oo 16 (.mov (.t 27)), oo 17 (.mov (.t 28)), oo 18 (.mov (.t 29)), oo 19 (.mov (.t 30)), oo 20 (.mov (.t 31)), oo 21 (.mov (.t 32)), oo 22 (.mov (.t 33)), oo 23 (.mov (.t 34)), oo 24 (.mov (.t 35)), oo 2 (.mov (.t 36)), oo 3 (.mov (.t 37))]) .ret)))⟩
theorem PJ : aD Try.prog 123 = some NZ := by kernel_rfl
def pkR (l : List Upd) (i : Nat) : AV :=
  match l[i]? with
  | some u => bD u.f0
  | none => .nils
def kB (l : List Upd) (i : Nat) : AV := .tup [pkR l i, .bool (decide (i < l.length))]
theorem oA {l : List Upd} {i : Nat} (h : i < l.length) : pkR l i = bD l[i].f0 := by rw [pkR, List.getElem?_eq_getElem h]
theorem oB {l : List Upd} {i : Nat} (h : ¬ i < l.length) : pkR l i = .nils := by rw [pkR, List.getElem?_eq_none (by omega)]
theorem sG {H : AH} {t k i : Nat} {cs : List AV} {l : List Upd} (h : obj? H t = some (9, [.agg cs])) (h1 : cs[k]? = some (upsA l)) (h2 : cs[k + 1]? = some (.int .i64 i)) (hi : i ≤ l.length) (hl : l.length < 1099511627776) : aC Try.prog 123 [.ptr t 0 k] H fun r H' => r = kB l i ∧ H' = H := by
  refine aN PJ (by simp [NZ]) ?_
  unfold NZ kB
  have al : dE (upsA l) = some l.length := by simp [upsA, dE]
  by_cases hlt : i < l.length
  · have hne : ¬ (i : Int) = l.length := by omega
    have ax : aF 4 (upsA l) (.int .i64 (i : Int)) = some (.lptr 4 (l.map upA) i 0) := gF (by rw [List.length_map]; exact hlt) _
    have lx : (l.map upA)[i]? = some (upA l[i]) := by simp [hlt]
    have pu : part false 1 0 (upA l[i]) = some (bD l[i].f0) := rfl
    rw [oA hlt, decide_eq_true hlt]
    simp only [push_cast, ↓reduceIte, Nat.reduceEqDiff, reduceCtorEq, Nat.reduceAdd, Nat.reduceLT, Nat.reduceLeDiff, aB, aA, h, h1, h2, Nat.add_zero, al, hne, decide_false, ax, lx, pu]
    (repeat (first | exact List.prefix_refl _ | refine List.IsPrefix.trans ?_ (List.prefix_append _ _)))
  · have hne : (i : Int) = l.length := by omega
    rw [oB hlt, decide_eq_false hlt]
    simp only [push_cast, ↓reduceIte, Nat.reduceEqDiff, reduceCtorEq, Nat.reduceAdd, Nat.reduceLT, Nat.reduceLeDiff, aB, aA, h, h1, h2, Nat.add_zero, al, hne, decide_true]
    (repeat (first | exact List.prefix_refl _ | refine List.IsPrefix.trans ?_ (List.prefix_append _ _)))
def eB (l : List Upd) (i : Nat) (k : List Val) : Nat := ((l.drop i).takeWhile fun u => dY u.f0 k).length
theorem oC {l : List Upd} {i : Nat} {k : List Val} (h : i < l.length) : eB l i k = if dY l[i].f0 k = true then eB l (i + 1) k + 1 else 0 := by
  unfold eB
  rw [List.drop_eq_getElem_cons h, List.takeWhile_cons]
  split <;> simp_all
theorem CL {l : List Upd} {i : Nat} {k : List Val} (h : l.length ≤ i) : eB l i k = 0 := by
  unfold eB
  rw [List.drop_eq_nil_of_le h]
  rfl
theorem jO (l : List Upd) (i : Nat) (k : List Val) : i ≤ l.length → i + eB l i k ≤ l.length := fun h => by
  unfold eB
  have h1 : ((l.drop i).takeWhile fun u => dY u.f0 k).length ≤ (l.drop i).length := List.Sublist.length_le (List.takeWhile_sublist _)
  rw [List.length_drop] at h1
  omega
theorem CM {H : AH} {t : Nat} {sz : Nat} {es : List AV} (h : obj? H t = some (sz, es)) : List.set H t (.live sz es) = H := by
  have := obj?_some h
  apply List.ext_getElem?
  intro i
  rw [List.getElem?_set]
  split
  · rename_i e
    subst e
    rw [if_pos (bG h), this]
  · rfl
theorem sH {f : AF} {sz : Nat} {l : List AV} {x y : X} {lo hi : Nat} (h1 : ev f x = .int .i64 (lo : Int)) (h2 : ev f y = .int .i64 (hi : Int)) (hlo : lo ≤ hi) (hhi : hi ≤ l.length) : cE f sz (.list sz l false) (some x) (some y) none = some (.list sz ((l.take hi).drop lo) false) := by
  simp [cE, gP, h1, h2, nat?, hlo, hhi]
def OA : AFn := ⟨45, 2, [.t 4], (.seq (.ops [oo 4 (.mov (.v .nils))]) (.seq (.ops [oo 8 (.mov (.t 0)), oo 9 (.nilc (.t 8)), oo 10 (.faddr 1 (.t 9)), oo 11 (.load false 1 (.t 10)), oo 5 (.mov (.t 11))]) (.seq (.seq (.ops [oo 13 (.mov (.t 0)), oo 14 (.call 123 [(.t 13)]), oo 12 (.mov (.t 14)), oo 15 (.ext (.t 12) 0), oo 16 (.ext (.t 12) 1), oo 6 (.mov (.t 15)), oo 7 (.mov (.t 16))]) (.block 0 (.loop (.seq (.seq (.ops [oo 17 (.mov (.t 7)), oo 18 (.mov (.t 17)), og 19 18 true (.mov (.t 6)), og 20 18 true (.mov (.t 1)), og 21 18 true (.call 102 [(.t 19), (.t 20)]), oo 22 (.pick (.t 18) (.t 21) (.v (.bool false)))]) (.cond (.t 22) .skip (.exit 0))) (.seq (.block 1 (.ops [oo 28 (.mov (.t 0)), oo 29 (.nilc (.t 28)), oo 30 (.faddr 1 (.t 29)), oo 31 (.load false 1 (.t 30)), oo 32 (.bin .add (.t 31) (.v (.int .i64 1))), oo 33 (.nilc (.t 28)), oo 34 (.faddr 1 (.t 33)), on (.store 1 (.t 34) (.t 32))])) (.ops [oo 24 (.mov (.t 0)), oo 25 (.call 123 [(.t 24)]), oo 23 (.mov (.t 25)), oo 26 (.ext (.t 23) 0), oo 27 (.ext (.t 23) 1), oo 6 (.mov (.t 26)), oo 7 (.mov (.t 27))])))))) (.seq (.ops [oo 45 (.mov (.t 0)), oo 46 (.nilc (.t 45)), oo 47 (.faddr 0 (.t 46)), oo 48 (.load false 1 (.t 47)), oo 49 (.mov (.t 5)), oo 50 (.mov (.t 0)), oo 51 (.nilc (.t 50)), oo 52 (.faddr 1 (.t 51)), oo 53 (.load false 1 (.t 52)), oo 54 (.slice 4 (.t 48) (some (.t 49)) (some (.t 53)) none), oo 55 (.mov (.t 54)), oo 35 (.mov (.t 45)), oo 36 (.mov (.t 46)), oo 37 (.mov (.t 47)), oo 38 (.mov (.t 48)), oo 39 (.mov (.t 49)), oo 40 (.mov (.t 50)), oo 41 (.mov (.t 51)), oo 42 (.mov (.t 52)), oo 43 (.mov (.t 53)), oo 44 (.mov (.t 54)), oo 4 (.mov (.t 55))]) .ret))))⟩
theorem PK : aD Try.prog 125 = some OA := by kernel_rfl
theorem DX {H : AH} {t k i : Nat} {cs : List AV} {l : List Upd} (key : List Val) (h : obj? H t = some (9, [.agg cs])) (hcs : cs.length = 9) (hk : k + 1 < 9) (h1 : cs[k]? = some (upsA l)) (h2 : cs[k + 1]? = some (.int .i64 i)) (hi : i ≤ l.length) (hl : l.length < 1099511627776) (hr : bB l) (hkl : key.length < 1099511627776) :
    aC Try.prog 125 [.ptr t 0 k, bD key] H fun r H' => r = upsA ((l.drop i).take (eB l i key)) ∧ H' = List.set H t (.live 9 [.agg (cs.set (k + 1) (.int .i64 ((i + eB l i key : Nat) : Int)))]) := by
  refine aN PK (by simp [OA]) ?_
  unfold OA
  have ht := bG h
  have hm := jO l i key hi
  simp only [push_cast, ↓reduceIte, Nat.reduceEqDiff, reduceCtorEq, Nat.reduceAdd, Nat.reduceLT, Nat.reduceLeDiff, aB, aA, h, h2, Nat.add_zero]
  (refine aC.look (sG h h1 h2 hi hl) ?_; simp only [push_cast, ↓reduceIte, Nat.reduceEqDiff, reduceCtorEq, Nat.reduceAdd, Nat.reduceLT, Nat.reduceLeDiff, aB, aA, kB])
  have hS : ∀ j : Nat, obj? (List.set H t (.live 9 [.agg (cs.set (k + 1) (.int .i64 (j : Int)))])) t = some (9, [.agg (cs.set (k + 1) (.int .i64 (j : Int)))]) := fun j => bP ht
  have hg1 : ∀ j : Nat, (cs.set (k + 1) (.int .i64 (j : Int)))[k]? = some (upsA l) := fun j => by rw [List.getElem?_set_ne (by omega)]; exact h1
  have hg2 : ∀ j : Nat, (cs.set (k + 1) (.int .i64 (j : Int)))[k + 1]? = some (.int .i64 (j : Int)) := fun j => List.getElem?_set_self (by omega)
  have hcl : ∀ j : Nat, (cs.set (k + 1) (.int .i64 (j : Int))).length = 9 := fun j => by rw [List.length_set]; exact hcs
  have hself : List.set H t (.live 9 [.agg (cs.set (k + 1) (.int .i64 (i : Int)))]) = H := by
    have : cs.set (k + 1) (.int .i64 (i : Int)) = cs := by
      apply List.ext_getElem?
      intro j
      rw [List.getElem?_set]
      split
      · rename_i e; subst e; rw [if_pos (by omega), h2]
      · rfl
    rw [this]
    exact CM h
  refine aJ (fun (j : Nat) f H' => H' = List.set H t (.live 9 [.agg (cs.set (k + 1) (.int .i64 (j : Int)))]) ∧ i ≤ j ∧ j ≤ l.length ∧ f 0 = .ptr t 0 k ∧ f 1 = bD key ∧ f 5 = .int .i64 i ∧ f 6 = pkR l j ∧ f 7 = .bool (decide (j < l.length)) ∧ i + eB l i key = j + eB l j key) (fun j => l.length - j) i ?_ ?_
  · exact ⟨hself.symm, Nat.le_refl _, hi, rfl, rfl, rfl, rfl, rfl, rfl⟩
  · rintro j f H' ⟨rfl, q1, q2, e0, e1, e5, e6, e7, hrun⟩
    by_cases hj : j < l.length
    · rw [oA hj] at e6
      rw [decide_eq_true hj] at e7
      rw [oC hj] at hrun
      have hu := hr _ (List.getElem_mem hj)
      generalize l[j] = u at e6 hrun hu
      simp only [push_cast, ↓reduceIte, Nat.reduceEqDiff, reduceCtorEq, Nat.reduceAdd, Nat.reduceLT, Nat.reduceLeDiff, e0, e1, e5, e6, e7]
      (refine aC.look (yB _ _ u.f0 key _ rfl rfl hu hkl) ?_; simp only [push_cast, ↓reduceIte, Nat.reduceEqDiff, reduceCtorEq, Nat.reduceAdd, Nat.reduceLT, Nat.reduceLeDiff, aB, aA, e0, e1, e5, e6, e7])
      by_cases hs : eT u.f0 key = 0
      · rw [if_pos ((jJ _ _).2 hs)] at hrun
        have w1 : IntKind.i64.wrap ((j : Int) + 1) = ((j + 1 : Nat) : Int) := by rw [aG (by omega) (by omega)]; omega
        have hk2 : k + 1 + 1 ≤ 9 := by omega
        have hss : ∀ a b : aM, List.set (List.set H t a) t b = List.set H t b := fun a b => by rw [List.set_set]
        have hcc : ∀ a b : AV, (cs.set (k + 1) a).set (k + 1) b = cs.set (k + 1) b := fun a b => by rw [List.set_set]
        simp only [push_cast, ↓reduceIte, Nat.reduceEqDiff, reduceCtorEq, Nat.reduceAdd, Nat.reduceLT, Nat.reduceLeDiff, aB, aA, hs, decide_true, e0, e1, e5, hS, hg2, hcl, hk2, w1, hss, hcc]
        (refine aC.look (sG (hS (j + 1)) (hg1 (j + 1)) (hg2 (j + 1)) hj hl) ?_; simp only [push_cast, ↓reduceIte, Nat.reduceEqDiff, reduceCtorEq, Nat.reduceAdd, Nat.reduceLT, Nat.reduceLeDiff, aB, aA, kB, e0, e1, e5])
        exact ⟨j + 1, ⟨rfl, by omega, hj, rfl, rfl, by omega⟩, by omega⟩
      · rw [if_neg (fun e => hs ((jJ _ _).1 e))] at hrun
        simp only [push_cast, ↓reduceIte, Nat.reduceEqDiff, reduceCtorEq, Nat.reduceAdd, Nat.reduceLT, Nat.reduceLeDiff, aB, aA, hs, decide_false, e0, e1, e5, hS, hg1, hg2, hcl, Nat.add_zero]
        unfold upsA
        rw [sH (lo := i) (hi := j) (by rfl) (by rfl) q1 (by rw [List.length_map]; exact q2)]
        simp only [push_cast, ↓reduceIte, Nat.reduceEqDiff, reduceCtorEq, Nat.reduceAdd, Nat.reduceLT, Nat.reduceLeDiff]
        have hn : eB l i key = j - i := by omega
        have hij : i + (j - i) = j := by omega
        rw [hn]
        refine ⟨?_, ?_⟩
        · rw [← List.map_take, ← List.map_drop, List.drop_take]
        · rw [← Int.natCast_add, hij]
    · rw [oB hj] at e6
      rw [decide_eq_false hj] at e7
      rw [CL (i := j) (by omega)] at hrun
      simp only [push_cast, ↓reduceIte, Nat.reduceEqDiff, reduceCtorEq, Nat.reduceAdd, Nat.reduceLT, Nat.reduceLeDiff, aB, aA, e0, e1, e5, e6, e7, hS, hg1, hg2, hcl, Nat.add_zero]
      unfold upsA
      rw [sH (lo := i) (hi := j) (by rfl) (by rfl) q1 (by rw [List.length_map]; exact q2)]
      simp only [push_cast, ↓reduceIte, Nat.reduceEqDiff, reduceCtorEq, Nat.reduceAdd, Nat.reduceLT, Nat.reduceLeDiff]
      have hn : eB l i key = j - i := by omega
      have hij : i + (j - i) = j := by omega
      rw [hn]
      refine ⟨?_, ?_⟩
      · rw [← List.map_take, ← List.map_drop, List.drop_take]
      · rw [← Int.natCast_add, hij]
structure MgB (m : Mg) : Prop where
  ai : m.ai ≤ m.la.length
  bi : m.bi ≤ m.lb.length
  tot : m.out.length + (m.la.length - m.ai) + (m.lb.length - m.bi) < 1099511627776
  la : m.la.length < 549755813888
  lb : m.lb.length < 549755813888
  ra : bB m.la
  rb : bB m.lb
  since : m.since.length < 1099511627776
  ro : bB m.out
def qZ (m : Mg) : Option (List Val) :=
  match m.la[m.ai]?, m.lb[m.bi]? with
  | none, none => none
  | none, some y => some y.f0
  | some x, none => some x.f0
  | some x, some y => if eT x.f0 y.f0 ≤ 0 then some x.f0 else some y.f0
def F88 : AFn := ⟨43, 1, [.t 2, .t 3], (.seq (.ops [oo 2 (.mov (.v .nils)), oo 3 (.mov (.v (.bool false)))]) (.seq (.ops [oo 43 (.mov (.t 0)), oo 44 (.nilc (.t 43)), oo 45 (.faddr 3 (.t 44)), oo 46 (.mkf 123 [(.t 45)] []), oo 47 (.mov (.t 0)), oo 48 (.nilc (.t 47)), oo 49 (.faddr 5 (.t 48)), oo 50 (.mkf 123 [(.t 49)] []), oo 51 (.mov (.t 46)), oo 52 (.mov (.t 50)), oo 10 (.mov (.t 43)), oo 11 (.mov (.t 44)), oo 12 (.mov (.t 45)), oo 13 (.mov (.t 46)), oo 14 (.mov (.t 47)), oo 15 (.mov (.t 48)), oo 16 (.mov (.t 49)), oo 17 (.mov (.t 50)), oo 4 (.mov (.t 51)), oo 5 (.mov (.t 52))]) (.seq (.ops [oo 19 (.mov (.t 4)), oo 20 (.callv (.t 19) []), oo 18 (.mov (.t 20)), oo 21 (.ext (.t 18) 0), oo 22 (.ext (.t 18) 1), oo 6 (.mov (.t 21)), oo 7 (.mov (.t 22))]) (.seq (.ops [oo 24 (.mov (.t 5)), oo 25 (.callv (.t 24) []), oo 23 (.mov (.t 25)), oo 26 (.ext (.t 23) 0), oo 27 (.ext (.t 23) 1), oo 8 (.mov (.t 26)), oo 9 (.mov (.t 27))]) (.seq (.block 0 (.seq (.block 3 (.block 2 (.seq (.block 1 (.seq (.seq (.seq (.ops [oo 29 (.mov (.t 7)), oo 30 (.un .not (.t 29)), oo 28 (.mov (.t 30))]) (.cond (.t 28) (.exit 1) .skip)) (.seq (.seq (.ops [oo 32 (.mov (.t 9)), oo 33 (.un .not (.t 32)), oo 31 (.mov (.t 33))]) (.cond (.t 31) (.exit 2) .skip)) (.seq (.ops [oo 35 (.mov (.t 6)), oo 36 (.mov (.t 8)), oo 37 (.call 61 [(.t 35), (.t 36)]), oo 38 (.bin .leq (.t 37) (.v (.int .i64 0))), oo 34 (.mov (.t 38))]) (.cond (.t 34) (.exit 3) .skip)))) (.exit 0))) (.seq (.seq (.ops [oo 39 (.mov (.t 8)), oo 40 (.mov (.t 9)), oo 2 (.mov (.t 39)), oo 3 (.mov (.t 40))]) .ret) (.exit 0))))) (.seq (.seq (.ops [oo 41 (.mov (.t 6)), oo 2 (.mov (.t 41)), oo 3 (.mov (.v (.bool true)))]) .ret) (.exit 0)))) (.seq (.ops [oo 42 (.mov (.t 8)), oo 2 (.mov (.t 42)), oo 3 (.mov (.v (.bool true)))]) .ret))))))⟩
theorem c88 : aD Try.prog 88 = some F88 := by kernel_rfl
theorem DY {H0 H : AH} {t : Nat} {m : Mg} {v : AV} (O : jQ H0 H t m v) (B : MgB m) : aC Try.prog 88 [.ptr t 0 0] H fun r H' => r = .tup [GZ (qZ m), .bool (qZ m).isSome] ∧ H' = H := by
  refine aN c88 (by simp [F88]) ?_
  unfold F88
  have pa := sG (k := 3) O.ob rfl rfl B.ai (by have := B.la; omega)
  have pb := sG (k := 5) O.ob rfl rfl B.bi (by have := B.lb; omega)
  have ra := B.ra
  have rb := B.rb
  unfold qZ
  by_cases ha : m.ai < m.la.length
  · have e1 : m.la[m.ai]? = some m.la[m.ai] := List.getElem?_eq_getElem ha
    have hu := ra _ (List.getElem_mem ha)
    unfold kB at pa
    rw [oA ha, decide_eq_true ha] at pa
    rw [e1]
    generalize m.la[m.ai] = x at pa hu
    by_cases hb : m.bi < m.lb.length
    · have e2 : m.lb[m.bi]? = some m.lb[m.bi] := List.getElem?_eq_getElem hb
      have hw := rb _ (List.getElem_mem hb)
      unfold kB at pb
      rw [oA hb, decide_eq_true hb] at pb
      rw [e2]
      generalize m.lb[m.bi] = y at pb hw
      simp only [push_cast, ↓reduceIte, Nat.reduceEqDiff, reduceCtorEq, Nat.reduceAdd, Nat.reduceLT, Nat.reduceLeDiff]
      (refine aC.look (pa) ?_; try simp only [push_cast, ↓reduceIte, Nat.reduceEqDiff, reduceCtorEq, Nat.reduceAdd, Nat.reduceLT, Nat.reduceLeDiff, aB, aA])
      (refine aC.look (pb) ?_; try simp only [push_cast, ↓reduceIte, Nat.reduceEqDiff, reduceCtorEq, Nat.reduceAdd, Nat.reduceLT, Nat.reduceLeDiff, aB, aA])
      (refine aC.look (jE (bD x.f0) (bD y.f0) x.f0 y.f0 _ rfl rfl hu hw) ?_; try simp only [push_cast, ↓reduceIte, Nat.reduceEqDiff, reduceCtorEq, Nat.reduceAdd, Nat.reduceLT, Nat.reduceLeDiff, aB, aA])
      by_cases ho : eT x.f0 y.f0 ≤ 0
      · simp only [push_cast, ↓reduceIte, Nat.reduceEqDiff, reduceCtorEq, Nat.reduceAdd, Nat.reduceLT, Nat.reduceLeDiff, ho, decide_true]
        simp [GZ]
      · simp only [push_cast, ↓reduceIte, Nat.reduceEqDiff, reduceCtorEq, Nat.reduceAdd, Nat.reduceLT, Nat.reduceLeDiff, ho, decide_false]
        simp [GZ]
    · have e2 : m.lb[m.bi]? = none := List.getElem?_eq_none (by omega)
      unfold kB at pb
      rw [oB hb, decide_eq_false hb] at pb
      rw [e2]
      simp only [push_cast, ↓reduceIte, Nat.reduceEqDiff, reduceCtorEq, Nat.reduceAdd, Nat.reduceLT, Nat.reduceLeDiff]
      (refine aC.look (pa) ?_; try simp only [push_cast, ↓reduceIte, Nat.reduceEqDiff, reduceCtorEq, Nat.reduceAdd, Nat.reduceLT, Nat.reduceLeDiff, aB, aA])
      (refine aC.look (pb) ?_; try simp only [push_cast, ↓reduceIte, Nat.reduceEqDiff, reduceCtorEq, Nat.reduceAdd, Nat.reduceLT, Nat.reduceLeDiff, aB, aA])
      simp [GZ]
  · have e1 : m.la[m.ai]? = none := List.getElem?_eq_none (by omega)
    unfold kB at pa
    rw [oB ha, decide_eq_false ha] at pa
    rw [e1]
    by_cases hb : m.bi < m.lb.length
    · have e2 : m.lb[m.bi]? = some m.lb[m.bi] := List.getElem?_eq_getElem hb
      unfold kB at pb
      rw [oA hb, decide_eq_true hb] at pb
      rw [e2]
      simp only [push_cast, ↓reduceIte, Nat.reduceEqDiff, reduceCtorEq, Nat.reduceAdd, Nat.reduceLT, Nat.reduceLeDiff]
      (refine aC.look (pa) ?_; try simp only [push_cast, ↓reduceIte, Nat.reduceEqDiff, reduceCtorEq, Nat.reduceAdd, Nat.reduceLT, Nat.reduceLeDiff, aB, aA])
      (refine aC.look (pb) ?_; try simp only [push_cast, ↓reduceIte, Nat.reduceEqDiff, reduceCtorEq, Nat.reduceAdd, Nat.reduceLT, Nat.reduceLeDiff, aB, aA])
      simp [GZ]
    · have e2 : m.lb[m.bi]? = none := List.getElem?_eq_none (by omega)
      unfold kB at pb
      rw [oB hb, decide_eq_false hb] at pb
      rw [e2]
      simp only [push_cast, ↓reduceIte, Nat.reduceEqDiff, reduceCtorEq, Nat.reduceAdd, Nat.reduceLT, Nat.reduceLeDiff]
      (refine aC.look (pa) ?_; try simp only [push_cast, ↓reduceIte, Nat.reduceEqDiff, reduceCtorEq, Nat.reduceAdd, Nat.reduceLT, Nat.reduceLeDiff, aB, aA])
      (refine aC.look (pb) ?_; try simp only [push_cast, ↓reduceIte, Nat.reduceEqDiff, reduceCtorEq, Nat.reduceAdd, Nat.reduceLT, Nat.reduceLeDiff, aB, aA])
      simp [GZ]
def dS (m : Mg) (k : List Val) : List Upd := (m.la.drop m.ai).take (eB m.la m.ai k) ++ (m.lb.drop m.bi).take (eB m.lb m.bi k)
def oD (m : Mg) (k : List Val) : Mg := { m with ai := m.ai + eB m.la m.ai k, bi := m.bi + eB m.lb m.bi k }
def zE (m : Mg) (k : List Val) : Mg :=
  if (bV (dK m.since (dS m k))).2 = 0 then { oD m k with out := m.out ++ (bV (dK m.since (dS m k))).1 } else { oD m k with broken := (bV (dK m.since (dS m k))).2 }
def rA : AC := (.cond (.t 27) (.ops [oo 28 (.mov (.t 5)), oo 29 (.mov (.t 0)), oo 30 (.nilc (.t 29)), oo 31 (.faddr 2 (.t 30)), oo 32 (.load false 1 (.t 31)), oo 33 (.call 63 [(.t 28), (.t 32)]), oo 5 (.mov (.t 33))]) .skip)
def rB : AC := (.seq (.ops [oo 35 (.mov (.t 5)), oo 36 (.call 64 [(.t 35)]), oo 34 (.mov (.t 36)), oo 37 (.ext (.t 34) 0), oo 38 (.ext (.t 34) 1), oo 5 (.mov (.t 37)), oo 7 (.mov (.t 38))]) (.seq (.seq (.ops [oo 39 (.mov (.t 7)), oo 40 (.bin .neq (.t 39) (.v (.int .i64 0)))]) (.cond (.t 40) (.seq (.ops [oo 41 (.mov (.t 0)), oo 42 (.mov (.t 7)), oo 43 (.nilc (.t 41)), oo 44 (.faddr 8 (.t 43)), on (.store 1 (.t 44) (.t 42))]) (.seq (.ops [oo 45 (.mov (.t 6)), oo 4 (.mov (.t 45))]) .ret)) .skip)) (.seq (.ops [oo 46 (.mov (.t 0)), oo 47 (.mov (.t 0)), oo 48 (.nilc (.t 47)), oo 49 (.faddr 7 (.t 48)), oo 50 (.load false 1 (.t 49)), oo 51 (.mov (.t 5)), oo 52 (.app 4 48 (.t 50) (.t 51)), oo 53 (.nilc (.t 46)), oo 54 (.faddr 7 (.t 53)), on (.store 1 (.t 54) (.t 52))]) (.seq (.ops [oo 55 (.mov (.t 6)), oo 4 (.mov (.t 55))]) .ret))))
def F89 : AFn := ⟨56, 2, [.t 4], (.seq (.ops [oo 4 (.mov (.v (.int .i64 0)))]) (.seq (.ops [oo 56 (.mov (.t 0)), oo 57 (.nilc (.t 56)), oo 58 (.faddr 3 (.t 57)), oo 59 (.mov (.t 1)), oo 61 (.mov (.t 0)), oo 62 (.nilc (.t 61)), oo 63 (.faddr 5 (.t 62)), oo 64 (.mov (.t 1)), oo 60 (.call 125 [(.t 58), (.t 59)]), oo 65 (.call 125 [(.t 63), (.t 64)]), oo 66 (.bsl 1 2 .nils [(0, (.t 60)), (1, (.t 65))]), oo 67 (.call 124 [(.t 66)]), oo 68 (.mov (.t 67)), oo 8 (.mov (.t 56)), oo 9 (.mov (.t 57)), oo 10 (.mov (.t 58)), oo 11 (.mov (.t 59)), oo 13 (.mov (.t 61)), oo 14 (.mov (.t 62)), oo 15 (.mov (.t 63)), oo 16 (.mov (.t 64)), oo 12 (.mov (.t 60)), oo 17 (.mov (.t 65)), oo 18 (.mov (.t 66)), oo 19 (.mov (.t 67)), oo 5 (.mov (.t 68))]) (.seq (.ops [oo 20 (.mov (.t 5)), oo 21 (.len (.t 20)), oo 6 (.mov (.t 21))]) (.seq (.seq (.ops [oo 22 (.mov (.t 0)), oo 23 (.nilc (.t 22)), oo 24 (.faddr 2 (.t 23)), oo 25 (.load false 1 (.t 24)), oo 26 (.len (.t 25)), oo 27 (.bin .gtr (.t 26) (.v (.int .i64 0)))]) (rA)) (rB)))))⟩
theorem c89 : aD Try.prog 89 = some F89 := by kernel_rfl
def OK (H0 : AH) (t : Nat) (m : Mg) (k : List Val) (r : AV) (H' : AH) : Prop := r = .int .i64 (dS m k).length ∧ ∃ v', jQ H0 H' t (zE m k) v'
theorem CN (m : Mg) (k : List Val) : (dS m k).length ≤ eB m.la m.ai k + eB m.lb m.bi k := by
  unfold dS
  rw [List.length_append, List.length_take, List.length_take]
  omega
theorem KR {H0 H : AH} {t : Nat} {m : Mg} {k : List Val} {v : AV} {f : AF} (O : jQ H0 H t (oD m k) v) (hs : bB (dK m.since (dS m k))) (hl : (dS m k).length < 1099511627776) (hb : m.out.length + (dS m k).length < 1099511627776) (e0 : f 0 = .ptr t 0 0) (e5 : f 5 = upsA (dK m.since (dS m k))) (e6 : f 6 = .int .i64 (dS m k).length) :
    rB.wp Try.prog (EL [.t 4] (OK H0 t m k)) f H := by
  unfold rB
  have hal := iG m.since (dS m k)
  simp only [push_cast, ↓reduceIte, Nat.reduceEqDiff, reduceCtorEq, Nat.reduceAdd, Nat.reduceLT, Nat.reduceLeDiff, e5]
  (refine aC.look (DV (upsA (dK m.since (dS m k))) (dK m.since (dS m k)) _ rfl (by omega) hs) ?_; simp only [push_cast, ↓reduceIte, Nat.reduceEqDiff, reduceCtorEq, Nat.reduceAdd, Nat.reduceLT, Nat.reduceLeDiff, aB, aA, e0, e6, tZ])
  have hcm := (eN (dK m.since (dS m k))).1
  have ob := O.ob
  have sc := dJ O.own
  unfold mgC at ob
  by_cases hc : (bV (dK m.since (dS m k))).2 = 0
  · obtain ⟨v', Hm, H2, q1, q2, q3, q4, q5, O2⟩ := O.app (l := (bV (dK m.since (dS m k))).1) (by show m.out.length + _ < _; omega)
    unfold mgC at q2 q5
    simp only [push_cast, ↓reduceIte, Nat.reduceEqDiff, reduceCtorEq, Nat.reduceAdd, Nat.reduceLT, Nat.reduceLeDiff, aB, aA, hc, e0, e6, ob, q1, q2, q3, q4, q5]
    refine ⟨rfl, v', ?_⟩
    unfold zE
    rw [if_pos hc]
    exact O2
  · have O2 := O.cell (m' := { oD m k with broken := (bV (dK m.since (dS m k))).2 }) rfl
    unfold mgC at O2
    simp only [push_cast, ↓reduceIte, Nat.reduceEqDiff, reduceCtorEq, Nat.reduceAdd, Nat.reduceLT, Nat.reduceLeDiff, aB, aA, hc, e0, e6, ob]
    refine ⟨rfl, v, ?_⟩
    unfold zE
    rw [if_neg hc]
    exact O2
theorem OB {H0 H : AH} {t : Nat} {m : Mg} {v : AV} (O : jQ H0 H t m v) (B : MgB m) (k : List Val) (hk : k.length < 1099511627776) : aC Try.prog 89 [.ptr t 0 0, bD k] H (OK H0 t m k) := by
  refine aN c89 (by simp [F89]) ?_
  unfold F89
  have n1 := jO m.la m.ai k B.ai
  have n2 := jO m.lb m.bi k B.bi
  have hll := CN m k
  have hlx := B.la
  have hly := B.lb
  have htt := B.tot
  have ta := DX (k := 3) k O.ob rfl (by omega) rfl rfl B.ai (by omega) B.ra hk
  have O1 := O.cell (m' := { m with ai := m.ai + eB m.la m.ai k }) rfl
  have tb := DX (k := 5) (i := m.bi) (l := m.lb) k O1.ob rfl (by omega) rfl rfl B.bi (by omega) B.rb hk
  have O2 := O1.cell (m' := oD m k) rfl
  have ea : List.set H t (.live 9 [.agg ((mgC m v).set (3 + 1) (.int .i64 ((m.ai + eB m.la m.ai k : Nat) : Int)))]) = List.set H t (.live 9 [.agg (mgC { m with ai := m.ai + eB m.la m.ai k } v)]) := rfl
  rw [ea] at ta
  generalize hH1 : List.set H t (.live 9 [.agg (mgC { m with ai := m.ai + eB m.la m.ai k } v)]) = H1 at ta tb O1 O2
  have eb : List.set H1 t (.live 9 [.agg ((mgC { m with ai := m.ai + eB m.la m.ai k } v).set (5 + 1) (.int .i64 ((m.bi + eB m.lb m.bi k : Nat) : Int)))]) = List.set H1 t (.live 9 [.agg (mgC (oD m k) v)]) := rfl
  rw [eb] at tb
  generalize hH2 : List.set H1 t (.live 9 [.agg (mgC (oD m k) v)]) = H2 at tb O2
  clear hH1 hH2 ea eb
  have hf : [(m.la.drop m.ai).take (eB m.la m.ai k), (m.lb.drop m.bi).take (eB m.lb m.bi k)].flatten = dS m k := by simp [dS]
  have cu : ∀ l, cells (upsA l) = [upsA l] ∧ cX (upsA l) = true := fun _ => ⟨rfl, rfl⟩
  simp only [push_cast, ↓reduceIte, Nat.reduceEqDiff, reduceCtorEq, Nat.reduceAdd, Nat.reduceLT, Nat.reduceLeDiff]
  refine ta.mono fun r H' ⟨hr, hh⟩ => ?_
  subst hr hh
  simp only [push_cast, ↓reduceIte, Nat.reduceEqDiff, reduceCtorEq, Nat.reduceAdd, Nat.reduceLT, Nat.reduceLeDiff]
  refine tb.mono fun r H' ⟨hr, hh⟩ => ?_
  subst hr hh
  simp only [push_cast, ↓reduceIte, Nat.reduceEqDiff, reduceCtorEq, Nat.reduceAdd, Nat.reduceLT, Nat.reduceLeDiff, cu]
  (refine aC.look (CK _ [upsA ((m.la.drop m.ai).take (eB m.la m.ai k)), upsA ((m.lb.drop m.bi).take (eB m.lb m.bi k))] [(m.la.drop m.ai).take (eB m.la m.ai k), (m.lb.drop m.bi).take (eB m.lb m.bi k)] _ (nY rfl) rfl (fun i y l h1 h2 => by match i with | 0 => cases h1; cases h2; rfl | 1 => cases h1; cases h2; rfl | n + 2 => cases h1) (by rw [hf]; omega) (by simp)) ?_; simp only [push_cast, ↓reduceIte, Nat.reduceEqDiff, reduceCtorEq, Nat.reduceAdd, Nat.reduceLT, Nat.reduceLeDiff, aB, aA, hf])
  have hal : dE (upsA (dS m k)) = some (dS m k).length := by simp [upsA, dE]
  have O3 := O2.mono (J := [.live 1 [upsA ((m.la.drop m.ai).take (eB m.la m.ai k)), upsA ((m.lb.drop m.bi).take (eB m.lb m.bi k))]])
  have ob := O3.ob
  unfold mgC oD at ob
  dsimp only at ob
  have hs2 : dE (fK m.since) = some m.since.length := by simp [fK, dE]
  have ps : part false 1 0 (fK m.since) = some (fK m.since) := rfl
  have hsr : bB (dS m k) := fun u hu => by
    rcases List.mem_append.1 hu with hu | hu
    · exact B.ra u (List.mem_of_mem_drop (List.mem_of_mem_take hu))
    · exact B.rb u (List.mem_of_mem_drop (List.mem_of_mem_take hu))
  by_cases hse : m.since = []
  · have e : dK m.since (dS m k) = dS m k := by rw [dK, if_pos hse]
    have lb0 : ¬ ((m.since.length : Nat) : Int) > 0 := by rw [hse]; decide
    simp only [push_cast, ↓reduceIte, Nat.reduceEqDiff, reduceCtorEq, Nat.reduceAdd, Nat.reduceLT, Nat.reduceLeDiff, aB, aA, hal, ob, hs2, lb0, decide_false]
    unfold rA
    simp only [push_cast, ↓reduceIte, Nat.reduceEqDiff, reduceCtorEq, Nat.reduceAdd, Nat.reduceLT, Nat.reduceLeDiff]
    exact KR O3 (by rw [e]; exact hsr) (by omega) (by omega) (by rfl) (by rw [e]; rfl) (by rfl)
  · have e : dK m.since (dS m k) = (dS m k).map (yL m.since) := by rw [dK, if_neg hse]
    have lb0 : ((m.since.length : Nat) : Int) > 0 := by have := List.length_pos_iff.2 hse; omega
    simp only [push_cast, ↓reduceIte, Nat.reduceEqDiff, reduceCtorEq, Nat.reduceAdd, Nat.reduceLT, Nat.reduceLeDiff, aB, aA, hal, ob, hs2, lb0, decide_true]
    unfold rA
    simp only [push_cast, ↓reduceIte, Nat.reduceEqDiff, reduceCtorEq, Nat.reduceAdd, Nat.reduceLT, Nat.reduceLeDiff, aB, aA, ob]
    (refine aC.look (nQ (upsA (dS m k)) (dS m k) m.since _ rfl (by omega) B.since hsr) ?_; try simp only [push_cast, ↓reduceIte, Nat.reduceEqDiff, reduceCtorEq, Nat.reduceAdd, Nat.reduceLT, Nat.reduceLeDiff, aB, aA])
    refine KR O3 ?_ (by omega) (by omega) (by rfl) (by rw [e]; rfl) (by rfl)
    rw [e]
    intro u hu
    obtain ⟨w, hw, rfl⟩ := List.mem_map.1 hu
    exact hsr w hw
end Go.Eng
end
section
set_option linter.unusedVariables false
set_option linter.unusedSimpArgs false
set_option maxRecDepth 10000
namespace Go.Eng
open Go Go.Proofs
def eA (m : Mg) : Nat := (m.la.length - m.ai) + (m.lb.length - m.bi)
theorem KS {m : Mg} (B : MgB m) (k : List Val) : MgB (zE m k) ∧ eA (zE m k) + (dS m k).length = eA m ∧ (zE m k).key = m.key ∧ (zE m k).weight = m.weight ∧ (zE m k).since = m.since := by
  have n1 := jO m.la m.ai k B.ai
  have n2 := jO m.lb m.bi k B.bi
  have htt := B.tot
  have hro : bB (m.out ++ (bV (dK m.since (dS m k))).1) := fun u hu => by
    rcases List.mem_append.1 hu with hu | hu
    · exact B.ro u hu
    · obtain ⟨w, hw, e⟩ := sF hu
      rw [e]
      rcases List.mem_append.1 hw with hw | hw
      · exact B.ra w (List.mem_of_mem_drop (List.mem_of_mem_take hw))
      · exact B.rb w (List.mem_of_mem_drop (List.mem_of_mem_take hw))
  have hlen : (dS m k).length = eB m.la m.ai k + eB m.lb m.bi k := by
    unfold dS
    rw [List.length_append, List.length_take, List.length_take, List.length_drop, List.length_drop]
    omega
  have hcm := (eN (dK m.since (dS m k))).1
  rw [iG] at hcm
  unfold zE
  split
  · refine ⟨⟨n1, n2, ?_, B.la, B.lb, B.ra, B.rb, B.since, hro⟩, ?_, rfl, rfl, rfl⟩
    · show (m.out ++ _).length + (m.la.length - (m.ai + _)) + (m.lb.length - (m.bi + _)) < _
      rw [List.length_append]
      omega
    · show (m.la.length - (m.ai + _)) + (m.lb.length - (m.bi + _)) + _ = _
      unfold eA
      omega
  · refine ⟨⟨n1, n2, ?_, B.la, B.lb, B.ra, B.rb, B.since, B.ro⟩, ?_, rfl, rfl, rfl⟩
    · show m.out.length + (m.la.length - (m.ai + _)) + (m.lb.length - (m.bi + _)) < _
      omega
    · show (m.la.length - (m.ai + _)) + (m.lb.length - (m.bi + _)) + _ = _
      unfold eA
      omega
theorem CO {m : Mg} {k : List Val} (h : qZ m = some k) : 0 < (dS m k).length ∧ (m.la[m.ai]?.map (·.f0) = some k ∨ m.lb[m.bi]?.map (·.f0) = some k) := by
  have key : m.la[m.ai]?.map (·.f0) = some k ∨ m.lb[m.bi]?.map (·.f0) = some k := by
    unfold qZ at h
    split at h
    · cases h
    · rename_i h1 h2; cases h; exact .inr (by rw [h2]; rfl)
    · rename_i h1 h2; cases h; exact .inl (by rw [h1]; rfl)
    · rename_i h1 h2
      split at h
      · cases h; exact .inl (by rw [h1]; rfl)
      · cases h; exact .inr (by rw [h2]; rfl)
  have one : ∀ (l : List Upd) i, l[i]?.map (·.f0) = some k → 0 < eB l i k ∧ i < l.length := fun l i e => by
    cases hli : l[i]? with
    | none => rw [hli] at e; cases e
    | some u =>
      rw [hli] at e
      cases e
      have hi := (List.getElem?_eq_some_iff.1 hli).1
      have hu := (List.getElem?_eq_some_iff.1 hli).2
      rw [oC hi, hu, if_pos ((jJ _ _).2 (xR _))]
      exact ⟨by omega, hi⟩
  refine ⟨?_, key⟩
  unfold dS
  rw [List.length_append, List.length_take, List.length_take, List.length_drop, List.length_drop]
  rcases key with h | h
  · have := one _ _ h; omega
  · have := one _ _ h; omega
def CP : Nat → Mg → Int → Mg × Int
  | 0, m, fuel => (m, fuel)
  | n + 1, m, fuel => if fuel > 0 ∧ m.broken = 0 then (match qZ m with | none => (m, fuel) | some k => CP n (zE m k) (fuel - (dS m k).length)) else (m, fuel)
def gG (m : Mg) (fuel : Int) : Mg × Int := CP (eA m + 1) m fuel
def CQ (p : Mg × Int) : AV := if p.1.broken = 0 then .tup [.int .i64 (if p.2 < 0 then 0 else p.2), .int .i64 0] else .tup [.int .i64 0, .int .i64 p.1.broken]
def F57 : AFn := ⟨30, 1, [.t 2], (.seq (.ops [oo 2 (.mov (.v (.int .i64 0)))]) (.seq (.seq (.ops [oo 3 (.mov (.t 0)), oo 4 (.eqn 0 false (.t 3))]) (.cond (.t 4) (.seq (.ops [oo 2 (.mov (.v (.int .i64 0)))]) .ret) .skip)) (.seq (.ops [oo 30 (.mov (.t 0)), oo 31 (.nilc (.t 30)), oo 32 (.faddr 3 (.t 31)), oo 33 (.faddr 0 (.t 32)), oo 34 (.load false 1 (.t 33)), oo 35 (.len (.t 34)), oo 36 (.mov (.t 0)), oo 37 (.nilc (.t 36)), oo 38 (.faddr 3 (.t 37)), oo 39 (.faddr 1 (.t 38)), oo 40 (.load false 1 (.t 39)), oo 41 (.bin .sub (.t 35) (.t 40)), oo 42 (.mov (.t 0)), oo 43 (.nilc (.t 42)), oo 44 (.faddr 5 (.t 43)), oo 45 (.faddr 0 (.t 44)), oo 46 (.load false 1 (.t 45)), oo 47 (.len (.t 46)), oo 48 (.bin .add (.t 41) (.t 47)), oo 49 (.mov (.t 0)), oo 50 (.nilc (.t 49)), oo 51 (.faddr 5 (.t 50)), oo 52 (.faddr 1 (.t 51)), oo 53 (.load false 1 (.t 52)), oo 54 (.bin .sub (.t 48) (.t 53)), oo 55 (.mov (.t 54)), oo 5 (.mov (.t 30)), oo 6 (.mov (.t 31)), oo 7 (.mov (.t 32)), oo 8 (.mov (.t 33)), oo 9 (.mov (.t 34)), oo 10 (.mov (.t 35)), oo 11 (.mov (.t 36)), oo 12 (.mov (.t 37)), oo 13 (.mov (.t 38)), oo 14 (.mov (.t 39)), oo 15 (.mov (.t 40)), oo 16 (.mov (.t 41)), oo 17 (.mov (.t 42)), oo 18 (.mov (.t 43)), oo 19 (.mov (.t 44)), oo 20 (.mov (.t 45)), oo 21 (.mov (.t 46)), oo 22 (.mov (.t 47)), oo 23 (.mov (.t 48)), oo 24 (.mov (.t 49)), oo 25 (.mov (.t 50)), oo 26 (.mov (.t 51)), oo 27 (.mov (.t 52)), oo 28 (.mov (.t 53)), oo 29 (.mov (.t 54)), oo 2 (.mov (.t 55))]) .ret)))⟩
theorem c57 : aD Try.prog 57 = some F57 := by kernel_rfl
theorem KT {H0 H : AH} {t : Nat} {m : Mg} {v : AV} (O : jQ H0 H t m v) (B : MgB m) : aC Try.prog 57 [.ptr t 0 0] H fun r H' => r = .int .i64 (eA m) ∧ H' = H := by
  refine aI c57 (fun _ => rfl) (by simp [F57]) ?_
  unfold F57
  have ob := O.ob
  unfold mgC at ob
  have h1 := B.ai
  have h2 := B.bi
  have h3 := B.la
  have h4 := B.lb
  have la : dE (upsA m.la) = some m.la.length := by simp [upsA, dE]
  have lb : dE (upsA m.lb) = some m.lb.length := by simp [upsA, dE]
  have w1 : IntKind.i64.wrap ((m.la.length : Int) - m.ai) = ((m.la.length - m.ai : Nat) : Int) := by rw [aG (by omega) (by omega)]; omega
  have w2 : IntKind.i64.wrap (((m.la.length - m.ai : Nat) : Int) + m.lb.length) = ((m.la.length - m.ai + m.lb.length : Nat) : Int) := by rw [aG (by omega) (by omega)]; omega
  have w3 : IntKind.i64.wrap (((m.la.length - m.ai + m.lb.length : Nat) : Int) - m.bi) = ((eA m : Nat) : Int) := by unfold eA; rw [aG (by omega) (by omega)]; omega
  generalize m.la.length - m.ai + m.lb.length = x at w2 w3
  generalize m.la.length - m.ai = y at w1 w2
  simp only [push_cast, ↓reduceIte, Nat.reduceEqDiff, reduceCtorEq, Nat.reduceAdd, Nat.reduceLT, Nat.reduceLeDiff, aB, aA, ob, la, lb, w1, w2, w3]
  (repeat (first | exact List.prefix_refl _ | refine List.IsPrefix.trans ?_ (List.prefix_append _ _)))
def F56 : AFn := ⟨17, 1, [.t 2], (.seq (.ops [oo 2 (.mov (.v (.bool false)))]) (.seq (.ops [oo 3 (.mov (.t 0)), oo 4 (.eqn 0 true (.t 3)), oo 5 (.mov (.t 4)), og 6 5 true (.mov (.t 0)), og 7 5 true (.nilc (.t 6)), og 8 5 true (.faddr 8 (.t 7)), og 9 5 true (.load false 1 (.t 8)), og 10 5 true (.bin .eql (.t 9) (.v (.int .i64 0))), oo 11 (.pick (.t 5) (.t 10) (.v (.bool false))), oo 12 (.mov (.t 11)), og 13 12 true (.mov (.t 0)), og 14 12 true (.call 57 [(.t 13)]), og 15 12 true (.bin .eql (.t 14) (.v (.int .i64 0))), oo 16 (.pick (.t 12) (.t 15) (.v (.bool false))), oo 2 (.mov (.t 16))]) .ret))⟩
theorem c56 : aD Try.prog 56 = some F56 := by kernel_rfl
theorem DZ {H0 H : AH} {t : Nat} {m : Mg} {v : AV} (O : jQ H0 H t m v) (B : MgB m) : aC Try.prog 56 [.ptr t 0 0] H fun r H' => r = .bool (decide (m.broken = 0 ∧ eA m = 0)) ∧ H' = H := by
  refine aI c56 (fun _ => rfl) (by simp [F56]) ?_
  unfold F56
  have ob := O.ob
  unfold mgC at ob
  by_cases hb : m.broken = 0
  · simp only [push_cast, ↓reduceIte, Nat.reduceEqDiff, reduceCtorEq, Nat.reduceAdd, Nat.reduceLT, Nat.reduceLeDiff, aB, aA, ob, hb, decide_true]
    (refine aC.look (KT O B) ?_; try simp only [push_cast, ↓reduceIte, Nat.reduceEqDiff, reduceCtorEq, Nat.reduceAdd, Nat.reduceLT, Nat.reduceLeDiff, aB, aA])
    exact ⟨List.prefix_refl _, by simp⟩
  · simp only [push_cast, ↓reduceIte, Nat.reduceEqDiff, reduceCtorEq, Nat.reduceAdd, Nat.reduceLT, Nat.reduceLeDiff, aB, aA, ob, hb, decide_false]
    exact ⟨List.prefix_refl _, by simp⟩
def zF : AC := (.block 0 (.loop (.seq (.seq (.ops [oo 10 (.mov (.t 1)), oo 11 (.bin .gtr (.t 10) (.v (.int .i64 0))), oo 12 (.mov (.t 11)), og 13 12 true (.mov (.t 0)), og 14 12 true (.nilc (.t 13)), og 15 12 true (.faddr 8 (.t 14)), og 16 12 true (.load false 1 (.t 15)), og 17 12 true (.bin .eql (.t 16) (.v (.int .i64 0))), oo 18 (.pick (.t 12) (.t 17) (.v (.bool false)))]) (.cond (.t 18) .skip (.exit 0))) (.block 1 (.seq (.ops [oo 20 (.mov (.t 0)), oo 21 (.call 88 [(.t 20)]), oo 19 (.mov (.t 21)), oo 22 (.ext (.t 19) 0), oo 23 (.ext (.t 19) 1), oo 6 (.mov (.t 22)), oo 7 (.mov (.t 23))]) (.seq (.seq (.ops [oo 24 (.mov (.t 7)), oo 25 (.un .not (.t 24))]) (.cond (.t 25) (.exit 0) .skip)) (.ops [oo 26 (.mov (.t 1)), oo 27 (.mov (.t 0)), oo 28 (.mov (.t 6)), oo 29 (.call 89 [(.t 27), (.t 28)]), oo 30 (.bin .sub (.t 26) (.t 29)), oo 1 (.mov (.t 30))])))))))
def F53 : AFn := ⟨42, 2, [.t 4, .t 5], (.seq (.ops [oo 4 (.mov (.v (.int .i64 0))), oo 5 (.mov (.v (.int .i64 0)))]) (.seq (.seq (.ops [oo 8 (.mov (.t 0)), oo 9 (.eqn 0 false (.t 8))]) (.cond (.t 9) (.seq (.ops [oo 4 (.mov (.v (.int .i64 0))), oo 5 (.mov (.v (.int .i64 5)))]) .ret) .skip)) (.seq (zF) (.seq (.seq (.ops [oo 31 (.mov (.t 0)), oo 32 (.nilc (.t 31)), oo 33 (.faddr 8 (.t 32)), oo 34 (.load false 1 (.t 33)), oo 35 (.bin .neq (.t 34) (.v (.int .i64 0)))]) (.cond (.t 35) (.seq (.ops [oo 42 (.mov (.t 0)), oo 43 (.nilc (.t 42)), oo 44 (.faddr 8 (.t 43)), oo 45 (.load false 1 (.t 44)), oo 46 (.mov (.v (.int .i64 0))), oo 47 (.mov (.t 45)), oo 36 (.mov (.t 42)), oo 37 (.mov (.t 43)), oo 38 (.mov (.t 44)), oo 39 (.mov (.t 45)), oo 4 (.mov (.t 46)), oo 5 (.mov (.t 47))]) .ret) .skip)) (.seq (.ops [oo 40 (.mov (.t 1)), oo 41 (.mx (.t 40) [(.v (.int .i64 0))]), oo 4 (.mov (.t 41)), oo 5 (.mov (.v (.int .i64 0)))]) .ret)))))⟩
theorem c53 : aD Try.prog 53 = some F53 := by kernel_rfl
theorem KU {H0 H : AH} {t : Nat} {m : Mg} {v : AV} {fuel : Int} {f : AF} {Q : AE → AF → AH → Prop} (O : jQ H0 H t m v) (B : MgB m) (hf : fuel < 9223372036854775808) (hf0 : -9223372036854775808 ≤ fuel) (e0 : f 0 = .ptr t 0 0) (e1 : f 1 = .int .i64 fuel)
    (hQ : ∀ f H' v', jQ H0 H' t (gG m fuel).1 v' → MgB (gG m fuel).1 → f 0 = .ptr t 0 0 → f 1 = .int .i64 (gG m fuel).2 → Q .normal f H') : zF.wp Try.prog Q f H := by
  unfold zF
  simp only [push_cast, ↓reduceIte, Nat.reduceEqDiff, reduceCtorEq, Nat.reduceAdd, Nat.reduceLT, Nat.reduceLeDiff]
  generalize hW : gG m fuel = W at hQ
  unfold gG at hW
  refine aJ (fun (s : Nat × Mg × Int) f H' => (∃ v, jQ H0 H' t s.2.1 v) ∧ MgB s.2.1 ∧ eA s.2.1 < s.1 ∧ s.2.2 < 9223372036854775808 ∧ -9223372036854775808 ≤ s.2.2 ∧ f 0 = .ptr t 0 0 ∧ f 1 = .int .i64 s.2.2 ∧ W = CP s.1 s.2.1 s.2.2) (fun s => s.1) (eA m + 1, m, fuel) ⟨⟨v, O⟩, B, Nat.lt_succ_self _, hf, hf0, e0, e1, hW.symm⟩ ?_
  clear O B hf hf0 e0 e1 hW
  rintro ⟨n, m', fuel'⟩ f H' ⟨⟨v', O⟩, B, hn, hf, hf0, e0, e1, hs⟩
  dsimp only at O B hn hf hf0 e1 hs
  obtain ⟨n, rfl⟩ : ∃ q, n = q + 1 := ⟨n - 1, by omega⟩
  have ob := O.ob
  unfold mgC at ob
  simp only [CP] at hs
  by_cases h1 : fuel' > 0
  · by_cases h2 : m'.broken = 0
    · rw [if_pos ⟨h1, h2⟩] at hs
      simp only [push_cast, ↓reduceIte, Nat.reduceEqDiff, reduceCtorEq, Nat.reduceAdd, Nat.reduceLT, Nat.reduceLeDiff, aB, aA, e0, e1, h1, h2, ob, decide_true]
      cases hnx : qZ m' with
      | none =>
        rw [hnx] at hs
        have i0 : (none : Option (List Val)).isSome = false := rfl
        (refine aC.look (DY O B) ?_; simp only [push_cast, ↓reduceIte, Nat.reduceEqDiff, reduceCtorEq, Nat.reduceAdd, Nat.reduceLT, Nat.reduceLeDiff, aB, aA, hnx, i0, e0, e1])
        rw [hs] at hQ
        exact hQ _ _ v' O B e0 e1
      | some k =>
        rw [hnx] at hs
        dsimp only at hs
        have i1 : (some k : Option (List Val)).isSome = true := rfl
        have hp := CO hnx
        have hkl : k.length < 1099511627776 := by
          rcases hp.2 with h | h
          · cases hx : m'.la[m'.ai]? with
            | none => rw [hx] at h; cases h
            | some u => rw [hx] at h; cases h; exact B.ra u (List.mem_of_getElem? hx)
          · cases hx : m'.lb[m'.bi]? with
            | none => rw [hx] at h; cases h
            | some u => rw [hx] at h; cases h; exact B.rb u (List.mem_of_getElem? hx)
        obtain ⟨b1, b2, _⟩ := KS B k
        have ha := B.la
        have hb := B.lb
        have htd : eA m' < 1099511627776 := by unfold eA; omega
        (refine aC.look (DY O B) ?_; simp only [push_cast, ↓reduceIte, Nat.reduceEqDiff, reduceCtorEq, Nat.reduceAdd, Nat.reduceLT, Nat.reduceLeDiff, aB, aA, hnx, i1, e0, e1, GZ])
        refine (OB O B k hkl).mono fun r H2 ⟨hr, v2, O2⟩ => ?_
        subst hr
        have w1 : IntKind.i64.wrap (fuel' - (dS m' k).length) = fuel' - (dS m' k).length := aG (by omega) (by omega)
        simp only [push_cast, ↓reduceIte, Nat.reduceEqDiff, reduceCtorEq, Nat.reduceAdd, Nat.reduceLT, Nat.reduceLeDiff, e0, e1, w1]
        exact ⟨(n, zE m' k, fuel' - (dS m' k).length), ⟨⟨v2, O2⟩, b1, by dsimp only; omega, by dsimp only; omega, by dsimp only; omega, rfl, hs⟩, by dsimp only; omega⟩
    · rw [if_neg (fun h => h2 h.2)] at hs
      simp only [push_cast, ↓reduceIte, Nat.reduceEqDiff, reduceCtorEq, Nat.reduceAdd, Nat.reduceLT, Nat.reduceLeDiff, aB, aA, e0, e1, h1, h2, ob, decide_true, decide_false]
      rw [hs] at hQ
      exact hQ _ _ v' O B e0 e1
  · rw [if_neg (fun h => h1 h.1)] at hs
    simp only [push_cast, ↓reduceIte, Nat.reduceEqDiff, reduceCtorEq, Nat.reduceAdd, Nat.reduceLT, Nat.reduceLeDiff, aB, aA, e0, e1, h1, decide_false]
    rw [hs] at hQ
    exact hQ _ _ v' O B e0 e1
theorem EA {H0 H : AH} {t : Nat} {m : Mg} {v : AV} {fuel : Int} (O : jQ H0 H t m v) (B : MgB m) (hf : fuel < 9223372036854775808) (hf0 : -9223372036854775808 ≤ fuel) :
    aC Try.prog 53 [.ptr t 0 0, .int .i64 fuel] H fun r H' => r = CQ (gG m fuel) ∧ MgB (gG m fuel).1 ∧ ∃ v', jQ H0 H' t (gG m fuel).1 v' := by
  refine aN c53 (by simp [F53]) ?_
  unfold F53
  simp only [push_cast, ↓reduceIte, Nat.reduceEqDiff, reduceCtorEq, Nat.reduceAdd, Nat.reduceLT, Nat.reduceLeDiff]
  refine KU O B hf hf0 (by rfl) (by rfl) fun f H' v' O' B' e0 e1 => ?_
  have ob := O'.ob
  unfold mgC at ob
  unfold CQ
  by_cases hb : (gG m fuel).1.broken = 0
  · rw [if_pos hb]
    simp only [push_cast, ↓reduceIte, Nat.reduceEqDiff, reduceCtorEq, Nat.reduceAdd, Nat.reduceLT, Nat.reduceLeDiff, aB, aA, e0, e1, ob, hb]
    exact ⟨B', v', O'⟩
  · rw [if_neg hb]
    simp only [push_cast, ↓reduceIte, Nat.reduceEqDiff, reduceCtorEq, Nat.reduceAdd, Nat.reduceLT, Nat.reduceLeDiff, aB, aA, e0, e1, ob, hb]
    exact ⟨B', v', O'⟩
def gH (m : Mg) : AV := if m.broken ≠ 0 then .tup [.nilp, .int .i64 m.broken] else if eA m ≠ 0 then .tup [.nilp, .int .i64 7] else fC m.key m.out m.since m.weight
def F54 : AFn := ⟨40, 1, [.t 2, .t 3], (.seq (.ops [oo 2 (.mov (.v .nilp)), oo 3 (.mov (.v (.int .i64 0)))]) (.seq (.block 0 (.seq (.ops [oo 5 (.mov (.t 0)), oo 6 (.eqn 0 false (.t 5)), oo 4 (.mov (.t 6))]) (.cond (.t 4) (.seq (.ops [oo 2 (.mov (.v .nilp)), oo 3 (.mov (.v (.int .i64 5)))]) .ret) (.seq (.ops [oo 8 (.mov (.t 0)), oo 9 (.nilc (.t 8)), oo 10 (.faddr 8 (.t 9)), oo 11 (.load false 1 (.t 10)), oo 12 (.bin .neq (.t 11) (.v (.int .i64 0))), oo 7 (.mov (.t 12))]) (.cond (.t 7) (.seq (.ops [oo 40 (.mov (.t 0)), oo 41 (.nilc (.t 40)), oo 42 (.faddr 8 (.t 41)), oo 43 (.load false 1 (.t 42)), oo 44 (.mov (.v .nilp)), oo 45 (.mov (.t 43)), oo 13 (.mov (.t 40)), oo 14 (.mov (.t 41)), oo 15 (.mov (.t 42)), oo 16 (.mov (.t 43)), oo 2 (.mov (.t 44)), oo 3 (.mov (.t 45))]) .ret) (.seq (.ops [oo 18 (.mov (.t 0)), oo 19 (.call 56 [(.t 18)]), oo 20 (.un .not (.t 19)), oo 17 (.mov (.t 20))]) (.cond (.t 17) (.seq (.ops [oo 2 (.mov (.v .nilp)), oo 3 (.mov (.v (.int .i64 7)))]) .ret) .skip))))))) (.seq (.ops [oo 40 (.mov (.t 0)), oo 41 (.nilc (.t 40)), oo 42 (.faddr 0 (.t 41)), oo 43 (.load false 1 (.t 42)), oo 44 (.mov (.t 0)), oo 45 (.nilc (.t 44)), oo 46 (.faddr 7 (.t 45)), oo 47 (.load false 1 (.t 46)), oo 48 (.mov (.t 0)), oo 49 (.nilc (.t 48)), oo 50 (.faddr 2 (.t 49)), oo 51 (.load false 1 (.t 50)), oo 52 (.mov (.t 0)), oo 53 (.nilc (.t 52)), oo 54 (.faddr 1 (.t 53)), oo 55 (.load false 1 (.t 54)), oo 56 (.call 90 [(.t 43), (.t 47), (.t 51), (.t 55)]), oo 57 (.ext (.t 56) 0), oo 58 (.ext (.t 56) 1), oo 59 (.mov (.t 57)), oo 60 (.mov (.t 58)), oo 21 (.mov (.t 40)), oo 22 (.mov (.t 41)), oo 23 (.mov (.t 42)), oo 24 (.mov (.t 43)), oo 25 (.mov (.t 44)), oo 26 (.mov (.t 45)), oo 27 (.mov (.t 46)), oo 28 (.mov (.t 47)), oo 29 (.mov (.t 48)), oo 30 (.mov (.t 49)), oo 31 (.mov (.t 50)), oo 32 (.mov (.t 51)), oo 33 (.mov (.t 52)), oo 34 (.mov (.t 53)), oo 35 (.mov (.t 54)), oo 36 (.mov (.t 55)), oo 37 (.mov (.t 56)), oo 38 (.mov (.t 57)), oo 39 (.mov (.t 58)), oo 2 (.mov (.t 59)), oo 3 (.mov (.t 60))]) .ret)))⟩
theorem c54 : aD Try.prog 54 = some F54 := by kernel_rfl
theorem zG (n : Nat) (key : Int) (l : List Upd) (since : List Tm) (w : Int) : cl n (fC key l since w) = true := by
  unfold fC
  have := qX n (KQ key l since w)
  split
  · rfl
  · split <;> simp [cl, cls, this]
theorem HA {H0 H : AH} {t : Nat} {m : Mg} {v : AV} (O : jQ H0 H t m v) (B : MgB m) : aC Try.prog 54 [.ptr t 0 0] H fun r H' => r = gH m ∧ H' = H := by
  refine aI c54 (fun n => ?_) (by simp [F54]) ?_
  · unfold gH
    split
    · rfl
    · split
      · rfl
      · exact zG n _ _ _ _
  unfold F54
  have ob := O.ob
  unfold mgC at ob
  have sc := dJ O.own
  by_cases h1 : m.broken = 0
  · by_cases h2 : eA m = 0
    · have hA : gH m = fC m.key m.out m.since m.weight := by rw [gH, if_neg (by simpa using h1), if_neg (by simpa using h2)]
      obtain ⟨x, y, e⟩ : ∃ x y, fC m.key m.out m.since m.weight = .tup [x, y] := by
        unfold fC
        split
        · exact ⟨_, _, rfl⟩
        · split <;> exact ⟨_, _, rfl⟩
      rw [hA, e]
      have hd : decide (m.broken = 0 ∧ eA m = 0) = true := by simp [h1, h2]
      have hw : decide (eA m = 0) = true := by simp [h2]
      simp only [push_cast, ↓reduceIte, Nat.reduceEqDiff, reduceCtorEq, Nat.reduceAdd, Nat.reduceLT, Nat.reduceLeDiff, aB, aA, ob, h1]
      (refine aC.look (DZ O B) ?_; simp only [push_cast, ↓reduceIte, Nat.reduceEqDiff, reduceCtorEq, Nat.reduceAdd, Nat.reduceLT, Nat.reduceLeDiff, aB, aA, hd, hw, h1, h2])
      simp only [push_cast, ↓reduceIte, Nat.reduceEqDiff, reduceCtorEq, Nat.reduceAdd, Nat.reduceLT, Nat.reduceLeDiff, aB, aA, ob]
      (refine aC.look (zD m.key v (fK m.since) m.out m.since m.weight _ (dP O.own) (by have := B.tot; omega) B.ro rfl B.since (fun _ => rfl)) ?_; simp only [push_cast, ↓reduceIte, Nat.reduceEqDiff, reduceCtorEq, Nat.reduceAdd, Nat.reduceLT, Nat.reduceLeDiff, aB, aA, e])
      (repeat (first | exact List.prefix_refl _ | refine List.IsPrefix.trans ?_ (List.prefix_append _ _)))
    · have hA : gH m = .tup [.nilp, .int .i64 7] := by rw [gH, if_neg (by simpa using h1), if_pos h2]
      rw [hA]
      have hd : decide (m.broken = 0 ∧ eA m = 0) = false := by simp [h2]
      simp only [push_cast, ↓reduceIte, Nat.reduceEqDiff, reduceCtorEq, Nat.reduceAdd, Nat.reduceLT, Nat.reduceLeDiff, aB, aA, ob, h1]
      (refine aC.look (DZ O B) ?_; simp only [push_cast, ↓reduceIte, Nat.reduceEqDiff, reduceCtorEq, Nat.reduceAdd, Nat.reduceLT, Nat.reduceLeDiff, aB, aA, hd, h1, h2])
      (repeat (first | exact List.prefix_refl _ | refine List.IsPrefix.trans ?_ (List.prefix_append _ _)))
  · have hA : gH m = .tup [.nilp, .int .i64 m.broken] := by rw [gH, if_pos h1]
    rw [hA]
    simp only [push_cast, ↓reduceIte, Nat.reduceEqDiff, reduceCtorEq, Nat.reduceAdd, Nat.reduceLT, Nat.reduceLeDiff, aB, aA, ob, h1]
    (repeat (first | exact List.prefix_refl _ | refine List.IsPrefix.trans ?_ (List.prefix_append _ _)))
theorem CR (x : AV) (l : List Tm) (H : AH) (hx : elems 2 x H = some (l.map aX)) (hl : l.length < 1099511627776) : aC Try.prog 65 [x] H fun r H' => r = fK l ∧ H' = H :=
  kM (bytes := 16) (z := .agg [.int .i64 0, .int .i64 0]) (by kernel_rfl) x (l.map aX) H hx (by rw [List.length_map]; omega) (fun n => tW (NG n) l)
def F58 : AFn := ⟨52, 3, [.t 6, .t 7], (.seq (.ops [oo 6 (.mov (.v .nilp)), oo 7 (.mov (.v (.int .i64 0)))]) (.seq (.block 0 (.seq (.ops [oo 11 (.mov (.t 0)), oo 12 (.eqn 0 false (.t 11)), oo 13 (.mov (.t 12)), og 14 13 false (.mov (.t 1)), og 15 13 false (.eqn 0 false (.t 14)), oo 16 (.pick (.t 13) (.v (.bool true)) (.t 15)), oo 10 (.mov (.t 16))]) (.cond (.t 10) (.seq (.ops [oo 6 (.mov (.v .nilp)), oo 7 (.mov (.v (.int .i64 5)))]) .ret) (.seq (.ops [oo 18 (.mov (.t 0)), oo 19 (.call 35 [(.t 18)]), oo 20 (.mov (.t 1)), oo 21 (.call 35 [(.t 20)]), oo 22 (.bin .neq (.t 19) (.t 21)), oo 17 (.mov (.t 22))]) (.cond (.t 17) (.seq (.ops [oo 6 (.mov (.v .nilp)), oo 7 (.mov (.v (.int .i64 1)))]) .ret) .skip))))) (.seq (.seq (.ops [oo 23 (.mov (.t 2)), oo 24 (.call 62 [(.t 23)]), oo 8 (.mov (.t 24))]) (.seq (.ops [oo 25 (.mov (.t 8)), oo 26 (.bin .neq (.t 25) (.v (.int .i64 0)))]) (.cond (.t 26) (.seq (.ops [oo 27 (.mov (.t 8)), oo 6 (.mov (.v .nilp)), oo 7 (.mov (.t 27))]) .ret) .skip))) (.seq (.ops [oo 28 (.mov (.t 0)), oo 29 (.call 35 [(.t 28)]), oo 30 (.mov (.t 0)), oo 31 (.call 34 [(.t 30)]), oo 32 (.mov (.t 1)), oo 33 (.call 34 [(.t 32)]), oo 34 (.bin .add (.t 31) (.t 33)), oo 35 (.mov (.t 2)), oo 36 (.call 65 [(.t 35)]), oo 37 (.build [(.int .i64 0), (.int .i64 0), .nils, .nils, (.int .i64 0), .nils, (.int .i64 0), .nils, (.int .i64 0)] [(0, 1, (.t 29)), (1, 1, (.t 34)), (2, 1, (.t 36))]), oo 38 (.box 9 (.t 37)), oo 9 (.mov (.t 38))]) (.seq (.ops [oo 39 (.mov (.t 9)), oo 40 (.mov (.t 9)), oo 41 (.mov (.t 0)), oo 42 (.call 20 [(.t 41)]), oo 43 (.mov (.t 1)), oo 44 (.call 20 [(.t 43)]), oo 45 (.nilc (.t 39)), oo 46 (.faddr 3 (.t 45)), oo 47 (.faddr 0 (.t 46)), on (.store 1 (.t 47) (.t 42)), oo 48 (.nilc (.t 40)), oo 49 (.faddr 5 (.t 48)), oo 50 (.faddr 0 (.t 49)), on (.store 1 (.t 50) (.t 44))]) (.seq (.ops [oo 51 (.mov (.t 9)), oo 6 (.mov (.t 51)), oo 7 (.mov (.v (.int .i64 0)))]) .ret))))))⟩
theorem c58 : aD Try.prog 58 = some F58 := by kernel_rfl
theorem sI (x y z : AV) (h : x = .nilp ∨ ∃ b, x = dL b ∧ y = .nilp) (H : AH) : aC Try.prog 58 [x, y, z] H fun r H' => r = .tup [.nilp, .int .i64 5] ∧ H' = H := by
  refine aI c58 (fun _ => rfl) (by simp [F58]) ?_
  unfold F58
  rcases h with rfl | ⟨b, rfl, rfl⟩
  · simp only [push_cast, ↓reduceIte, Nat.reduceEqDiff, reduceCtorEq, Nat.reduceAdd, Nat.reduceLT, Nat.reduceLeDiff]
    (repeat (first | exact List.prefix_refl _ | refine List.IsPrefix.trans ?_ (List.prefix_append _ _)))
  · simp only [push_cast, ↓reduceIte, Nat.reduceEqDiff, reduceCtorEq, Nat.reduceAdd, Nat.reduceLT, Nat.reduceLeDiff, dL]
    (repeat (first | exact List.prefix_refl _ | refine List.IsPrefix.trans ?_ (List.prefix_append _ _)))
def mg0 (b1 b2 : Bt) (g1 g2 : Gr) (since : List Tm) : Mg := ⟨b1.key, IntKind.i64.wrap (b1.weight + b2.weight), since, hP g1, 0, hP g2, 0, [], 0⟩
theorem EB {b1 b2 : Bt} {g1 g2 : Gr} (y : AV) (since : List Tm) (H : AH) (G1 : Gs b1 g1) (G2 : Gs b2 g2) (v1 : Vd 549755813888 b1) (v2 : Vd 549755813888 b2) (t1 : b1.times.length < 274877906944) (t2 : b2.times.length < 274877906944) (hy : elems 2 y H = some (since.map aX)) (hsl : since.length < 1099511627776) :
    aC Try.prog 58 [dL b1, dL b2, y] H fun r H' => H <+: H' ∧ (b1.key ≠ b2.key → r = .tup [.nilp, .int .i64 1]) ∧ (b1.key = b2.key → eM since ≠ 0 → r = .tup [.nilp, .int .i64 (eM since)]) ∧
      (b1.key = b2.key → eM since = 0 → ∃ t, r = .tup [.ptr t 0 0, .int .i64 0] ∧ jQ H H' t (mg0 b1 b2 g1 g2 since) .nils) := by
  refine aN c58 (by simp [F58]) ?_
  unfold F58
  by_cases hk : b1.key = b2.key
  · simp only [push_cast, ↓reduceIte, Nat.reduceEqDiff, reduceCtorEq, Nat.reduceAdd, Nat.reduceLT, Nat.reduceLeDiff, aB, aA, dL]
    (refine aC.look (yH b1 _) ?_; try simp only [push_cast, ↓reduceIte, Nat.reduceEqDiff, reduceCtorEq, Nat.reduceAdd, Nat.reduceLT, Nat.reduceLeDiff, aB, aA])
    (refine aC.look (yH b2 _) ?_; simp only [push_cast, ↓reduceIte, Nat.reduceEqDiff, reduceCtorEq, Nat.reduceAdd, Nat.reduceLT, Nat.reduceLeDiff, aB, aA, hk])
    (refine aC.look (yU y since _ hy hsl) ?_; try simp only [push_cast, ↓reduceIte, Nat.reduceEqDiff, reduceCtorEq, Nat.reduceAdd, Nat.reduceLT, Nat.reduceLeDiff, aB, aA])
    by_cases hc : eM since = 0
    · simp only [push_cast, ↓reduceIte, Nat.reduceEqDiff, reduceCtorEq, Nat.reduceAdd, Nat.reduceLT, Nat.reduceLeDiff, aB, aA, hc]
      have cu : ∀ l, cells (upsA l) = [upsA l] ∧ cX (upsA l) = true := fun _ => ⟨rfl, rfl⟩
      (refine aC.look (yH b1 _) ?_; simp only [push_cast, ↓reduceIte, Nat.reduceEqDiff, reduceCtorEq, Nat.reduceAdd, Nat.reduceLT, Nat.reduceLeDiff, aB, aA, hk])
      (refine aC.look (lY b1 _) ?_; try simp only [push_cast, ↓reduceIte, Nat.reduceEqDiff, reduceCtorEq, Nat.reduceAdd, Nat.reduceLT, Nat.reduceLeDiff, aB, aA])
      (refine aC.look (lY b2 _) ?_; try simp only [push_cast, ↓reduceIte, Nat.reduceEqDiff, reduceCtorEq, Nat.reduceAdd, Nat.reduceLT, Nat.reduceLeDiff, aB, aA])
      (refine aC.look (CR y since _ hy hsl) ?_; simp only [push_cast, ↓reduceIte, Nat.reduceEqDiff, reduceCtorEq, Nat.reduceAdd, Nat.reduceLT, Nat.reduceLeDiff, aB, aA, fK])
      (refine aC.look (KN G1 v1 (by omega) _) ?_; try simp only [push_cast, ↓reduceIte, Nat.reduceEqDiff, reduceCtorEq, Nat.reduceAdd, Nat.reduceLT, Nat.reduceLeDiff, aB, aA])
      (refine aC.look (KN G2 v2 (by omega) _) ?_; simp only [push_cast, ↓reduceIte, Nat.reduceEqDiff, reduceCtorEq, Nat.reduceAdd, Nat.reduceLT, Nat.reduceLeDiff, aB, aA, cu])
      refine ⟨List.prefix_append _ _, H.length, rfl, aQ (List.prefix_refl _), Nat.le_refl _, ?_, .inl ⟨rfl, rfl⟩, fun e => by cases e⟩
      rw [bC]
      unfold mgC mg0
      dsimp only
      rw [hk]
      rfl
    · simp only [push_cast, ↓reduceIte, Nat.reduceEqDiff, reduceCtorEq, Nat.reduceAdd, Nat.reduceLT, Nat.reduceLeDiff, aB, aA, hc]
      exact List.prefix_refl _
  · simp only [push_cast, ↓reduceIte, Nat.reduceEqDiff, reduceCtorEq, Nat.reduceAdd, Nat.reduceLT, Nat.reduceLeDiff, aB, aA, dL]
    (refine aC.look (yH b1 _) ?_; try simp only [push_cast, ↓reduceIte, Nat.reduceEqDiff, reduceCtorEq, Nat.reduceAdd, Nat.reduceLT, Nat.reduceLeDiff, aB, aA])
    (refine aC.look (yH b2 _) ?_; simp only [push_cast, ↓reduceIte, Nat.reduceEqDiff, reduceCtorEq, Nat.reduceAdd, Nat.reduceLT, Nat.reduceLeDiff, aB, aA, hk])
    exact List.prefix_refl _
theorem OC {b1 b2 : Bt} {g1 g2 : Gr} {since : List Tm} (t1 : (hP g1).length < 274877906944) (t2 : (hP g2).length < 274877906944) (s1 : bB (hP g1)) (s2 : bB (hP g2)) (hsl : since.length < 1099511627776) : MgB (mg0 b1 b2 g1 g2 since) :=
  ⟨Nat.zero_le _, Nat.zero_le _, by show 0 + ((hP g1).length - 0) + ((hP g2).length - 0) < _; omega, by show (hP g1).length < _; omega, by show (hP g2).length < _; omega, s1, s2, hsl, fun u h => absurd h List.not_mem_nil⟩
theorem KV (fuel : Int) (H : AH) : aC Try.prog 53 [.nilp, .int .i64 fuel] H fun r H' => r = .tup [.int .i64 0, .int .i64 5] ∧ H' = H := by
  refine aI c53 (fun _ => rfl) (by simp [F53]) ?_
  unfold F53
  simp only [push_cast, ↓reduceIte, Nat.reduceEqDiff, reduceCtorEq, Nat.reduceAdd, Nat.reduceLT, Nat.reduceLeDiff]
  (repeat (first | exact List.prefix_refl _ | refine List.IsPrefix.trans ?_ (List.prefix_append _ _)))
theorem HB (H : AH) : aC Try.prog 54 [.nilp] H fun r H' => r = .tup [.nilp, .int .i64 5] ∧ H' = H := by
  refine aI c54 (fun _ => rfl) (by simp [F54]) ?_
  unfold F54
  simp only [push_cast, ↓reduceIte, Nat.reduceEqDiff, reduceCtorEq, Nat.reduceAdd, Nat.reduceLT, Nat.reduceLeDiff]
  (repeat (first | exact List.prefix_refl _ | refine List.IsPrefix.trans ?_ (List.prefix_append _ _)))
theorem KX (H : AH) : aC Try.prog 56 [.nilp] H fun r H' => r = .bool false ∧ H' = H := by
  refine aI c56 (fun _ => rfl) (by simp [F56]) ?_
  unfold F56
  simp only [push_cast, ↓reduceIte, Nat.reduceEqDiff, reduceCtorEq, Nat.reduceAdd, Nat.reduceLT, Nat.reduceLeDiff]
  (repeat (first | exact List.prefix_refl _ | refine List.IsPrefix.trans ?_ (List.prefix_append _ _)))
theorem KY (H : AH) : aC Try.prog 57 [.nilp] H fun r H' => r = .int .i64 0 ∧ H' = H := by
  refine aI c57 (fun _ => rfl) (by simp [F57]) ?_
  unfold F57
  simp only [push_cast, ↓reduceIte, Nat.reduceEqDiff, reduceCtorEq, Nat.reduceAdd, Nat.reduceLT, Nat.reduceLeDiff]
  (repeat (first | exact List.prefix_refl _ | refine List.IsPrefix.trans ?_ (List.prefix_append _ _)))
end Go.Eng
end
section
set_option linter.unusedVariables false
set_option linter.unusedSimpArgs false
set_option maxRecDepth 10000
namespace Go.Eng
open Go Go.Proofs
def F55 : AFn := ⟨4, 1, [.t 2], (.seq (.ops [oo 2 (.mov (.v (.int .i64 0)))]) (.seq (.ops [oo 3 (.mov (.t 0)), oo 2 (.mov (.t 3))]) .ret))⟩
theorem c55 : aD Try.prog 55 = some F55 := by kernel_rfl
theorem dR (n : Int) (H : AH) : aC Try.prog 55 [.int .i64 n] H fun r H' => r = .int .i64 n ∧ H' = H := by
  refine aI c55 (fun _ => rfl) (by simp [F55]) ?_
  unfold F55
  simp only [push_cast, ↓reduceIte, Nat.reduceEqDiff, reduceCtorEq, Nat.reduceAdd, Nat.reduceLT, Nat.reduceLeDiff]
  (repeat (first | exact List.prefix_refl _ | refine List.IsPrefix.trans ?_ (List.prefix_append _ _)))
def CS : List Upd := [⟨[⟨0, 1, ⟨#[]⟩⟩], ⟨0, 0⟩, 1⟩]
def CT : List Upd := [⟨[⟨0, 1, ⟨#[]⟩⟩], ⟨0, 0⟩, -1⟩, ⟨[⟨0, 2, ⟨#[]⟩⟩], ⟨0, 0⟩, 1⟩]
def m11 : Mg := mg0 (fL 1 CS []) (fL 1 CT []) (NX 1 CS []) (NX 1 CT []) []
theorem PN : qY 1 CS [] = .tup [dL (fL 1 CS []), .int .i64 0] := by rw [qY, if_pos (by decide)]
theorem PO : qY 1 CT [] = .tup [dL (fL 1 CT []), .int .i64 0] := by rw [qY, if_pos (by decide)]
theorem PP : CQ (gG m11 1) = .tup [.int .i64 0, .int .i64 0] := by rfl
theorem PQ : CQ (gG (gG m11 1).1 5) = .tup [.int .i64 4, .int .i64 0] := by rfl
def HL : Mg := (gG (gG m11 1).1 5).1
def b11 : Bt := KQ HL.key HL.out HL.since HL.weight
theorem PR : gH HL = .tup [dL b11, .int .i64 0] := by rfl
theorem PT : b11.times.length = 1 := by rfl
theorem PU : b11.weight = 3 := by rfl
theorem OD : MgB m11 := OC (by decide) (by decide) (by unfold bB; decide) (by unfold bB; decide) (by decide)
def F52 : AFn := ⟨90, 0, [.t 0], (.seq (.ops [oo 0 (.mov (.v (.bool false)))]) (.seq (.ops [oo 15 (.build [(.int .i64 0), (.int .i64 0), (.str ⟨#[]⟩)] [(1, 1, (.v (.int .i64 1)))]), oo 16 (.bslz 3 1 (.agg [(.int .i64 0), (.int .i64 0), (.str ⟨#[]⟩)]) [(0, (.t 15))]), oo 17 (.build [(.int .i64 0), (.int .i64 0), (.str ⟨#[]⟩)] [(1, 1, (.v (.int .i64 2)))]), oo 18 (.bslz 3 1 (.agg [(.int .i64 0), (.int .i64 0), (.str ⟨#[]⟩)]) [(0, (.t 17))]), oo 1 (.mov (.t 16)), oo 2 (.mov (.t 18))]) (.seq (.ops [oo 20 (.mov (.t 1)), oo 21 (.build [.nils, (.int .i64 0), (.int .i64 0), (.int .i64 0)] [(0, 1, (.t 20)), (3, 1, (.v (.int .i64 1)))]), oo 22 (.bslz 4 1 (.agg [.nils, (.int .i64 0), (.int .i64 0), (.int .i64 0)]) [(0, (.t 21))]), oo 23 (.call 18 [(.v (.int .i64 1)), (.t 22), (.v .nils)]), oo 19 (.mov (.t 23)), oo 24 (.ext (.t 19) 0), oo 25 (.ext (.t 19) 1), oo 3 (.mov (.t 24)), oo 4 (.mov (.t 25))]) (.seq (.ops [oo 27 (.mov (.t 1)), oo 28 (.build [.nils, (.int .i64 0), (.int .i64 0), (.int .i64 0)] [(0, 1, (.t 27)), (3, 1, (.v (.int .i64 (-1))))]), oo 29 (.mov (.t 2)), oo 30 (.build [.nils, (.int .i64 0), (.int .i64 0), (.int .i64 0)] [(0, 1, (.t 29)), (3, 1, (.v (.int .i64 1)))]), oo 31 (.bslz 4 2 (.agg [.nils, (.int .i64 0), (.int .i64 0), (.int .i64 0)]) [(0, (.t 28)), (1, (.t 30))]), oo 32 (.call 18 [(.v (.int .i64 1)), (.t 31), (.v .nils)]), oo 26 (.mov (.t 32)), oo 33 (.ext (.t 26) 0), oo 34 (.ext (.t 26) 1), oo 5 (.mov (.t 33)), oo 6 (.mov (.t 34))]) (.seq (.ops [oo 36 (.mov (.t 3)), oo 37 (.mov (.t 5)), oo 38 (.call 58 [(.t 36), (.t 37), (.v .nils)]), oo 35 (.mov (.t 38)), oo 39 (.ext (.t 35) 0), oo 40 (.ext (.t 35) 1), oo 7 (.mov (.t 39)), oo 8 (.mov (.t 40))]) (.seq (.seq (.ops [oo 41 (.mov (.t 8)), oo 42 (.call 55 [(.t 41)]), oo 43 (.bin .neq (.t 42) (.v (.int .i64 0))), oo 44 (.mov (.t 43)), og 45 44 false (.mov (.t 7)), og 46 44 false (.eqn 0 false (.t 45)), oo 47 (.pick (.t 44) (.v (.bool true)) (.t 46))]) (.cond (.t 47) (.seq (.ops [oo 0 (.mov (.v (.bool false)))]) .ret) .skip)) (.seq (.ops [oo 49 (.mov (.t 7)), oo 50 (.call 53 [(.t 49), (.v (.int .i64 1))]), oo 48 (.mov (.t 50)), oo 51 (.ext (.t 48) 0), oo 52 (.ext (.t 48) 1), oo 9 (.mov (.t 51)), oo 10 (.mov (.t 52))]) (.seq (.ops [oo 54 (.mov (.t 7)), oo 55 (.call 53 [(.t 54), (.v (.int .i64 5))]), oo 53 (.mov (.t 55)), oo 56 (.ext (.t 53) 0), oo 57 (.ext (.t 53) 1), oo 11 (.mov (.t 56)), oo 12 (.mov (.t 57))]) (.seq (.ops [oo 59 (.mov (.t 7)), oo 60 (.call 54 [(.t 59)]), oo 58 (.mov (.t 60)), oo 61 (.ext (.t 58) 0), oo 62 (.ext (.t 58) 1), oo 13 (.mov (.t 61)), oo 14 (.mov (.t 62))]) (.seq (.ops [oo 63 (.mov (.t 10)), oo 64 (.call 55 [(.t 63)]), oo 65 (.mov (.t 12)), oo 66 (.call 55 [(.t 65)]), oo 67 (.bin .add (.t 64) (.t 66)), oo 68 (.mov (.t 14)), oo 69 (.call 55 [(.t 68)]), oo 70 (.bin .add (.t 67) (.t 69)), oo 71 (.bin .eql (.t 70) (.v (.int .i64 0))), oo 72 (.mov (.t 71)), og 73 72 true (.mov (.t 9)), og 74 72 true (.bin .eql (.t 73) (.v (.int .i64 0))), oo 75 (.pick (.t 72) (.t 74) (.v (.bool false))), oo 76 (.mov (.t 75)), og 77 76 true (.mov (.t 11)), og 78 76 true (.bin .eql (.t 77) (.v (.int .i64 4))), oo 79 (.pick (.t 76) (.t 78) (.v (.bool false))), oo 80 (.mov (.t 79)), og 81 80 true (.mov (.t 13)), og 82 80 true (.call 33 [(.t 81)]), og 83 80 true (.bin .eql (.t 82) (.v (.int .i64 1))), oo 84 (.pick (.t 80) (.t 83) (.v (.bool false))), oo 85 (.mov (.t 84)), og 86 85 true (.mov (.t 13)), og 87 85 true (.call 34 [(.t 86)]), og 88 85 true (.bin .eql (.t 87) (.v (.int .i64 3))), oo 89 (.pick (.t 85) (.t 88) (.v (.bool false))), oo 0 (.mov (.t 89))]) .ret))))))))))⟩
theorem c52 : iX Try.prog (fun d => d == 16 || d == 18 || d == 22 || d == 31) 52 = some F52 := by kernel_rfl
theorem sJ (H : AH) : aC Try.prog 52 [] H fun r H' => r = .bool true ∧ H' = H := by
  refine aI c52 (fun _ => rfl) (by simp [F52]) ?_
  unfold F52
  simp only [push_cast, ↓reduceIte, Nat.reduceEqDiff, reduceCtorEq, Nat.reduceAdd, Nat.reduceLT, Nat.reduceLeDiff]
  (refine aC.look (yZ 1 (upsA CS) .nils CS [] _ rfl (by decide) (by unfold bB; decide) rfl (by decide) (fun h => absurd rfl h)) ?_; simp only [push_cast, ↓reduceIte, Nat.reduceEqDiff, reduceCtorEq, Nat.reduceAdd, Nat.reduceLT, Nat.reduceLeDiff, aB, aA, PN, dL])
  (refine aC.look (yZ 1 (upsA CT) .nils CT [] _ rfl (by decide) (by unfold bB; decide) rfl (by decide) (fun h => absurd rfl h)) ?_; simp only [push_cast, ↓reduceIte, Nat.reduceEqDiff, reduceCtorEq, Nat.reduceAdd, Nat.reduceLT, Nat.reduceLeDiff, aB, aA, PO, dL])
  have v1 : Vd 549755813888 (fL 1 CS []) := mK 1 CS [] (by decide)
  have v2 : Vd 549755813888 (fL 1 CT []) := mK 1 CT [] (by decide)
  refine (EB .nils [] _ (mJ 1 CS []) (mJ 1 CT []) v1 v2 (by decide) (by decide) rfl (by decide)).mono fun r H1 ⟨hp, _, _, hr⟩ => ?_
  obtain ⟨t, rfl, O⟩ := hr rfl rfl
  simp only [push_cast, ↓reduceIte, Nat.reduceEqDiff, reduceCtorEq, Nat.reduceAdd, Nat.reduceLT, Nat.reduceLeDiff]
  (refine aC.look (dR _ _) ?_; try simp only [push_cast, ↓reduceIte, Nat.reduceEqDiff, reduceCtorEq, Nat.reduceAdd, Nat.reduceLT, Nat.reduceLeDiff, aB, aA])
  have B := OD
  refine (EA (m := m11) O B (by decide) (by decide)).mono fun r H2 ⟨hr2, B2, v2, O2⟩ => ?_
  rw [PP] at hr2
  subst hr2
  simp only [push_cast, ↓reduceIte, Nat.reduceEqDiff, reduceCtorEq, Nat.reduceAdd, Nat.reduceLT, Nat.reduceLeDiff]
  refine (EA O2 B2 (by decide) (by decide)).mono fun r H3 ⟨hr3, B3, v3, O3⟩ => ?_
  rw [PQ] at hr3
  subst hr3
  simp only [push_cast, ↓reduceIte, Nat.reduceEqDiff, reduceCtorEq, Nat.reduceAdd, Nat.reduceLT, Nat.reduceLeDiff]
  (refine aC.look (HA (m := HL) O3 B3) ?_; simp only [push_cast, ↓reduceIte, Nat.reduceEqDiff, reduceCtorEq, Nat.reduceAdd, Nat.reduceLT, Nat.reduceLeDiff, aB, aA, PR, dL])
  have w00 : IntKind.i64.wrap (0 + 0) = 0 := by decide
  have n44 : (4 : Int) = 4 := rfl
  have n01 : (0 : Int) + 1 = 1 := rfl
  have n33 : (3 : Int) = 3 := rfl
  (refine aC.look (dR _ _) ?_; try simp only [push_cast, ↓reduceIte, Nat.reduceEqDiff, reduceCtorEq, Nat.reduceAdd, Nat.reduceLT, Nat.reduceLeDiff, aB, aA])
  (refine aC.look (dR _ _) ?_; try simp only [push_cast, ↓reduceIte, Nat.reduceEqDiff, reduceCtorEq, Nat.reduceAdd, Nat.reduceLT, Nat.reduceLeDiff, aB, aA])
  (refine aC.look (dR _ _) ?_; simp only [push_cast, ↓reduceIte, Nat.reduceEqDiff, reduceCtorEq, Nat.reduceAdd, Nat.reduceLT, Nat.reduceLeDiff, aB, aA, w00])
  (refine aC.look (NM b11 _) ?_; simp only [push_cast, ↓reduceIte, Nat.reduceEqDiff, reduceCtorEq, Nat.reduceAdd, Nat.reduceLT, Nat.reduceLeDiff, aB, aA, PT, n01])
  (refine aC.look (lY b11 _) ?_; simp only [push_cast, ↓reduceIte, Nat.reduceEqDiff, reduceCtorEq, Nat.reduceAdd, Nat.reduceLT, Nat.reduceLeDiff, aB, aA, PU])
  exact ((((List.prefix_append _ _).trans (List.prefix_append _ _)).trans (List.prefix_append _ _)).trans (List.prefix_append _ _)).trans O3.pre
end Go.Eng
end
section
set_option linter.unusedVariables false
set_option linter.unusedSimpArgs false
set_option maxRecDepth 10000
namespace Go.Eng
open Go Go.Proofs
def hZ (r : List Val) : Bool := decide (r.length > 30) || r.any fun v => decide (v.f2.size > 5000)
def oE (l : List Upd) : Bool := decide (l.length > 60) || l.any fun u => hZ u.f0
def F9 : AFn := ⟨20, 1, [.t 2], (.seq (.ops [oo 2 (.mov (.v (.bool false)))]) (.seq (.seq (.ops [oo 4 (.mov (.t 0)), oo 5 (.len (.t 4)), oo 6 (.bin .gtr (.t 5) (.v (.int .i64 30)))]) (.cond (.t 6) (.seq (.ops [oo 2 (.mov (.v (.bool true)))]) .ret) .skip)) (.seq (.seq (.ops [oo 3 (.mov (.v (.int .i64 0)))]) (.block 0 (.loop (.seq (.seq (.ops [oo 7 (.mov (.t 3)), oo 8 (.mov (.t 0)), oo 9 (.len (.t 8)), oo 10 (.bin .lss (.t 7) (.t 9))]) (.cond (.t 10) .skip (.exit 0))) (.seq (.block 1 (.seq (.ops [oo 13 (.mov (.t 0)), oo 14 (.mov (.t 3)), oo 15 (.iaddr 3 (.t 13) (.t 14)), oo 16 (.faddr 2 (.t 15)), oo 17 (.load false 1 (.t 16)), oo 18 (.slen (.t 17)), oo 19 (.bin .gtr (.t 18) (.v (.int .i64 5000)))]) (.cond (.t 19) (.seq (.ops [oo 2 (.mov (.v (.bool true)))]) .ret) .skip))) (.ops [oo 11 (.mov (.t 3)), oo 12 (.bin .add (.t 11) (.v (.int .i64 1))), oo 3 (.mov (.t 12))])))))) (.seq (.ops [oo 2 (.mov (.v (.bool false)))]) .ret))))⟩
theorem c9 : aD Try.prog 9 = some F9 := by kernel_rfl
theorem KZ (x : AV) (r : List Val) (H : AH) (hx : elems 3 x H = some (r.map gA)) : aC Try.prog 9 [x] H fun y H' => y = .bool (hZ r) ∧ H' = H := by
  refine aI c9 (fun _ => rfl) (by simp [F9]) ?_
  unfold F9
  have la := aS hx
  rw [List.length_map] at la
  by_cases h0 : r.length > 30
  · have h0' : (r.length : Int) > 30 := by omega
    simp only [push_cast, ↓reduceIte, Nat.reduceEqDiff, reduceCtorEq, Nat.reduceAdd, Nat.reduceLT, Nat.reduceLeDiff, aB, aA, la, h0']
    exact ⟨List.prefix_refl _, by simp [hZ, h0]⟩
  · have h0' : ¬ (r.length : Int) > 30 := by omega
    simp only [push_cast, ↓reduceIte, Nat.reduceEqDiff, reduceCtorEq, Nat.reduceAdd, Nat.reduceLT, Nat.reduceLeDiff, aB, aA, la, h0']
    refine aJ (fun (i : Nat) f H' => H <+: H' ∧ i ≤ r.length ∧ f 0 = x ∧ f 3 = .int .i64 i ∧ (r.take i).any (fun v => decide (v.f2.size > 5000)) = false) (fun i => r.length - i) 0 ⟨List.prefix_refl _, Nat.zero_le _, rfl, rfl, rfl⟩ ?_
    rintro i f H' ⟨hp, h1, e0, e3, hs⟩
    by_cases hi : i < r.length
    · have hi' : (i : Int) < r.length := by omega
      have ax : aF 3 x (.int .i64 (i : Int)) = some (ptk x i 0) := aO hx (by rw [List.length_map]; exact hi) _
      have lx : (r.map gA)[i]? = some (gA r[i]) := by simp [hi]
      have hsn : (r.take (i + 1)).any (fun v => decide (v.f2.size > 5000)) = ((r.take i).any (fun v => decide (v.f2.size > 5000)) || decide (r[i].f2.size > 5000)) := by rw [List.take_succ_eq_append_getElem hi, List.any_append]; simp
      have hm := List.getElem_mem hi
      generalize r[i] = v at lx hsn hm
      have pv : part false 1 2 (gA v) = some (.str v.f2) := rfl
      by_cases hc : v.f2.size > 5000
      · have hc' : (v.f2.size : Int) > 5000 := by omega
        simp only [push_cast, ↓reduceIte, Nat.reduceEqDiff, reduceCtorEq, Nat.reduceAdd, Nat.reduceLT, Nat.reduceLeDiff, aB, aA, e0, e3, la, hi', ax, gJ, aW hx lx, hp, pv, hc']
        have : hZ r = true := by
          unfold hZ
          rw [Bool.or_eq_true]
          exact .inr (List.any_eq_true.2 ⟨v, hm, by simpa using hc⟩)
        rw [this]
      · have hc' : ¬ (v.f2.size : Int) > 5000 := by omega
        simp only [push_cast, ↓reduceIte, Nat.reduceEqDiff, reduceCtorEq, Nat.reduceAdd, Nat.reduceLT, Nat.reduceLeDiff, aB, aA, e0, e3, la, hi', ax, gJ, aW hx lx, hp, pv, hc']
        refine ⟨i + 1, ⟨hi, ?_, ?_⟩, by omega⟩
        · rw [aG (by omega) (by omega)]; simp
        · rw [hsn, hs]; simpa using hc
    · have hi' : ¬ (i : Int) < r.length := by omega
      simp only [push_cast, ↓reduceIte, Nat.reduceEqDiff, reduceCtorEq, Nat.reduceAdd, Nat.reduceLT, Nat.reduceLeDiff, aB, aA, e0, e3, la, hi']
      rw [List.take_of_length_le (by omega)] at hs
      exact ⟨hp, by simp only [hZ, hs]; simp; omega⟩
def F15 : AFn := ⟨19, 1, [.t 2], (.seq (.ops [oo 2 (.mov (.v (.bool false)))]) (.seq (.seq (.ops [oo 4 (.mov (.t 0)), oo 5 (.len (.t 4)), oo 6 (.bin .gtr (.t 5) (.v (.int .i64 60)))]) (.cond (.t 6) (.seq (.ops [oo 2 (.mov (.v (.bool true)))]) .ret) .skip)) (.seq (.seq (.ops [oo 3 (.mov (.v (.int .i64 0)))]) (.block 0 (.loop (.seq (.seq (.ops [oo 7 (.mov (.t 3)), oo 8 (.mov (.t 0)), oo 9 (.len (.t 8)), oo 10 (.bin .lss (.t 7) (.t 9))]) (.cond (.t 10) .skip (.exit 0))) (.seq (.block 1 (.seq (.ops [oo 13 (.mov (.t 0)), oo 14 (.mov (.t 3)), oo 15 (.iaddr 4 (.t 13) (.t 14)), oo 16 (.faddr 0 (.t 15)), oo 17 (.load false 1 (.t 16)), oo 18 (.call 9 [(.t 17)])]) (.cond (.t 18) (.seq (.ops [oo 2 (.mov (.v (.bool true)))]) .ret) .skip))) (.ops [oo 11 (.mov (.t 3)), oo 12 (.bin .add (.t 11) (.v (.int .i64 1))), oo 3 (.mov (.t 12))])))))) (.seq (.ops [oo 2 (.mov (.v (.bool false)))]) .ret))))⟩
theorem c15 : aD Try.prog 15 = some F15 := by kernel_rfl
theorem EC (x : AV) (l : List Upd) (H : AH) (hx : elems 4 x H = some (l.map upA)) : aC Try.prog 15 [x] H fun y H' => y = .bool (oE l) ∧ H' = H := by
  refine aI c15 (fun _ => rfl) (by simp [F15]) ?_
  unfold F15
  have la := aS hx
  rw [List.length_map] at la
  by_cases h0 : l.length > 60
  · have h0' : (l.length : Int) > 60 := by omega
    simp only [push_cast, ↓reduceIte, Nat.reduceEqDiff, reduceCtorEq, Nat.reduceAdd, Nat.reduceLT, Nat.reduceLeDiff, aB, aA, la, h0']
    exact ⟨List.prefix_refl _, by simp [oE, h0]⟩
  · have h0' : ¬ (l.length : Int) > 60 := by omega
    simp only [push_cast, ↓reduceIte, Nat.reduceEqDiff, reduceCtorEq, Nat.reduceAdd, Nat.reduceLT, Nat.reduceLeDiff, aB, aA, la, h0']
    refine aJ (fun (i : Nat) f H' => H <+: H' ∧ i ≤ l.length ∧ f 0 = x ∧ f 3 = .int .i64 i ∧ (l.take i).any (fun u => hZ u.f0) = false) (fun i => l.length - i) 0 ⟨List.prefix_refl _, Nat.zero_le _, rfl, rfl, rfl⟩ ?_
    rintro i f H' ⟨hp, h1, e0, e3, hs⟩
    by_cases hi : i < l.length
    · have hi' : (i : Int) < l.length := by omega
      have ax : aF 4 x (.int .i64 (i : Int)) = some (ptk x i 0) := aO hx (by rw [List.length_map]; exact hi) _
      have lx : (l.map upA)[i]? = some (upA l[i]) := by simp [hi]
      have hsn : (l.take (i + 1)).any (fun u => hZ u.f0) = ((l.take i).any (fun u => hZ u.f0) || hZ l[i].f0) := by rw [List.take_succ_eq_append_getElem hi, List.any_append]; simp
      have hm := List.getElem_mem hi
      generalize l[i] = u at lx hsn hm
      have pv : part false 1 0 (upA u) = some (bD u.f0) := rfl
      simp only [push_cast, ↓reduceIte, Nat.reduceEqDiff, reduceCtorEq, Nat.reduceAdd, Nat.reduceLT, Nat.reduceLeDiff, aB, aA, e0, e3, la, hi', ax, gJ, aW hx lx, hp, pv]
      (refine aC.look (KZ _ u.f0 _ rfl) ?_; simp only [push_cast, ↓reduceIte, Nat.reduceEqDiff, reduceCtorEq, Nat.reduceAdd, Nat.reduceLT, Nat.reduceLeDiff, aB, aA, e0, e3])
      cases hc : hZ u.f0 with
      | true =>
        simp only [push_cast, ↓reduceIte, Nat.reduceEqDiff, reduceCtorEq, Nat.reduceAdd, Nat.reduceLT, Nat.reduceLeDiff, aB, aA, e0, e3]
        have : oE l = true := by
          unfold oE
          rw [Bool.or_eq_true]
          exact .inr (List.any_eq_true.2 ⟨u, hm, hc⟩)
        exact ⟨hp, by rw [this]⟩
      | false =>
        simp only [push_cast, ↓reduceIte, Nat.reduceEqDiff, reduceCtorEq, Nat.reduceAdd, Nat.reduceLT, Nat.reduceLeDiff, aB, aA, e0, e3]
        refine ⟨i + 1, ⟨hp, hi, ?_, ?_⟩, by omega⟩
        · rw [aG (by omega) (by omega)]; simp
        · rw [hsn, hs, hc]; rfl
    · have hi' : ¬ (i : Int) < l.length := by omega
      simp only [push_cast, ↓reduceIte, Nat.reduceEqDiff, reduceCtorEq, Nat.reduceAdd, Nat.reduceLT, Nat.reduceLeDiff, aB, aA, e0, e3, la, hi']
      rw [List.take_of_length_le (by omega)] at hs
      exact ⟨hp, by simp only [oE, hs]; simp; omega⟩
theorem CU {l : List Upd} (h : oE l = false) : l.length ≤ 60 ∧ ∀ u ∈ l, u.f0.length ≤ 30 := by
  unfold oE at h
  rw [Bool.or_eq_false_iff] at h
  refine ⟨by simpa using h.1, fun u hu => ?_⟩
  have := List.any_eq_false.1 h.2 u hu
  unfold hZ at this
  simp only [Bool.not_eq_true, Bool.or_eq_false_iff] at this
  simpa using this.1
end Go.Eng
end
section
set_option linter.unusedVariables false
set_option linter.unusedSimpArgs false
namespace Go.Eng
open Go Go.Proofs Go.RowKit
def K0 (W : World) : KW := ⟨fun _ => none, fun b => W.heap[b]?, fun _ => none, ioW W⟩
theorem LA (W : World) : Rel (K0 W) W [] :=
  ⟨fun t p h => (by cases h), fun t p sz es h => (by cases h), fun t t' p p' sz es sz' es' n h => (by cases h), fun b o h => h, ⟨fun t p f lp st pd h => (by cases h), fun t t' p p' f lp st pd f' lp' st' pd' n h => (by cases h)⟩, rfl⟩
theorem CV {W w' : World} {K' : KW} {H' : AH} (e : Ext (K0 W) [] K' H') (r : Rel K' w' H') : Below W.heap.size W w' := by
  have hio : ioW w' = ioW W := r.io.trans e.le.io
  have hb : ∀ k, k < W.heap.size → w'.heap[k]? = W.heap[k]? := fun k hk => by
    have h : (K0 W).fz k = some W.heap[k] := Array.getElem?_eq_getElem hk
    rw [r.fz k _ (e.le.fz k _ h)]
    exact h.symm
  unfold ioW at hio
  injection hio with h1 h2 h3
  refine ⟨h1, h2, h3, ?_, hb⟩
  by_cases h : W.heap.size ≤ w'.heap.size
  · exact h
  · have := hb w'.heap.size (by omega)
    rw [Array.getElem?_eq_none (Nat.le_refl _), Array.getElem?_eq_getElem (by omega)] at this
    cases this
theorem calls_law {P : Program} {g : FuncId} {args : List AV} (h : aC P g args [] fun r H' => r = .bool true ∧ H' = []) {W : World} {cargs : Array Value} (ha : RelL (K0 W) args cargs.toList) : Calls P g cargs W fun e w' => e = .returned (.bool true) ∧ Below W.heap.size W w' :=
  (h.2 (K0 W) W cargs (LA W) ha).mono fun e w' ⟨v, K', H', r, h1, h2, h3, h4, h5, h6⟩ => by
    subst h5
    cases h4
    exact ⟨h1, CV h2 h3⟩
section
variable {T : Type} {enc : TypeId × Value → T} {P : Program} {w : World} {base : Nat} {spare : Nat → Bool} {held : Bool}
def fD (enc : TypeId × Value → T) (P : Program) (w : World) (base : Nat) (spare : Nat → Bool) (held : Bool) (t : TypeId) {α : Type} (ec : α → AV) (G : α → Prop) : Prop :=
  ∀ fuel cs x, DataW.trod enc P w base spare held fuel t cs = some x → ∃ y, RelL (K0 w) (cells (ec y)) cs ∧ G y
theorem LB {t : TypeId} {k : IntKind} (ht : P.underlying t = some (.int k)) : fD enc P w base spare held t (fun n => .int k n) (fun n => (Lit.int k n).wf = true) := by
  intro fuel cs x h
  obtain ⟨n, rfl, hx, hw⟩ := DataW.trod_int ht h
  exact ⟨n, RelL.cons (.int k n) (RelL.nil _), hw⟩
theorem PV {t : TypeId} (ht : P.underlying t = some .string) : fD enc P w base spare held t (fun s => .str s) (fun s => s.size ≤ 9223372036854775807) := by
  intro fuel cs x h
  obtain ⟨s, rfl, hx, hw⟩ := DataW.trod_string ht h
  exact ⟨s, RelL.cons (.str s) (RelL.nil _), hw⟩
theorem HC {α : Type} {n : Nat} {p : Nat → α → Prop} (h : ∀ i, i < n → ∃ x, p i x) : ∃ l : List α, l.length = n ∧ ∀ (i : Nat) x, l[i]? = some x → p i x := by
  induction n with
  | zero => exact ⟨[], rfl, fun i x hx => by simp at hx⟩
  | succ n ih =>
    obtain ⟨l, hl, hp⟩ := ih (fun i hi => h i (by omega))
    obtain ⟨x, hx⟩ := h n (by omega)
    refine ⟨l ++ [x], by simp [hl], fun i y hy => ?_⟩
    rcases Nat.lt_or_ge i l.length with hi | hi
    · rw [List.getElem?_append_left hi] at hy; exact hp i y hy
    · have := (List.getElem?_eq_some_iff.1 hy).1
      rw [List.length_append, List.length_singleton] at this
      have : i = n := by omega
      subst this
      have : x = y := by simpa [hl] using hy
      exact this ▸ hx
theorem oF {w : World} {a : Addr} {v : Value} (h : w.cell? a = some v) : a.spot = none ∧ ∃ cs T fr, w.heap[a.block]? = some (.cells cs T fr) ∧ cs[a.off]? = some v := by
  unfold World.cell? at h
  split at h
  · rename_i c T fr hb
    split at h
    · cases h
    · rename_i hs
      refine ⟨by cases hsp : a.spot with | none => rfl | some _ => (rw [hsp] at hs; simp at hs), c, T, fr, hb, h⟩
  · cases h
theorem ED {t e : TypeId} {α : Type} {ec : α → AV} {G : α → Prop} {sz : Nat} (ht : P.underlying t = some (.slice e)) (hc : P.cellsOf e = sz) (h0 : 0 < sz) (hf : ∀ y, fits sz (ec y)) (ho : fD enc P w base spare held e ec G) :
    fD enc P w base spare held t (fun (l : List α) => .list sz (l.map ec) false) (fun (l : List α) => l.length ≤ 9223372036854775807 ∧ ∀ y ∈ l, G y) := by
  intro fuel cs x h
  rcases Go.Deep.open_slice ht h with ⟨rfl, _⟩ | ⟨a, len, cap, m, n, D, Pl, rfl, hb, hl, hm, hmm, rfl, hx⟩
  · exact ⟨[], RelL.cons (.list0 (fun e => by cases e)) (RelL.nil _), by simp, fun y hy => by simp at hy⟩
  · have hlm : len ≤ m := by rw [hmm]; split <;> omega
    have key : ∀ i, i < len → ∃ y, (∃ c, c.length = sz ∧ RelL (K0 w) (cells (ec y)) c ∧ ∀ j, j < sz → w.cell? ((a.add (i * sz)).add j) = c[j]?) ∧ G y := by
      intro i hi
      obtain ⟨cs', h1, h2⟩ := hx i (by omega)
      obtain ⟨y, hy, hg⟩ := ho _ _ _ h2
      rw [hc] at h1
      have h3 := World.cells?_some h1
      exact ⟨y, ⟨cs', h3.2.1, hy, h3.2.2⟩, hg⟩
    obtain ⟨l, hll, hp⟩ := HC key
    have hml : len ≤ 9223372036854775807 := by unfold maxLen at hm; omega
    refine ⟨l, RelL.cons ?_ (RelL.nil _), by omega, fun y hy => ?_⟩
    · by_cases hz : len = 0
      · rw [hz] at hll
        obtain rfl := List.eq_nil_of_length_eq_zero hll
        rw [hz]
        exact .list0 (fun e => by cases e)
      · obtain ⟨v0, hv0⟩ : ∃ v, w.cell? a = some v := by
          obtain ⟨y, ⟨c, c1, c2, c3⟩, _⟩ := key 0 (by omega)
          have := c3 0 h0
          rw [List.getElem?_eq_getElem (by omega), Nat.zero_mul] at this
          exact ⟨_, this⟩
        obtain ⟨hsp, cs0, T, fr, hb0, _⟩ := oF hv0
        obtain ⟨blk, off, spt⟩ := a
        have hsp' : spt = none := hsp
        subst hsp'
        have hb0' : w.heap[blk]? = some (.cells cs0 T fr) := hb0
        have hadd : ∀ i j, ((⟨blk, off, none⟩ : Addr).add i).add j = ⟨blk, off + (i + j), none⟩ := fun i j => by
          rw [Go.Deep.add_add]
          unfold Addr.add
          split
          · rename_i e; rw [e]; rfl
          · rfl
        have cell : ∀ i, i < len → ∀ j, j < sz → ∃ v, w.cell? ⟨blk, off + (i * sz + j), none⟩ = some v := fun i hi j hj => by
          obtain ⟨y, ⟨c, c1, c2, c3⟩, _⟩ := key i hi
          have := c3 j hj
          rw [List.getElem?_eq_getElem (by omega), hadd] at this
          exact ⟨_, this⟩
        have hget : ∀ k v, w.cell? ⟨blk, k, none⟩ = some v → k < cs0.size ∧ cs0.getD k Go.undef = v := fun k v hk => by
          obtain ⟨_, cs1, T1, fr1, q1, q2⟩ := oF hk
          have q1' : w.heap[blk]? = some (.cells cs1 T1 fr1) := q1
          rw [hb0'] at q1'
          cases q1'
          have q2' : cs0[k]? = some v := q2
          exact ⟨(Array.getElem?_eq_some_iff.1 q2').1, by simp [Array.getD_eq_getD_getElem?, q2']⟩
        refine .list (K := K0 w) (cs := cs0) (T := T) (fr := fr) hb0' (by rw [List.length_map]; exact hll) hl (fun e => by cases e) ?_ (fun x hx => ?_) (fun i k x y hxi hyk => ?_)
        · obtain ⟨v, hv⟩ := cell (len - 1) (by omega) (sz - 1) (by omega)
          have := (hget _ _ hv).1
          have e1 : (len - 1) * sz + sz = len * sz := by
            have : len = len - 1 + 1 := by omega
            rw (config := { occs := .pos [2] }) [this]
            rw [Nat.add_mul, Nat.one_mul]
          omega
        · obtain ⟨y, _, rfl⟩ := List.mem_map.1 hx
          exact hf y
        · rw [List.getElem?_map] at hxi
          cases hli : l[i]? with
          | none => rw [hli] at hxi; cases hxi
          | some z =>
            rw [hli] at hxi
            cases hxi
            have hil : i < len := by rw [← hll]; exact (List.getElem?_eq_some_iff.1 hli).1
            obtain ⟨⟨c, c1, c2, c3⟩, _⟩ := hp i z hli
            have hk : k < sz := by rw [← (hf z).1]; exact (List.getElem?_eq_some_iff.1 hyk).1
            have hck : c[k]? = some c[k] := List.getElem?_eq_getElem (by omega)
            have h4 := c3 k hk
            rw [hck] at h4
            have h5 : w.cell? ⟨blk, off + (i * sz + k), none⟩ = some c[k] := by rw [← hadd]; exact h4
            rw [(hget _ _ h5).2]
            exact c2.2 k y _ hyk hck
    · obtain ⟨i, hi⟩ := List.getElem?_of_mem hy
      exact (hp i y hi).2
theorem gZ {t : TypeId} {fs : Array Field} {fuel : Nat} {cs : List Value} {x : DataW T × List MemPlace} (ht : P.underlying t = some (.struct fs)) (h : DataW.trod enc P w base spare held fuel t cs = some x)
    (i : Nat) (f : Field) (hf : fs[i]? = some f) {α : Type} {ec : α → AV} {G : α → Prop} {sz : Nat} (hc : P.cellsOf f.type = sz) (ho : fD enc P w base spare held f.type ec G) :
    cs.length = P.cellsOf t ∧ ∃ y, RelL (K0 w) (cells (ec y)) ((cs.drop f.offset).take sz) ∧ G y := by
  obtain ⟨xs, n, _, _, hl, hlen, hx⟩ := DataW.trod_struct ht h
  have h1 := hx i f hf
  have hi : i < xs.length := by rw [hlen]; exact (Array.getElem?_eq_some_iff.1 hf).1
  rw [List.getElem?_eq_getElem hi, hc] at h1
  obtain ⟨y, h2, h3⟩ := ho _ _ _ h1
  exact ⟨hl, y, h2, h3⟩
theorem HD {K : KW} {xs ys : List AV} {cs : List Value} {n : Nat} (h1 : RelL K xs (cs.take n)) (h2 : RelL K ys (cs.drop n)) : RelL K (xs ++ ys) cs := by
  have := h1.append h2
  rwa [List.take_append_drop] at this
end
end Go.Eng
end
section
set_option linter.unusedVariables false
namespace Go.Eng
open Go Go.Proofs
def GV (v : Val) : Prop := (Lit.int .i64 v.f0).wf = true ∧ (Lit.int .i64 v.f1).wf = true ∧ v.f2.size ≤ 9223372036854775807
def GL {α : Type} (G : α → Prop) (l : List α) : Prop := l.length ≤ 9223372036854775807 ∧ ∀ v ∈ l, G v
def GT (t : Tm) : Prop := (Lit.int .i64 t.f0).wf = true ∧ (Lit.int .i64 t.f1).wf = true
def GU (u : Upd) : Prop := GL GV u.f0 ∧ GT u.f1 ∧ (Lit.int .i64 u.f2).wf = true
theorem zH {K : KW} {xs ys zs : List AV} {cs : List Value} {a b c : Nat} (hl : cs.length = a + (b + c)) (h1 : RelL K xs ((cs.drop 0).take a)) (h2 : RelL K ys ((cs.drop a).take b)) (h3 : RelL K zs ((cs.drop (a + b)).take c)) : RelL K (xs ++ (ys ++ zs)) cs := by
  rw [List.drop_zero] at h1
  refine HD h1 (HD h2 ?_)
  rw [List.drop_drop]
  rwa [List.take_of_length_le (by rw [List.length_drop]; omega)] at h3
theorem LC {K : KW} {xs ys : List AV} {cs : List Value} {a b : Nat} (hl : cs.length = a + b) (h1 : RelL K xs ((cs.drop 0).take a)) (h2 : RelL K ys ((cs.drop a).take b)) : RelL K (xs ++ ys) cs := by
  rw [List.drop_zero] at h1
  refine HD h1 ?_
  rwa [List.take_of_length_le (by rw [List.length_drop]; omega)] at h2
theorem PW (v : Val) : fits 3 (gA v) := ⟨rfl, fun y hy => by
  have : y ∈ [AV.int .i64 v.f0, .int .i64 v.f1, .str v.f2] := hy
  simp at this
  rcases this with rfl | rfl | rfl <;> rfl⟩
theorem PX (u : Upd) : fits 4 (upA u) := ⟨rfl, fun y hy => by
  have : y ∈ [bD u.f0, AV.int .i64 u.f1.f0, .int .i64 u.f1.f1, .int .i64 u.f2] := hy
  simp at this
  rcases this with rfl | rfl | rfl | rfl <;> rfl⟩
section
variable {T : Type} {enc : TypeId × Value → T} {w : World} {base : Nat} {spare : Nat → Bool} {held : Bool}
theorem PY : fD enc Try.prog w base spare held 56 gA GV := by
  intro fuel cs x h
  obtain ⟨hl, y0, k0, g0⟩ := gZ Try.underlying56 h 0 _ rfl (sz := 1) (by kernel_rfl) (LB Try.underlying3)
  obtain ⟨_, y1, k1, g1⟩ := gZ Try.underlying56 h 1 _ rfl (sz := 1) (by kernel_rfl) (LB Try.underlying3)
  obtain ⟨_, y2, k2, g2⟩ := gZ Try.underlying56 h 2 _ rfl (sz := 1) (by kernel_rfl) (PV Try.underlying9)
  have hl : cs.length = 3 := hl.trans (by kernel_rfl)
  exact ⟨⟨y0, y1, y2⟩, zH (a := 1) (b := 1) (c := 1) hl k0 k1 k2, g0, g1, g2⟩
theorem PZ : fD enc Try.prog w base spare held 24 bD (GL GV) := ED Try.underlying24 (by kernel_rfl) (by decide) PW PY
theorem OE : fD enc Try.prog w base spare held 48 aX GT := by
  intro fuel cs x h
  obtain ⟨hl, y0, k0, g0⟩ := gZ Try.underlying48 h 0 _ rfl (sz := 1) (by kernel_rfl) (LB Try.underlying3)
  obtain ⟨_, y1, k1, g1⟩ := gZ Try.underlying48 h 1 _ rfl (sz := 1) (by kernel_rfl) (LB Try.underlying3)
  have hl : cs.length = 2 := hl.trans (by kernel_rfl)
  exact ⟨⟨y0, y1⟩, LC (a := 1) (b := 1) hl k0 k1, g0, g1⟩
theorem upE : fD enc Try.prog w base spare held 50 upA GU := by
  intro fuel cs x h
  obtain ⟨hl, y0, k0, g0⟩ := gZ Try.underlying50 h 0 _ rfl (sz := 1) (by kernel_rfl) PZ
  obtain ⟨_, y1, k1, g1⟩ := gZ Try.underlying50 h 1 _ rfl (sz := 2) (by kernel_rfl) OE
  obtain ⟨_, y2, k2, g2⟩ := gZ Try.underlying50 h 2 _ rfl (sz := 1) (by kernel_rfl) (LB Try.underlying3)
  have hl : cs.length = 4 := hl.trans (by kernel_rfl)
  exact ⟨⟨y0, y1, y2⟩, zH (a := 1) (b := 2) (c := 1) hl k0 k1 k2, g0, g1, g2⟩
theorem upsE : fD enc Try.prog w base spare held 33 upsA (GL GU) := ED Try.underlying33 (by kernel_rfl) (by decide) PX upE
end
end Go.Eng
end
section
set_option linter.unusedVariables false
set_option linter.unusedSimpArgs false
set_option maxRecDepth 10000
namespace Go.Eng
open Go Go.Proofs
theorem sK (H : AH) : aC Try.prog 18 [.int .i64 0, .nils, .nils] H fun r H' => r = .tup [dL (fL 0 [] []), .int .i64 0] ∧ H' = H := by
  have h : qY 0 [] [] = .tup [dL (fL 0 [] []), .int .i64 0] := by
    unfold qY
    rw [if_pos (by decide)]
  have := yZ 0 .nils .nils [] [] H rfl (by decide) (fun u h => absurd h List.not_mem_nil) rfl (by decide) (fun h => absurd rfl h)
  rw [h] at this
  exact this
def F8 : AFn := ⟨110, 3, [.t 6], (.seq (.ops [oo 6 (.mov (.v (.bool false)))]) (.seq (.seq (.ops [oo 20 (.mov (.t 1)), oo 21 (.call 15 [(.t 20)])]) (.cond (.t 21) (.seq (.ops [oo 22 (.call 52 []), oo 6 (.mov (.t 22))]) .ret) .skip)) (.seq (.ops [oo 7 (.mov (.v .nilp))]) (.seq (.ops [oo 24 (.mov (.t 7)), oo 25 (.mov (.t 2)), oo 26 (.call 53 [(.t 24), (.t 25)]), oo 23 (.mov (.t 26)), oo 27 (.ext (.t 23) 0), oo 28 (.ext (.t 23) 1), oo 8 (.mov (.t 27)), oo 9 (.mov (.t 28))]) (.seq (.ops [oo 30 (.mov (.t 7)), oo 31 (.call 54 [(.t 30)]), oo 29 (.mov (.t 31)), oo 32 (.ext (.t 29) 0), oo 33 (.ext (.t 29) 1), oo 10 (.mov (.t 32)), oo 11 (.mov (.t 33))]) (.seq (.seq (.ops [oo 34 (.mov (.t 8)), oo 35 (.bin .neq (.t 34) (.v (.int .i64 0))), oo 36 (.mov (.t 35)), og 37 36 false (.mov (.t 9)), og 38 36 false (.call 55 [(.t 37)]), og 39 36 false (.bin .neq (.t 38) (.v (.int .i64 5))), oo 40 (.pick (.t 36) (.v (.bool true)) (.t 39)), oo 41 (.mov (.t 40)), og 42 41 false (.mov (.t 10)), og 43 41 false (.eqn 0 true (.t 42)), oo 44 (.pick (.t 41) (.v (.bool true)) (.t 43)), oo 45 (.mov (.t 44)), og 46 45 false (.mov (.t 11)), og 47 45 false (.call 55 [(.t 46)]), og 48 45 false (.bin .neq (.t 47) (.v (.int .i64 5))), oo 49 (.pick (.t 45) (.v (.bool true)) (.t 48)), oo 50 (.mov (.t 49)), og 51 50 false (.mov (.t 7)), og 52 50 false (.call 56 [(.t 51)]), oo 53 (.pick (.t 50) (.v (.bool true)) (.t 52)), oo 54 (.mov (.t 53)), og 55 54 false (.mov (.t 7)), og 56 54 false (.call 57 [(.t 55)]), og 57 54 false (.bin .neq (.t 56) (.v (.int .i64 0))), oo 58 (.pick (.t 54) (.v (.bool true)) (.t 57))]) (.cond (.t 58) (.seq (.ops [oo 6 (.mov (.v (.bool false)))]) .ret) .skip)) (.seq (.ops [oo 60 (.mov (.t 0)), oo 61 (.mov (.t 1)), oo 62 (.call 18 [(.t 60), (.t 61), (.v .nils)]), oo 59 (.mov (.t 62)), oo 63 (.ext (.t 59) 0), oo 64 (.ext (.t 59) 1), oo 12 (.mov (.t 63)), oo 13 (.mov (.t 64))]) (.seq (.ops [oo 66 (.call 18 [(.v (.int .i64 0)), (.v .nils), (.v .nils)]), oo 65 (.mov (.t 66)), oo 67 (.ext (.t 65) 0), oo 68 (.ext (.t 65) 1), oo 14 (.mov (.t 67)), oo 15 (.mov (.t 68))]) (.seq (.ops [oo 70 (.mov (.t 12)), oo 71 (.call 58 [(.t 70), (.v .nilp), (.v .nils)]), oo 69 (.mov (.t 71)), oo 72 (.ext (.t 69) 0), oo 73 (.ext (.t 69) 1), oo 16 (.mov (.t 72)), oo 17 (.mov (.t 73))]) (.seq (.seq (.ops [oo 74 (.mov (.t 13)), oo 75 (.call 55 [(.t 74)]), oo 76 (.bin .neq (.t 75) (.v (.int .i64 0)))]) (.cond (.t 76) (.seq (.ops [oo 77 (.mov (.t 17)), oo 78 (.call 55 [(.t 77)]), oo 79 (.bin .eql (.t 78) (.v (.int .i64 5))), oo 80 (.mov (.t 79)), og 81 80 true (.call 52 []), oo 82 (.pick (.t 80) (.t 81) (.v (.bool false))), oo 6 (.mov (.t 82))]) .ret) .skip)) (.seq (.ops [oo 84 (.mov (.t 12)), oo 85 (.mov (.t 14)), oo 86 (.call 58 [(.t 84), (.t 85), (.v .nils)]), oo 83 (.mov (.t 86)), oo 87 (.ext (.t 83) 0), oo 88 (.ext (.t 83) 1), oo 18 (.mov (.t 87)), oo 19 (.mov (.t 88))]) (.seq (.ops [oo 89 (.mov (.t 17)), oo 90 (.call 55 [(.t 89)]), oo 91 (.bin .eql (.t 90) (.v (.int .i64 5))), oo 92 (.mov (.t 91)), og 93 92 true (.mov (.t 19)), og 94 92 true (.call 55 [(.t 93)]), og 95 92 true (.bin .eql (.t 94) (.v (.int .i64 0))), og 96 92 true (.mov (.t 0)), og 97 92 true (.bin .eql (.t 96) (.v (.int .i64 0))), og 98 92 true (.eqb false (.t 95) (.t 97)), oo 99 (.pick (.t 92) (.t 98) (.v (.bool false))), oo 100 (.mov (.t 99)), og 101 100 true (.mov (.t 18)), og 102 100 true (.eqn 0 false (.t 101)), og 103 100 true (.mov (.t 0)), og 104 100 true (.bin .neq (.t 103) (.v (.int .i64 0))), og 105 100 true (.eqb false (.t 102) (.t 104)), oo 106 (.pick (.t 100) (.t 105) (.v (.bool false))), oo 107 (.mov (.t 106)), og 108 107 true (.call 52 []), oo 109 (.pick (.t 107) (.t 108) (.v (.bool false))), oo 6 (.mov (.t 109))]) .ret))))))))))))⟩
theorem c8 : aD Try.prog 8 = some F8 := by kernel_rfl
theorem mergeNils_law (key : Int) (wk : (Lit.int .i64 key).wf = true) (l : List Upd) (gl : GL GU l) (fuel : Int) (wf : (Lit.int .i64 fuel).wf = true) (H : AH) : aC Try.prog 8 [.int .i64 key, upsA l, .int .i64 fuel] H fun r H' => r = .bool true ∧ H' = H := by
  refine aI c8 (fun _ => rfl) (by simp [F8]) ?_
  unfold F8
  simp only [push_cast, ↓reduceIte, Nat.reduceEqDiff, reduceCtorEq, Nat.reduceAdd, Nat.reduceLT, Nat.reduceLeDiff]
  cases hm : oE l with
  | true =>
    (refine aC.look (EC (upsA l) l _ rfl) ?_; simp only [push_cast, ↓reduceIte, Nat.reduceEqDiff, reduceCtorEq, Nat.reduceAdd, Nat.reduceLT, Nat.reduceLeDiff, aB, aA, hm])
    (refine aC.look (sJ _) ?_; try simp only [push_cast, ↓reduceIte, Nat.reduceEqDiff, reduceCtorEq, Nat.reduceAdd, Nat.reduceLT, Nat.reduceLeDiff, aB, aA])
    (repeat (first | exact List.prefix_refl _ | refine List.IsPrefix.trans ?_ (List.prefix_append _ _)))
  | false =>
    obtain ⟨m1, m2⟩ := CU hm
    have hs : bB l := fun u hu => by have := m2 u hu; omega
    (refine aC.look (EC (upsA l) l _ rfl) ?_; simp only [push_cast, ↓reduceIte, Nat.reduceEqDiff, reduceCtorEq, Nat.reduceAdd, Nat.reduceLT, Nat.reduceLeDiff, aB, aA, hm])
    (refine aC.look (KV fuel _) ?_; try simp only [push_cast, ↓reduceIte, Nat.reduceEqDiff, reduceCtorEq, Nat.reduceAdd, Nat.reduceLT, Nat.reduceLeDiff, aB, aA])
    (refine aC.look (HB _) ?_; try simp only [push_cast, ↓reduceIte, Nat.reduceEqDiff, reduceCtorEq, Nat.reduceAdd, Nat.reduceLT, Nat.reduceLeDiff, aB, aA])
    have n55 : (5 : Int) = 5 := rfl
    (refine aC.look (dR _ _) ?_; try simp only [push_cast, ↓reduceIte, Nat.reduceEqDiff, reduceCtorEq, Nat.reduceAdd, Nat.reduceLT, Nat.reduceLeDiff, aB, aA])
    (refine aC.look (dR _ _) ?_; try simp only [push_cast, ↓reduceIte, Nat.reduceEqDiff, reduceCtorEq, Nat.reduceAdd, Nat.reduceLT, Nat.reduceLeDiff, aB, aA])
    (refine aC.look (KX _) ?_; try simp only [push_cast, ↓reduceIte, Nat.reduceEqDiff, reduceCtorEq, Nat.reduceAdd, Nat.reduceLT, Nat.reduceLeDiff, aB, aA])
    (refine aC.look (KY _) ?_; try simp only [push_cast, ↓reduceIte, Nat.reduceEqDiff, reduceCtorEq, Nat.reduceAdd, Nat.reduceLT, Nat.reduceLeDiff, aB, aA])
    by_cases hc : eO key l [] = 0
    · have hA : qY key l [] = .tup [dL (fL key l []), .int .i64 0] := by rw [qY, if_pos hc]
      have G := mJ key l []
      obtain ⟨k1, k2, k3, k4⟩ := mL key l []
      have hv : Vd 549755813888 (fL key l []) := mK key l [] (fun u hu => by have := m2 u hu; omega)
      have htm : (fL key l []).times.length ≤ 60 := by have := uC key l []; omega
      generalize fL key l [] = b at hA G k1 k2 k3 k4 hv htm
      have G0 := mJ 0 [] []
      have k0 : (fL 0 [] []).key = 0 := (mL 0 [] []).1
      have v0 : Vd 549755813888 (fL 0 [] []) := mK 0 [] [] (fun u h => absurd h List.not_mem_nil)
      have t0 : (fL 0 [] []).times.length < 274877906944 := by decide
      (refine aC.look (yZ key (upsA l) .nils l [] _ rfl (by omega) hs rfl (by decide) (fun h => absurd rfl h)) ?_; simp only [push_cast, ↓reduceIte, Nat.reduceEqDiff, reduceCtorEq, Nat.reduceAdd, Nat.reduceLT, Nat.reduceLeDiff, aB, aA, hA])
      (refine aC.look (sK _) ?_; try simp only [push_cast, ↓reduceIte, Nat.reduceEqDiff, reduceCtorEq, Nat.reduceAdd, Nat.reduceLT, Nat.reduceLeDiff, aB, aA])
      generalize fL 0 [] [] = b0 at G0 k0 v0 t0
      (refine aC.look (sI (dL b) .nilp .nils (.inr ⟨b, rfl, rfl⟩) _) ?_; try simp only [push_cast, ↓reduceIte, Nat.reduceEqDiff, reduceCtorEq, Nat.reduceAdd, Nat.reduceLT, Nat.reduceLeDiff, aB, aA])
      (refine aC.look (dR _ _) ?_; try simp only [push_cast, ↓reduceIte, Nat.reduceEqDiff, reduceCtorEq, Nat.reduceAdd, Nat.reduceLT, Nat.reduceLeDiff, aB, aA])
      refine (EB .nils [] _ G G0 hv v0 (by omega) t0 rfl (by decide)).mono fun r H1 ⟨hp, r1, _, r2⟩ => ?_
      rw [k1, k0] at r1 r2
      by_cases hk : key = 0
      · obtain ⟨t, rfl, O⟩ := r2 hk rfl
        simp only [push_cast, ↓reduceIte, Nat.reduceEqDiff, reduceCtorEq, Nat.reduceAdd, Nat.reduceLT, Nat.reduceLeDiff]
        (refine aC.look (dR _ _) ?_; try simp only [push_cast, ↓reduceIte, Nat.reduceEqDiff, reduceCtorEq, Nat.reduceAdd, Nat.reduceLT, Nat.reduceLeDiff, aB, aA])
        (refine aC.look (dR _ _) ?_; simp only [push_cast, ↓reduceIte, Nat.reduceEqDiff, reduceCtorEq, Nat.reduceAdd, Nat.reduceLT, Nat.reduceLeDiff, aB, aA, hk])
        (refine aC.look (sJ _) ?_; try simp only [push_cast, ↓reduceIte, Nat.reduceEqDiff, reduceCtorEq, Nat.reduceAdd, Nat.reduceLT, Nat.reduceLeDiff, aB, aA])
        exact hp
      · have := r1 hk
        subst this
        have n10 : ¬ (1 : Int) = 0 := by decide
        have ff : (false == false) = true := rfl
        simp only [push_cast, ↓reduceIte, Nat.reduceEqDiff, reduceCtorEq, Nat.reduceAdd, Nat.reduceLT, Nat.reduceLeDiff]
        (refine aC.look (dR _ _) ?_; try simp only [push_cast, ↓reduceIte, Nat.reduceEqDiff, reduceCtorEq, Nat.reduceAdd, Nat.reduceLT, Nat.reduceLeDiff, aB, aA])
        (refine aC.look (dR _ _) ?_; simp only [push_cast, ↓reduceIte, Nat.reduceEqDiff, reduceCtorEq, Nat.reduceAdd, Nat.reduceLT, Nat.reduceLeDiff, aB, aA, hk, n10, ff, decide_false])
        (refine aC.look (sJ _) ?_; try simp only [push_cast, ↓reduceIte, Nat.reduceEqDiff, reduceCtorEq, Nat.reduceAdd, Nat.reduceLT, Nat.reduceLeDiff, aB, aA])
        exact hp
    · have hA : qY key l [] = .tup [.nilp, .int .i64 (eO key l [])] := by rw [qY, if_neg hc]
      (refine aC.look (yZ key (upsA l) .nils l [] _ rfl (by omega) hs rfl (by decide) (fun h => absurd rfl h)) ?_; simp only [push_cast, ↓reduceIte, Nat.reduceEqDiff, reduceCtorEq, Nat.reduceAdd, Nat.reduceLT, Nat.reduceLeDiff, aB, aA, hA])
      (refine aC.look (sK _) ?_; try simp only [push_cast, ↓reduceIte, Nat.reduceEqDiff, reduceCtorEq, Nat.reduceAdd, Nat.reduceLT, Nat.reduceLeDiff, aB, aA])
      (refine aC.look (sI .nilp .nilp .nils (.inl rfl) _) ?_; try simp only [push_cast, ↓reduceIte, Nat.reduceEqDiff, reduceCtorEq, Nat.reduceAdd, Nat.reduceLT, Nat.reduceLeDiff, aB, aA])
      (refine aC.look (dR _ _) ?_; simp only [push_cast, ↓reduceIte, Nat.reduceEqDiff, reduceCtorEq, Nat.reduceAdd, Nat.reduceLT, Nat.reduceLeDiff, aB, aA, hc])
      (refine aC.look (dR _ _) ?_; try simp only [push_cast, ↓reduceIte, Nat.reduceEqDiff, reduceCtorEq, Nat.reduceAdd, Nat.reduceLT, Nat.reduceLeDiff, aB, aA])
      (refine aC.look (sJ _) ?_; try simp only [push_cast, ↓reduceIte, Nat.reduceEqDiff, reduceCtorEq, Nat.reduceAdd, Nat.reduceLT, Nat.reduceLeDiff, aB, aA])
      (repeat (first | exact List.prefix_refl _ | refine List.IsPrefix.trans ?_ (List.prefix_append _ _)))
end Go.Eng
end
