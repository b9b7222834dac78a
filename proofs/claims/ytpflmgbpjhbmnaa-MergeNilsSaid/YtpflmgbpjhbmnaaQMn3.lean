/- KMom, KFront, KNil, KNew, KApp, KJoin, KBat, KAddB, KFrz, KOB, KOBL, KOBF, PGrp, KAdv, KSorted, KRuns, KCons, KAdd, KCheck, PCons, KNewB, KRun, KConcat, KMade, KWeigh, PFind, KFind, KSeek. -/
import Derived.Test.YtpflmgbpjhbmnaaQMn2
import Derived.Test.YtpflmgbpjhbmnaaQMn1
section
set_option linter.unusedSimpArgs false
set_option linter.unusedVariables false
namespace Go.Eng
open Go Go.Proofs
theorem OW {n : Nat} : n < n + 1 + 1 := by omega
theorem OX {n : Nat} : n < n + 1 + 1 + 1 := by omega
theorem OY {n : Nat} : n < n + 1 + 1 + 1 + 1 := by omega
theorem xY {k : IntKind} {z : Int} : cells (.int k z) = [.int k z] := Eq.trans rfl rfl
theorem xZ {x : ByteArray} : cells (.str x) = [.str x] := Eq.trans rfl rfl
theorem tT {x : Bool} : cells (.bool x) = [.bool x] := Eq.trans rfl rfl
theorem tU {n : Nat} {l : List AV} {x : Bool} : cells (.list n l x) = [.list n l x] := Eq.trans rfl rfl
theorem yA {a b c d e : Nat} {x : Bool} : cells (.ref a b c d e x) = [.ref a b c d e x] := Eq.trans rfl rfl
theorem tV : cells .nils = [.nils] := Eq.trans rfl rfl
theorem bP {H : AH} {t sz : Nat} {es : List AV} (h : t < H.length) : obj? (List.set H t (.live sz es)) t = some (sz, es) := by
  unfold obj?; rw [List.getElem?_set_self h]
theorem cB {H : AH} {t u : Nat} {o : aM} (h : t ≠ u) : obj? (List.set H t o) u = obj? H u := by
  unfold obj?; rw [List.getElem?_set_ne h]
theorem exJ {H : AH} : (∃ J, H = H ++ J) = True := eq_true ⟨[], by simp⟩
attribute [push_cast] exJ OW OX OY xY xZ tT tU yA tV
def rX (a b : Int) : Int × Int := if (0 < b ∧ a > IntKind.i64.wrap (9223372036854775807 - b)) ∨ (b < 0 ∧ a < IntKind.i64.wrap (-9223372036854775808 - b)) then (0, 60) else (IntKind.i64.wrap (a + b), 0)
def NC : AFn := ⟨27, 2, [.t 4, .t 5], (.seq (.ops [oo 4 (.mov (.v (.int .i64 0))), oo 5 (.mov (.v (.int .i64 0)))]) (.seq (.seq (.ops [oo 6 (.mov (.t 1)), oo 7 (.bin .gtr (.t 6) (.v (.int .i64 0))), oo 8 (.mov (.t 7)), og 9 8 true (.mov (.t 0)), og 10 8 true (.mov (.t 1)), og 11 8 true (.bin .sub (.v (.int .i64 9223372036854775807)) (.t 10)), og 12 8 true (.bin .gtr (.t 9) (.t 11)), oo 13 (.pick (.t 8) (.t 12) (.v (.bool false))), oo 14 (.mov (.t 13)), og 15 14 false (.mov (.t 1)), og 16 14 false (.bin .lss (.t 15) (.v (.int .i64 0))), og 17 14 false (.mov (.t 16)), og 18 17 true (.mov (.t 0)), og 19 17 true (.mov (.t 1)), og 20 17 true (.bin .sub (.v (.int .i64 (-9223372036854775808))) (.t 19)), og 21 17 true (.bin .lss (.t 18) (.t 20)), og 22 14 false (.pick (.t 17) (.t 21) (.v (.bool false))), oo 23 (.pick (.t 14) (.v (.bool true)) (.t 22))]) (.cond (.t 23) (.seq (.ops [oo 4 (.mov (.v (.int .i64 0))), oo 5 (.mov (.v (.int .i64 60)))]) .ret) .skip)) (.seq (.ops [oo 24 (.mov (.t 0)), oo 25 (.mov (.t 1)), oo 26 (.bin .add (.t 24) (.t 25)), oo 4 (.mov (.t 26)), oo 5 (.mov (.v (.int .i64 0)))]) .ret)))⟩
theorem OZ : aD Try.prog 100 = some NC := by kernel_rfl
theorem KD (a b : Int) (H : AH) : aC Try.prog 100 [.int .i64 a, .int .i64 b] H fun r H' => r = .tup [.int .i64 (rX a b).1, .int .i64 (rX a b).2] ∧ H' = H := by
  refine aN OZ (by simp [NC]) ?_
  unfold NC
  by_cases h1 : b > 0
  · have h3 : ¬ b < 0 := by omega
    by_cases h2 : a > IntKind.i64.wrap (9223372036854775807 - b)
    · simp only [push_cast, ↓reduceIte, Nat.reduceEqDiff, reduceCtorEq, Nat.reduceAdd, Nat.reduceLT, Nat.reduceLeDiff, h1, h2, h3, decide_true, decide_false]
      simp [rX, h1, h2, h3]
    · simp only [push_cast, ↓reduceIte, Nat.reduceEqDiff, reduceCtorEq, Nat.reduceAdd, Nat.reduceLT, Nat.reduceLeDiff, h1, h2, h3, decide_true, decide_false]
      simp [rX, h1, h2, h3]
  · by_cases h3 : b < 0
    · by_cases h2 : a < IntKind.i64.wrap (-9223372036854775808 - b)
      · simp only [push_cast, ↓reduceIte, Nat.reduceEqDiff, reduceCtorEq, Nat.reduceAdd, Nat.reduceLT, Nat.reduceLeDiff, h1, h2, h3, decide_true, decide_false]
        simp [rX, h1, h2, h3]
      · simp only [push_cast, ↓reduceIte, Nat.reduceEqDiff, reduceCtorEq, Nat.reduceAdd, Nat.reduceLT, Nat.reduceLeDiff, h1, h2, h3, decide_true, decide_false]
        simp [rX, h1, h2, h3]
    · simp only [push_cast, ↓reduceIte, Nat.reduceEqDiff, reduceCtorEq, Nat.reduceAdd, Nat.reduceLT, Nat.reduceLeDiff, h1, h3, decide_true, decide_false]
      simp [rX, h1, h3]
def jY (a b : Tm) : Tm := ⟨if b.f0 > a.f0 then b.f0 else a.f0, if b.f1 > a.f1 then b.f1 else a.f1⟩
def qN (a b : Tm) : Tm := ⟨if b.f0 < a.f0 then b.f0 else a.f0, if b.f1 < a.f1 then b.f1 else a.f1⟩
def ND : AFn := ⟨16, 2, [.cell 4 true 2], (.seq (.ops [oo 2 (.box 2 (.t 0)), oo 3 (.box 2 (.t 1)), oo 4 (.alloc 2 (.agg [(.int .i64 0), (.int .i64 0)]))]) (.seq (.ops [oo 5 (.faddr 0 (.t 2)), oo 6 (.load false 1 (.t 5)), oo 7 (.faddr 0 (.t 3)), oo 8 (.load false 1 (.t 7)), oo 9 (.mx (.t 6) [(.t 8)]), oo 10 (.faddr 1 (.t 2)), oo 11 (.load false 1 (.t 10)), oo 12 (.faddr 1 (.t 3)), oo 13 (.load false 1 (.t 12)), oo 14 (.mx (.t 11) [(.t 13)]), oo 15 (.build [(.int .i64 0), (.int .i64 0)] [(0, 1, (.t 9)), (1, 1, (.t 14))]), on (.store 2 (.t 4) (.t 15))]) .ret))⟩
theorem PA : aD Try.prog 128 = some ND := by kernel_rfl
theorem DR (a b : Tm) (H : AH) : aC Try.prog 128 [aX a, aX b] H fun r H' => r = aX (jY a b) ∧ H' = H := by
  refine aI PA (fun _ => rfl) (by simp [ND]) ?_
  unfold ND aX jY
  simp only [push_cast, ↓reduceIte, Nat.reduceEqDiff, reduceCtorEq, Nat.reduceAdd, Nat.reduceLT, Nat.reduceLeDiff, aB, aA]
  (repeat (first | exact List.prefix_refl _ | refine List.IsPrefix.trans ?_ (List.prefix_append _ _)))
def NE : AFn := ⟨16, 2, [.cell 4 true 2], (.seq (.ops [oo 2 (.box 2 (.t 0)), oo 3 (.box 2 (.t 1)), oo 4 (.alloc 2 (.agg [(.int .i64 0), (.int .i64 0)]))]) (.seq (.ops [oo 5 (.faddr 0 (.t 2)), oo 6 (.load false 1 (.t 5)), oo 7 (.faddr 0 (.t 3)), oo 8 (.load false 1 (.t 7)), oo 9 (.mn (.t 6) [(.t 8)]), oo 10 (.faddr 1 (.t 2)), oo 11 (.load false 1 (.t 10)), oo 12 (.faddr 1 (.t 3)), oo 13 (.load false 1 (.t 12)), oo 14 (.mn (.t 11) [(.t 13)]), oo 15 (.build [(.int .i64 0), (.int .i64 0)] [(0, 1, (.t 9)), (1, 1, (.t 14))]), on (.store 2 (.t 4) (.t 15))]) .ret))⟩
theorem PB : aD Try.prog 129 = some NE := by kernel_rfl
theorem KE (a b : Tm) (H : AH) : aC Try.prog 129 [aX a, aX b] H fun r H' => r = aX (qN a b) ∧ H' = H := by
  refine aI PB (fun _ => rfl) (by simp [NE]) ?_
  unfold NE aX qN
  simp only [push_cast, ↓reduceIte, Nat.reduceEqDiff, reduceCtorEq, Nat.reduceAdd, Nat.reduceLT, Nat.reduceLeDiff, aB, aA]
  (repeat (first | exact List.prefix_refl _ | refine List.IsPrefix.trans ?_ (List.prefix_append _ _)))
def NF : AFn := ⟨9, 2, [.t 4], (.seq (.ops [oo 4 (.mov (.v (.bool false)))]) (.seq (.ops [oo 5 (.mov (.t 0)), oo 6 (.mov (.t 1)), oo 7 (.call 61 [(.t 5), (.t 6)]), oo 8 (.bin .eql (.t 7) (.v (.int .i64 0))), oo 4 (.mov (.t 8))]) .ret))⟩
theorem PC : aD Try.prog 102 = some NF := by kernel_rfl
theorem yB (x y : AV) (a b : List Val) (H : AH) (hx : elems 3 x H = some (a.map gA)) (hy : elems 3 y H = some (b.map gA)) (ha : a.length < 1099511627776) (hb : b.length < 1099511627776) : aC Try.prog 102 [x, y] H fun r H' => r = .bool (decide (eT a b = 0)) ∧ H' = H := by
  refine aI PC (fun _ => rfl) (by simp [NF]) ?_
  unfold NF
  simp only [push_cast, ↓reduceIte, Nat.reduceEqDiff, reduceCtorEq, Nat.reduceAdd, Nat.reduceLT, Nat.reduceLeDiff]
  (refine aC.look (jE x y a b H hx hy ha hb) ?_; try simp only [push_cast, ↓reduceIte, Nat.reduceEqDiff, reduceCtorEq, Nat.reduceAdd, Nat.reduceLT, Nat.reduceLeDiff, aB, aA])
  (repeat (first | exact List.prefix_refl _ | refine List.IsPrefix.trans ?_ (List.prefix_append _ _)))
theorem tW {β : Type} {enc : β → AV} {n : Nat} (h : ∀ x, cl n (enc x) = true) (l : List β) : cls n (l.map enc) = true := kZ.2 fun x hx => by
  obtain ⟨y, _, rfl⟩ := List.mem_map.1 hx
  exact h y
theorem OJ (n : Nat) (x : Val) : cl n (gA x) = true := by simp [gA, cl, cls]
theorem NG (n : Nat) (x : Tm) : cl n (aX x) = true := by simp [aX, cl, cls]
theorem rY (n : Nat) (l : List Val) : cl n (bD l) = true := by
  unfold bD
  exact tW (OJ n) l
theorem tX (n : Nat) (u : Upd) : cl n (upA u) = true := by
  have := rY n u.f0
  simp [upA, cl, cls, this]
theorem gC (x : AV) (l : List Val) (H : AH) (hx : elems 3 x H = some (l.map gA)) (hl : l.length < 1099511627776) : aC Try.prog 87 [x] H fun r H' => r = bD l ∧ H' = H :=
  kM (bytes := 32) (z := .agg [.int .i64 0, .int .i64 0, .str ⟨#[]⟩]) (by kernel_rfl) x (l.map gA) H hx (by rw [List.length_map]; omega) (fun n => tW (OJ n) l)
def BT (l : List Val) (k : Int) : AV := if k < 0 ∨ k > l.length then .tup [bD [], bD [], .int .i64 9] else .tup [bD (l.take k.toNat), bD (l.drop k.toNat), .int .i64 0]
theorem nM {f : AF} {sz : Nat} {l : List AV} {x : X} {k : Nat} (h : ev f x = .int .i64 (k : Int)) (hk : k ≤ l.length) : cE f sz (.list sz l false) none (some x) none = some (.list sz (l.take k) false) := by
  simp [cE, gP, h, nat?, hk]
theorem jH {f : AF} {sz : Nat} {l : List AV} {x : X} {k : Nat} (h : ev f x = .int .i64 (k : Int)) (hk : k ≤ l.length) : cE f sz (.list sz l false) (some x) none none = some (.list sz (l.drop k) false) := by
  simp [cE, gP, h, nat?, hk]
theorem yC (H : AH) {sz sz' : Nat} {x : AV} : cU H (.tup [.nils, .nils, x]) H (.tup [.list sz [] false, .list sz' [] false, x]) :=
  (cU.tup (i := 0) (cU.nils H sz) (vs := [.nils, .nils, x]) rfl).trans (cU.tup (i := 1) (cU.nils H sz') (vs := [.list sz [] false, .nils, x]) rfl)
def NH : AFn := ⟨23, 2, [.t 4, .t 5, .t 6], (.seq (.ops [oo 4 (.mov (.v .nils)), oo 5 (.mov (.v .nils)), oo 6 (.mov (.v (.int .i64 0)))]) (.seq (.seq (.ops [oo 7 (.mov (.t 1)), oo 8 (.bin .lss (.t 7) (.v (.int .i64 0))), oo 9 (.mov (.t 8)), og 10 9 false (.mov (.t 1)), og 11 9 false (.mov (.t 0)), og 12 9 false (.len (.t 11)), og 13 9 false (.bin .gtr (.t 10) (.t 12)), oo 14 (.pick (.t 9) (.v (.bool true)) (.t 13))]) (.cond (.t 14) (.seq (.ops [oo 4 (.mov (.v .nils)), oo 5 (.mov (.v .nils)), oo 6 (.mov (.v (.int .i64 9)))]) .ret) .skip)) (.seq (.ops [oo 23 (.mov (.t 0)), oo 24 (.mov (.t 1)), oo 25 (.slice 3 (.t 23) none (some (.t 24)) none), oo 27 (.mov (.t 0)), oo 28 (.mov (.t 1)), oo 29 (.slice 3 (.t 27) (some (.t 28)) none none), oo 26 (.call 87 [(.t 25)]), oo 30 (.call 87 [(.t 29)]), oo 31 (.mov (.t 26)), oo 32 (.mov (.t 30)), oo 33 (.mov (.v (.int .i64 0))), oo 15 (.mov (.t 23)), oo 16 (.mov (.t 24)), oo 17 (.mov (.t 25)), oo 19 (.mov (.t 27)), oo 20 (.mov (.t 28)), oo 21 (.mov (.t 29)), oo 18 (.mov (.t 26)), oo 22 (.mov (.t 30)), oo 4 (.mov (.t 31)), oo 5 (.mov (.t 32)), oo 6 (.mov (.t 33))]) .ret)))⟩
theorem PD : aD Try.prog 101 = some NH := by kernel_rfl
theorem NI (l : List Val) (k : Int) (H : AH) (hl : l.length < 1099511627776) : aC Try.prog 101 [bD l, .int .i64 k] H fun r H' => r = BT l k ∧ H' = H := by
  refine bH PD (v := BT l k) (fun n => ?_) (by simp [NH]) ?_
  · unfold BT
    split <;> simp [cl, cls, rY]
  unfold NH
  have hl2 : dE (bD l) = some l.length := by simp [bD, dE]
  by_cases h1 : k < 0
  · simp only [push_cast, ↓reduceIte, Nat.reduceEqDiff, reduceCtorEq, Nat.reduceAdd, Nat.reduceLT, Nat.reduceLeDiff, h1, decide_true]
    exact ⟨H, by rw [BT, if_pos (.inl h1)]; exact yC H, List.prefix_refl _⟩
  · by_cases h2 : k > l.length
    · simp only [push_cast, ↓reduceIte, Nat.reduceEqDiff, reduceCtorEq, Nat.reduceAdd, Nat.reduceLT, Nat.reduceLeDiff, h1, h2, hl2, decide_true, decide_false]
      exact ⟨H, by rw [BT, if_pos (.inr h2)]; exact yC H, List.prefix_refl _⟩
    · obtain ⟨j, rfl⟩ : ∃ j : Nat, k = j := ⟨k.toNat, by omega⟩
      have e : BT l j = .tup [bD (l.take j), bD (l.drop j), .int .i64 0] := by
        rw [BT, if_neg (by omega)]
        rfl
      rw [e]
      simp only [push_cast, ↓reduceIte, Nat.reduceEqDiff, reduceCtorEq, Nat.reduceAdd, Nat.reduceLT, Nat.reduceLeDiff, h1, h2, hl2, decide_true, decide_false]
      unfold bD
      rw [nM (k := j) (by rfl) (by rw [List.length_map]; omega)]
      simp only [push_cast, ↓reduceIte, Nat.reduceEqDiff, reduceCtorEq, Nat.reduceAdd, Nat.reduceLT, Nat.reduceLeDiff, ]
      rw [jH (k := j) (by rfl) (by rw [List.length_map]; omega)]
      simp only [push_cast, ↓reduceIte, Nat.reduceEqDiff, reduceCtorEq, Nat.reduceAdd, Nat.reduceLT, Nat.reduceLeDiff, ← List.map_take, ← List.map_drop]
      (refine aC.look (gC _ (l.take j) _ (by simp [elems]) (by simp only [List.length_take]; omega)) ?_; try simp only [push_cast, ↓reduceIte, Nat.reduceEqDiff, reduceCtorEq, Nat.reduceAdd, Nat.reduceLT, Nat.reduceLeDiff, aB, aA])
      (refine aC.look (gC _ (l.drop j) _ (by simp [elems]) (by simp only [List.length_drop]; omega)) ?_; try simp only [push_cast, ↓reduceIte, Nat.reduceEqDiff, reduceCtorEq, Nat.reduceAdd, Nat.reduceLT, Nat.reduceLeDiff, aB, aA])
      exact ⟨_, cU.refl _ _, by (repeat (first | exact List.prefix_refl _ | refine List.IsPrefix.trans ?_ (List.prefix_append _ _)))⟩
end Go.Eng
end
section
set_option linter.unusedSimpArgs false
set_option linter.unusedVariables false
namespace Go.Eng
open Go Go.Proofs
def dI : List Tm → Tm → Bool
  | [], _ => false
  | p :: r, t => if p.f0 > t.f0 then false else if p.f1 ≤ t.f1 then true else dI r t
def fK (l : List Tm) : AV := .list 2 (l.map aX) false
def NJ : AFn := ⟨24, 2, [.t 4], (.seq (.ops [oo 3 (.box 2 (.t 1)), oo 4 (.mov (.v (.bool false)))]) (.seq (.seq (.ops [oo 7 (.mov (.t 0)), oo 8 (.len (.t 7)), oo 9 (.mov (.v (.int .i64 0)))]) (.block 0 (.loop (.seq (.ops [oo 10 (.bin .lss (.t 9) (.t 8))]) (.seq (.cond (.t 10) .skip (.exit 0)) (.seq (.block 1 (.seq (.ops [oo 11 (.iaddr 2 (.t 7) (.t 9)), oo 12 (.load true 2 (.t 11)), oo 6 (.alloc 2 (.agg [(.int .i64 0), (.int .i64 0)])), on (.store 2 (.t 6) (.t 12))]) (.seq (.seq (.ops [oo 13 (.faddr 0 (.t 6)), oo 14 (.load false 1 (.t 13)), oo 15 (.faddr 0 (.t 3)), oo 16 (.load false 1 (.t 15)), oo 17 (.bin .gtr (.t 14) (.t 16))]) (.cond (.t 17) (.seq (.ops [oo 4 (.mov (.v (.bool false)))]) .ret) .skip)) (.seq (.ops [oo 18 (.faddr 1 (.t 6)), oo 19 (.load false 1 (.t 18)), oo 20 (.faddr 1 (.t 3)), oo 21 (.load false 1 (.t 20)), oo 22 (.bin .leq (.t 19) (.t 21))]) (.cond (.t 22) (.seq (.ops [oo 4 (.mov (.v (.bool true)))]) .ret) .skip))))) (.ops [oo 23 (.bin .add (.t 9) (.v (.int .i64 1))), oo 9 (.mov (.t 23))]))))))) (.seq (.ops [oo 4 (.mov (.v (.bool false)))]) .ret)))⟩
theorem PE : aD Try.prog 105 = some NJ := by kernel_rfl
theorem yD (x : AV) (l : List Tm) (t : Tm) (H : AH) (hx : elems 2 x H = some (l.map aX)) (hl : l.length < 1099511627776) : aC Try.prog 105 [x, aX t] H fun r H' => r = .bool (dI l t) ∧ H' = H := by
  refine aI PE (fun _ => rfl) (by simp [NJ]) ?_
  unfold NJ
  have hlx := aS hx
  simp only [push_cast, ↓reduceIte, Nat.reduceEqDiff, reduceCtorEq, Nat.reduceAdd, Nat.reduceLT, Nat.reduceLeDiff, aB, aA, hlx, aX]
  refine aJ (fun (i : Nat) f H' => (H ++ [aM.live 2 [.agg [.int .i64 t.f0, .int .i64 t.f1]]]) <+: H' ∧ i ≤ l.length ∧ f 9 = .int .i64 i ∧ f 7 = x ∧ f 8 = .int .i64 l.length ∧ f 3 = .ptr H.length 0 0 ∧ dI l t = dI (l.drop i) t) (fun i => l.length - i) 0 ?_ ?_
  · simp [vP]
  · rintro i f H' ⟨hp, h1, e9, e7, e8, e3, ho⟩
    have hb : obj? H' H.length = some (2, [.agg [.int .i64 t.f0, .int .i64 t.f1]]) := bM hp (bC _ _ _)
    have hlt := bG hb
    have hp0 : H <+: H' := (List.prefix_append _ _).trans hp
    by_cases hi : i < l.length
    · have hi' : (i : Int) < l.length := by omega
      have ax : aF 2 x (.int .i64 (i : Int)) = some (ptk x i 0) := aO hx (by simpa using hi) _
      have lx : (l.map aX)[i]? = some (aX l[i]) := by simp [hi]
      have hd : dI l t = dI (l[i] :: l.drop (i + 1)) t := by rw [ho, List.drop_eq_getElem_cons hi]
      simp only [push_cast, ↓reduceIte, Nat.reduceEqDiff, reduceCtorEq, Nat.reduceAdd, Nat.reduceLT, Nat.reduceLeDiff, aB, aA, e9, e7, e8, e3, hlx, List.length_map, hi', ax, aW hx lx, aQ, hp0, aX, hb, hlt]
      refine mM (fun h2 => ?_) fun h2 => mM (fun h3 => ?_) fun h3 => ⟨i + 1, ⟨by (repeat (first | exact List.prefix_refl _ | refine List.IsPrefix.trans ?_ (List.prefix_append _ _))); exact hp, hi, ?_, ?_⟩, by omega⟩
      · rw [hd, dI, if_pos h2]
      · rw [hd, dI, if_neg h2, if_pos h3]
      · rw [aG (by omega) (by omega)]; simp
      · rw [hd, dI, if_neg h2, if_neg h3]
    · have hi' : ¬ (i : Int) < l.length := by omega
      simp only [push_cast, ↓reduceIte, Nat.reduceEqDiff, reduceCtorEq, Nat.reduceAdd, Nat.reduceLT, Nat.reduceLeDiff, e9, e7, e8, hlx, List.length_map, hi', hp0]
      rw [ho, List.drop_eq_nil_of_le (by omega : l.length ≤ i), dI]
def LM : List Tm → Tm → Tm
  | [], _ => ⟨0, 0⟩
  | p :: r, t => r.foldl (fun b q => qN b (jY t q)) (jY t p)
def F96 : AFn := ⟨31, 2, [.cell 4 true 2], (.seq (.ops [oo 3 (.box 2 (.t 1)), oo 4 (.alloc 2 (.agg [(.int .i64 0), (.int .i64 0)]))]) (.seq (.seq (.ops [oo 8 (.mov (.t 0)), oo 9 (.len (.t 8)), oo 10 (.bin .eql (.t 9) (.v (.int .i64 0)))]) (.cond (.t 10) (.seq (.ops [oo 11 (.build [(.int .i64 0), (.int .i64 0)] []), on (.store 2 (.t 4) (.t 11))]) .ret) .skip)) (.seq (.ops [oo 31 (.load true 2 (.t 3)), oo 32 (.mov (.t 0)), oo 33 (.iaddr 2 (.t 32) (.v (.int .i64 0))), oo 34 (.load true 2 (.t 33)), oo 36 (.alloc 2 (.agg [(.int .i64 0), (.int .i64 0)])), oo 35 (.call 128 [(.t 31), (.t 34)]), oo 37 (.store 2 (.t 36) (.t 35)), oo 12 (.mov (.t 31)), oo 13 (.mov (.t 32)), oo 14 (.mov (.t 33)), oo 15 (.mov (.t 34)), oo 5 (.mov (.t 36)), oo 16 (.mov (.t 35))]) (.seq (.seq (.ops [oo 17 (.mov (.t 0)), oo 18 (.slice 2 (.t 17) (some (.v (.int .i64 1))) none none), oo 19 (.len (.t 18)), oo 20 (.mov (.v (.int .i64 0)))]) (.block 0 (.loop (.seq (.ops [oo 21 (.bin .lss (.t 20) (.t 19))]) (.seq (.cond (.t 21) .skip (.exit 0)) (.seq (.block 1 (.seq (.ops [oo 22 (.iaddr 2 (.t 18) (.t 20)), oo 23 (.load true 2 (.t 22)), oo 7 (.alloc 2 (.agg [(.int .i64 0), (.int .i64 0)])), on (.store 2 (.t 7) (.t 23))]) (.ops [oo 31 (.load true 2 (.t 5)), oo 32 (.load true 2 (.t 3)), oo 33 (.load true 2 (.t 7)), oq 34 (.call 128 [(.t 32), (.t 33)]), oo 35 (.call 129 [(.t 31), (.t 34)]), oo 36 (.store 2 (.t 5) (.t 35)), oo 24 (.mov (.t 31)), oo 25 (.mov (.t 32)), oo 26 (.mov (.t 33)), oo 27 (.mov (.t 34)), oo 28 (.mov (.t 35))]))) (.ops [oo 29 (.bin .add (.t 20) (.v (.int .i64 1))), oo 20 (.mov (.t 29))]))))))) (.seq (.ops [oo 30 (.load true 2 (.t 5)), on (.store 2 (.t 4) (.t 30))]) .ret)))))⟩
theorem c96 : aD Try.prog 96 = some F96 := by kernel_rfl
theorem NK (l : List Tm) (t : Tm) (H : AH) (hl : l.length < 1099511627776) : aC Try.prog 96 [fK l, aX t] H fun r H' => r = aX (LM l t) ∧ H' = H := by
  refine aI c96 (fun _ => rfl) (by simp [F96]) ?_
  unfold F96
  have hlx : dE (fK l) = some l.length := by simp [fK, dE]
  cases l with
  | nil =>
    simp only [push_cast, ↓reduceIte, Nat.reduceEqDiff, reduceCtorEq, Nat.reduceAdd, Nat.reduceLT, Nat.reduceLeDiff, aB, aA, hlx, aX, List.length_nil]
    exact ⟨by (repeat (first | exact List.prefix_refl _ | refine List.IsPrefix.trans ?_ (List.prefix_append _ _))), rfl⟩
  | cons p l =>
    have hz : ¬ (((p :: l).length : Nat) : Int) = 0 := by rw [List.length_cons]; omega
    have ax0 : aF 2 (fK (p :: l)) (.int .i64 0) = some (.lptr 2 ((p :: l).map aX) 0 0) := by simp [fK, aF, nat?]
    have lx : ((p :: l).map aX)[0]? = some (aX p) := rfl
    have hl' : l.length < 1099511627775 := by rw [List.length_cons] at hl; omega
    generalize hm : (p :: l).length = m at hz hlx
    simp only [push_cast, ↓reduceIte, Nat.reduceEqDiff, reduceCtorEq, Nat.reduceAdd, Nat.reduceLT, Nat.reduceLeDiff, aB, aA, hlx, aX, hz, ax0, lx]
    (refine aC.look (DR t p _) ?_; simp only [push_cast, ↓reduceIte, Nat.reduceEqDiff, reduceCtorEq, Nat.reduceAdd, Nat.reduceLT, Nat.reduceLeDiff, aB, aA, aX, hlx])
    rw [fK, jH (k := 1) (by rfl) (by simp)]
    simp only [List.map_cons, List.drop_succ_cons, List.drop_zero]
    simp only [push_cast, ↓reduceIte, Nat.reduceEqDiff, reduceCtorEq, Nat.reduceAdd, Nat.reduceLT, Nat.reduceLeDiff, aB, aA, aX, List.length_map]
    refine aJ (fun (s : Nat × Tm) f H' => (H ++ [aM.live 2 [.agg [.int .i64 t.f0, .int .i64 t.f1]]]) <+: H' ∧ s.1 ≤ l.length ∧ f 20 = .int .i64 s.1 ∧ f 18 = .list 2 (l.map aX) false ∧ f 19 = .int .i64 l.length ∧ f 3 = .ptr H.length 0 0 ∧ f 4 = .ptr (H.length + 1) 0 0 ∧ f 5 = .ptr (H.length + 1 + 1) 0 0 ∧ obj? H' (H.length + 1) = some (2, [.agg [.int .i64 0, .int .i64 0]]) ∧ obj? H' (H.length + 1 + 1) = some (2, [.agg [.int .i64 s.2.f0, .int .i64 s.2.f1]]) ∧ LM (p :: l) t = (l.drop s.1).foldl (fun b q => qN b (jY t q)) s.2) (fun s => l.length - s.1) (0, jY t p) ?_ ?_
    · exact ⟨by (repeat (first | exact List.prefix_refl _ | refine List.IsPrefix.trans ?_ (List.prefix_append _ _))), Nat.zero_le _, rfl, rfl, rfl, rfl, rfl, rfl, (lB (by simp)).trans (lA (by simp)), lA (by simp), rfl⟩
    · rintro ⟨i, b⟩ f H' ⟨hp, h1, e20, e18, e19, e3, e4, e5, o4, o5, ho⟩
      dsimp only at h1 e20 o5 ho
      have hb : obj? H' H.length = some (2, [.agg [.int .i64 t.f0, .int .i64 t.f1]]) := bM hp (bC _ _ _)
      have hlt := bG hb
      have hlt4 := bG o4
      have hlt5 := bG o5
      have hp0 : H <+: H' := (List.prefix_append _ _).trans hp
      by_cases hi : i < l.length
      · have hi' : (i : Int) < l.length := by omega
        have ax : aF 2 (.list 2 (l.map aX) false) (.int .i64 (i : Int)) = some (.lptr 2 (l.map aX) i 0) := by simp [aF, nat?, hi]
        have lx : (l.map aX)[i]? = some (aX l[i]) := by simp [hi]
        simp only [push_cast, ↓reduceIte, Nat.reduceEqDiff, reduceCtorEq, Nat.reduceAdd, Nat.reduceLT, Nat.reduceLeDiff, aB, aA, e20, e18, e19, e3, e4, e5, hi', ax, lx, aX, hb, hlt, o5, hlt5]
        (refine aC.look (DR t l[i] _) ?_; simp only [push_cast, ↓reduceIte, Nat.reduceEqDiff, reduceCtorEq, Nat.reduceAdd, Nat.reduceLT, Nat.reduceLeDiff, aB, aA, aX, e5, hlt5, o5])
        (refine aC.look (KE b (jY t l[i]) _) ?_; simp only [push_cast, ↓reduceIte, Nat.reduceEqDiff, reduceCtorEq, Nat.reduceAdd, Nat.reduceLT, Nat.reduceLeDiff, aB, aA, aX, e5, hlt5, o5, e20, e18, e19, e3, e4])
        have hd : LM (p :: l) t = (l.drop (i + 1)).foldl (fun b q => qN b (jY t q)) (qN b (jY t l[i])) := by rw [ho, List.drop_eq_getElem_cons hi]; rfl
        refine ⟨(i + 1, qN b (jY t l[i])), ⟨?_, hi, ?_, ?_, ?_, hd⟩, by dsimp only; omega⟩
        · exact aQ (bQ hp (by simp) _)
        · dsimp only; rw [aG (by omega) (by omega)]; simp
        · rw [lB (by simpa using hlt4), cB (by omega)]; exact o4
        · rw [lB (by simpa using hlt5), bP hlt5]
      · have hi' : ¬ (i : Int) < l.length := by omega
        simp only [push_cast, ↓reduceIte, Nat.reduceEqDiff, reduceCtorEq, Nat.reduceAdd, Nat.reduceLT, Nat.reduceLeDiff, aB, aA, e20, e18, e19, e3, e4, e5, hi', aX, hb, hlt, o5, hlt5, o4, hlt4, bP hlt4]
        rw [List.drop_eq_nil_of_le (by omega : l.length ≤ i)] at ho
        rw [ho]
        exact ⟨bQ hp0 (by omega) _, rfl⟩
end Go.Eng
end
section
set_option linter.unusedSimpArgs false
set_option linter.unusedVariables false
set_option maxRecDepth 10000
namespace Go.Eng
open Go Go.Sort
theorem yE {P : Program} {n : FuncId} {sz : Nat} {ag : Bool} (hc : aD P n = some (DL sz ag)) (x k : AV) (H : AH) : aC P n [x, .int .i64 0, .int .i64 0, k] H fun _ H' => H' = H := by
  refine aN hc (by simp [DL]) ?_
  unfold DL
  have w1 : IntKind.i64.wrap 1 = 1 := by decide
  have c1 : ¬ (1 : Int) < 0 := by decide
  simp only [push_cast, ↓reduceIte, Nat.reduceEqDiff, reduceCtorEq, Nat.reduceAdd, Nat.reduceLT, Nat.reduceLeDiff, w1]
  refine aJ (fun (s : Unit) f H' => H' = H ∧ f 2 = .int .i64 0 ∧ f 8 = .int .i64 1) (fun _ => 0) () ⟨rfl, rfl, rfl⟩ ?_
  rintro ⟨⟩ f H' ⟨rfl, e2, e8⟩
  simp only [push_cast, ↓reduceIte, Nat.reduceEqDiff, reduceCtorEq, Nat.reduceAdd, Nat.reduceLT, Nat.reduceLeDiff, e2, e8, c1]
theorem GC {P : Program} {sz : Nat} {ag : Bool} {ki kh kb kc kr kp ke kq kz kl : FuncId} (D : Pdq P sz ag ki kh kb kc kr kp ke kq kz kl) (x k : AV) (z : Int) (H : AH) : aC P kz [x, .int .i64 0, .int .i64 0, .int .i64 z, k] H fun _ H' => H' = H := by
  refine aN D.pdq (by simp [JX]) ?_
  unfold JX qI
  have w1 : IntKind.i64.wrap 0 = 0 := by decide
  have c1 : (0 : Int) ≤ 12 := by decide
  simp only [push_cast, ↓reduceIte, Nat.reduceEqDiff, reduceCtorEq, Nat.reduceAdd, Nat.reduceLT, Nat.reduceLeDiff]
  refine aJ (fun (s : Unit) f H' => H' = H ∧ f 0 = x ∧ f 1 = .int .i64 0 ∧ f 2 = .int .i64 0 ∧ f 4 = k) (fun _ => 0) () ⟨rfl, rfl, rfl, rfl, rfl⟩ ?_
  rintro ⟨⟩ f H' ⟨rfl, e0, e1, e2, e4⟩
  simp only [push_cast, ↓reduceIte, Nat.reduceEqDiff, reduceCtorEq, Nat.reduceAdd, Nat.reduceLT, Nat.reduceLeDiff, e0, e1, e2, e4, w1, c1, Int.sub_self, decide_true]
  refine (yE D.ins x k _).mono fun r H' e => ?_
  subst e
  simp only [push_cast, ↓reduceIte, Nat.reduceEqDiff, reduceCtorEq, Nat.reduceAdd, Nat.reduceLT, Nat.reduceLeDiff]
theorem yF {P : Program} {n : FuncId} {sz : Nat} {ag : Bool} {ki kh kb kc kr kp ke kq kz kl : FuncId} (hc : aD P n = some (jD sz ag kz kl)) (D : Pdq P sz ag ki kh kb kc kr kp ke kq kz kl) (x k : AV) (H : AH) (hx : dE x = some 0) : aC P n [x, k] H fun _ H' => H' = H := by
  refine aN hc (by simp [jD]) ?_
  unfold jD
  obtain ⟨k4, k8, l1, l2⟩ := D.len
  have w1 : IntKind.u64.wrap 0 = 0 := by decide
  simp only [push_cast, ↓reduceIte, Nat.reduceEqDiff, reduceCtorEq, Nat.reduceAdd, Nat.reduceLT, Nat.reduceLeDiff, hx, w1]
  have h := lQ l1 l2 0 (by omega) H
  refine aC.look h ?_
  simp only [push_cast, ↓reduceIte, Nat.reduceEqDiff, reduceCtorEq, Nat.reduceAdd, Nat.reduceLT, Nat.reduceLeDiff, w1]
  refine (GC D x k _ _).mono fun r H' e => ?_
  subst e
  simp only [push_cast, ↓reduceIte, Nat.reduceEqDiff, reduceCtorEq, Nat.reduceAdd, Nat.reduceLT, Nat.reduceLeDiff]
theorem GD {P : Program} {n : FuncId} {sz : Nat} {ag : Bool} {ki kr kw kz : FuncId} (hc : aD P n = some (DP sz ag ki kz)) (D : Sta P sz ag ki kr kw kz) (x k : AV) (H : AH) : aC P n [x, .int .i64 0, k] H fun _ H' => H' = H := by
  refine aN hc (by simp [DP]) ?_
  unfold DP lV
  have c1 : ¬ (20 : Int) ≤ 0 := by decide
  simp only [push_cast, ↓reduceIte, Nat.reduceEqDiff, reduceCtorEq, Nat.reduceAdd, Nat.reduceLT, Nat.reduceLeDiff]
  refine aJ (fun (s : Unit) f H' => H' = H ∧ f 0 = x ∧ f 1 = .int .i64 0 ∧ f 2 = k ∧ f 6 = .int .i64 20 ∧ f 7 = .int .i64 0 ∧ f 8 = .int .i64 20) (fun _ => 0) () ⟨rfl, rfl, rfl, rfl, rfl, rfl, rfl⟩ ?_
  rintro ⟨⟩ f H' ⟨rfl, e0, e1, e2, e6, e7, e8⟩
  simp only [push_cast, ↓reduceIte, Nat.reduceEqDiff, reduceCtorEq, Nat.reduceAdd, Nat.reduceLT, Nat.reduceLeDiff, e0, e1, e2, e6, e7, e8, c1]
  refine (yE D.ins x k _).mono fun r H' e => ?_
  subst e
  unfold qK
  simp only [push_cast, ↓reduceIte, Nat.reduceEqDiff, reduceCtorEq, Nat.reduceAdd, Nat.reduceLT, Nat.reduceLeDiff, e0, e1, e2, e6]
  refine aJ (fun (s : Unit) f H2 => H2 = H' ∧ f 1 = .int .i64 0 ∧ f 6 = .int .i64 20) (fun _ => 0) () ?_ ?_
  · simp only [push_cast, ↓reduceIte, Nat.reduceEqDiff, reduceCtorEq, Nat.reduceAdd, Nat.reduceLT, Nat.reduceLeDiff, e1, e6]
  rintro ⟨⟩ f H2 ⟨rfl, e1, e6⟩
  have c2 : ¬ (20 : Int) < 0 := by decide
  simp only [push_cast, ↓reduceIte, Nat.reduceEqDiff, reduceCtorEq, Nat.reduceAdd, Nat.reduceLT, Nat.reduceLeDiff, e1, e6, c2]
theorem GE {P : Program} {n kt : FuncId} {sz : Nat} {ag : Bool} {ki kr kw kz : FuncId} (hc : aD P n = some (HJ sz ag kt)) (ht : aD P kt = some (DP sz ag ki kz)) (D : Sta P sz ag ki kr kw kz) (x k : AV) (H : AH) (hx : dE x = some 0) : aC P n [x, k] H fun _ H' => H' = H := by
  refine aN hc (by simp [HJ]) ?_
  unfold HJ
  simp only [push_cast, ↓reduceIte, Nat.reduceEqDiff, reduceCtorEq, Nat.reduceAdd, Nat.reduceLT, Nat.reduceLeDiff, hx]
  refine (GD ht D x k _).mono fun r H' e => ?_
  subst e
  simp only [push_cast, ↓reduceIte, Nat.reduceEqDiff, reduceCtorEq, Nat.reduceAdd, Nat.reduceLT, Nat.reduceLeDiff]
end Go.Eng
end
section
set_option linter.unusedSimpArgs false
set_option linter.unusedVariables false
set_option maxRecDepth 10000
namespace Go.Eng
open Go Go.Proofs
theorem dP {H0 H : AH} {sz : Nat} {v : AV} {l : List AV} (h : Own H0 H sz v l) : elems sz v H = some l := by
  rcases h with ⟨rfl, rfl⟩ | ⟨t, ex, _, rfl, ho⟩
  · rfl
  · simp [elems, ho]
theorem BU {H0 H : AH} {r : AV} {l : List Tm} (h : Own H0 H 2 r (l.map aX)) (hp : H0 <+: H) (hs : l.length < 1099511627776) :
    aC Try.prog 103 [r, .fn 104 [] []] H fun _ H' => Own H0 H' 2 r ((Stab.sortS kN l).map aX) ∧ H0 <+: H' := by
  have hlen := Stab.sortS_len FZ l
  rcases h with ⟨rfl, e⟩ | ⟨t, ex, ht, rfl, ho⟩
  · have : l = [] := by simpa using e
    subst this
    exact (yF (by kernel_rfl) OH .nils _ H rfl).mono fun _ H' e => by rw [e]; exact ⟨.inl ⟨rfl, rfl⟩, hp⟩
  · have hlt := bG ho
    rw [List.length_map]
    refine (KB ho hs).mono fun _ H' ⟨J, e⟩ => ?_
    subst e
    refine ⟨.inr ⟨t, ex, ht, by rw [List.length_map, hlen], bM (List.prefix_append _ _) (bP hlt)⟩, aQ (bQ hp ht _)⟩
theorem BV {H0 H : AH} {r : AV} {l : List Upd} (h : Own H0 H 4 r (l.map upA)) (hp : H0 <+: H) (hs : l.length < 1099511627776) (hl : bB l) :
    aC Try.prog 132 [r, .fn 99 [] []] H fun _ H' => Own H0 H' 4 r ((Stab.sortS gB l).map upA) ∧ H0 <+: H' := by
  have hlen := Stab.sortS_len GA l
  rcases h with ⟨rfl, e⟩ | ⟨t, ex, ht, rfl, ho⟩
  · have : l = [] := by simpa using e
    subst this
    exact (GE (n := 132) (kt := 148) (by kernel_rfl) (by kernel_rfl) OI .nils _ H rfl).mono fun _ H' e => by rw [e]; exact ⟨.inl ⟨rfl, rfl⟩, hp⟩
  · have hlt := bG ho
    rw [List.length_map]
    refine (KC hl ho hs).mono fun _ H' e => ?_
    subst e
    exact ⟨.inr ⟨t, ex, ht, by rw [List.length_map, hlen], bP hlt⟩, bQ hp ht _⟩
theorem yG (x : AV) (l : List Tm) (H : AH) (hx : elems 2 x H = some (l.map aX)) (hl : l.length < 1099511627776) : aC Try.prog 65 [x] H fun r H' => Own H H' 2 r (l.map aX) ∧ H <+: H' :=
  gM (bytes := 16) (z := .agg [.int .i64 0, .int .i64 0]) (by kernel_rfl) x (l.map aX) H hx (by rw [List.length_map]; omega)
theorem GF (x : AV) (l : List Upd) (H : AH) (hx : elems 4 x H = some (l.map upA)) (hl : l.length < 1099511627776) : aC Try.prog 131 [x] H fun r H' => Own H H' 4 r (l.map upA) ∧ H <+: H' :=
  gM (bytes := 48) (z := .agg [.nils, .int .i64 0, .int .i64 0, .int .i64 0]) (by kernel_rfl) x (l.map upA) H hx (by rw [List.length_map]; omega)
theorem dQ {H : AH} {sz t : Nat} {e : AV} {ex : Bool} (h : t = H.length) : elems sz (.ref sz t 0 1 1 ex) (H ++ [.live sz [e]]) = some [e] := by
  simp only [elems, lA h, Option.bind_some]
  simp
def BW (l : List Tm) : List Tm := (Stab.sortS kN l).foldl (fun out t => if dI out t = true then out else out ++ [t]) []
def F67 : AFn := ⟨29, 1, [.t 2], (.seq (.ops [oo 2 (.mov (.v .nils))]) (.seq (.ops [oo 3 (.mov (.v .nils))]) (.seq (.ops [oo 7 (.mov (.t 0)), oo 8 (.call 65 [(.t 7)]), oo 0 (.mov (.t 8))]) (.seq (.ops [oo 9 (.mov (.t 0)), oo 10 (.call 103 [(.t 9), (.v (.fn 104 [] []))])]) (.seq (.seq (.ops [oo 11 (.mov (.t 0)), oo 12 (.len (.t 11)), oo 13 (.mov (.v (.int .i64 0)))]) (.block 0 (.loop (.seq (.ops [oo 14 (.bin .lss (.t 13) (.t 12))]) (.seq (.cond (.t 14) .skip (.exit 0)) (.seq (.block 1 (.seq (.ops [oo 15 (.iaddr 2 (.t 11) (.t 13)), oo 16 (.load true 2 (.t 15)), oo 5 (.alloc 2 (.agg [(.int .i64 0), (.int .i64 0)])), on (.store 2 (.t 5) (.t 16))]) (.seq (.ops [oo 17 (.mov (.t 3)), oo 18 (.mkf 105 [(.t 17)] []), oo 6 (.mov (.t 18))]) (.seq (.ops [oo 19 (.mov (.t 6)), oo 20 (.load true 2 (.t 5)), oo 21 (.callv (.t 19) [(.t 20)]), oo 22 (.un .not (.t 21))]) (.cond (.t 22) (.ops [oo 23 (.mov (.t 3)), oo 24 (.load true 2 (.t 5)), oo 25 (.bsl 2 1 (.agg [(.int .i64 0), (.int .i64 0)]) [(0, (.t 24))]), oo 26 (.app 2 16 (.t 23) (.t 25)), oo 3 (.mov (.t 26))]) .skip))))) (.ops [oo 27 (.bin .add (.t 13) (.v (.int .i64 1))), oo 13 (.mov (.t 27))]))))))) (.seq (.ops [oo 28 (.mov (.t 3)), oo 2 (.mov (.t 28))]) .ret))))))⟩
theorem c67 : aD Try.prog 67 = some F67 := by kernel_rfl
theorem NL (x : AV) (l : List Tm) (H : AH) (hx : elems 2 x H = some (l.map aX)) (hl : l.length < 1099511627776) : aC Try.prog 67 [x] H fun r H' => r = fK (BW l) ∧ H' = H := by
  refine bH c67 (v := fK (BW l)) (fun n => tW (NG n) _) (by simp [F67]) ?_
  unfold F67
  have hlen := Stab.sortS_len FZ l
  simp only [push_cast, ↓reduceIte, Nat.reduceEqDiff, reduceCtorEq, Nat.reduceAdd, Nat.reduceLT, Nat.reduceLeDiff]
  refine (yG x l H hx hl).mono fun r H1 ⟨h1, p1⟩ => ?_
  simp only [push_cast, ↓reduceIte, Nat.reduceEqDiff, reduceCtorEq, Nat.reduceAdd, Nat.reduceLT, Nat.reduceLeDiff]
  refine (BU h1 p1 hl).mono fun _ H2 ⟨h2, p2⟩ => ?_
  have hr := aS (dP h2)
  have he := dP h2
  unfold BW
  generalize Stab.sortS kN l = S at hr he hlen
  generalize l.length = n at hl hlen
  simp only [push_cast, ↓reduceIte, Nat.reduceEqDiff, reduceCtorEq, Nat.reduceAdd, Nat.reduceLT, Nat.reduceLeDiff, hr, List.length_map, hlen]
  refine aJ (fun (s : Nat × List Tm) f H' => H2 <+: H' ∧ s.1 ≤ n ∧ f 13 = .int .i64 s.1 ∧ f 11 = r ∧ f 12 = .int .i64 n ∧ Own H2 H' 2 (f 3) (s.2.map aX) ∧ s.2.length ≤ s.1 ∧ S.foldl (fun out t => if dI out t = true then out else out ++ [t]) [] = (S.drop s.1).foldl (fun out t => if dI out t = true then out else out ++ [t]) s.2) (fun s => n - s.1) (0, []) ?_ ?_
  · exact ⟨List.prefix_refl _, Nat.zero_le _, rfl, rfl, rfl, .inl ⟨rfl, rfl⟩, Nat.le_refl _, rfl⟩
  · rintro ⟨i, out⟩ f H' ⟨hp, h1, e13, e11, e12, ho, hlo, hd⟩
    dsimp only at h1 e13 ho hlo hd
    generalize hv : f 3 = v at ho
    by_cases hi : i < n
    · have hi' : (i : Int) < n := by omega
      have hi2 : i < S.length := by omega
      have ax : aF 2 r (.int .i64 (i : Int)) = some (ptk r i 0) := aO he (by rw [List.length_map]; exact hi2) _
      have lx : (S.map aX)[i]? = some (aX S[i]) := by simp [hi2]
      rw [List.drop_eq_getElem_cons hi2, List.foldl_cons] at hd
      by_cases ha : dI out S[i] = true
      · rw [if_pos ha] at hd
        simp only [push_cast, ↓reduceIte, Nat.reduceEqDiff, reduceCtorEq, Nat.reduceAdd, Nat.reduceLT, Nat.reduceLeDiff, aB, aA, e13, e11, e12, hi', ax, aW he lx, aQ, hp, aX, hv]
        (refine aC.look (yD v out S[i] _ (bA (dP ho) (List.prefix_append _ _)) (by omega)) ?_; simp only [push_cast, ↓reduceIte, Nat.reduceEqDiff, reduceCtorEq, Nat.reduceAdd, Nat.reduceLT, Nat.reduceLeDiff, aB, aA, ha, e13, e11, e12, hv])
        refine ⟨(i + 1, out), ⟨aQ hp, hi, ?_, ho.mono, by dsimp only; omega, hd⟩, by dsimp only; omega⟩
        dsimp only; rw [aG (by omega) (by omega)]; simp
      · rw [if_neg ha] at hd
        rw [Bool.not_eq_true] at ha
        simp only [push_cast, ↓reduceIte, Nat.reduceEqDiff, reduceCtorEq, Nat.reduceAdd, Nat.reduceLT, Nat.reduceLeDiff, aB, aA, e13, e11, e12, hi', ax, aW he lx, aQ, hp, aX, hv]
        (refine aC.look (yD v out S[i] _ (bA (dP ho) (List.prefix_append _ _)) (by omega)) ?_; simp only [push_cast, ↓reduceIte, Nat.reduceEqDiff, reduceCtorEq, Nat.reduceAdd, Nat.reduceLT, Nat.reduceLeDiff, aB, aA, ha, e13, e11, e12, hv])
        refine ho.mono.mono.xapp (aQ (aQ hp)) (xs := [aX S[i]]) (dQ (by simp)) (by simp only [List.length_map, List.length_cons, List.length_nil]; omega) fun v' H4 ho' hp' => ?_
        simp only [push_cast, ↓reduceIte, Nat.reduceEqDiff, reduceCtorEq, Nat.reduceAdd, Nat.reduceLT, Nat.reduceLeDiff, e13, e11, e12]
        refine ⟨(i + 1, out ++ [S[i]]), ⟨hp', hi, ?_, ?_, ?_, hd⟩, by dsimp only; omega⟩
        · dsimp only; rw [aG (by omega) (by omega)]; simp
        · rw [List.map_append]; exact ho'
        · dsimp only; rw [List.length_append]; simp only [List.length_cons, List.length_nil]; omega
    · have hi' : ¬ (i : Int) < n := by omega
      simp only [push_cast, ↓reduceIte, Nat.reduceEqDiff, reduceCtorEq, Nat.reduceAdd, Nat.reduceLT, Nat.reduceLeDiff, e13, e11, e12, hi', hv]
      rw [List.drop_eq_nil_of_le (by omega : S.length ≤ i)] at hd
      obtain ⟨H3, w1, w2⟩ := ho.weak hp
      exact ⟨H3, by rw [hd]; exact w1, (p2.trans w2)⟩
end Go.Eng
end
section
set_option linter.unusedSimpArgs false
set_option linter.unusedVariables false
namespace Go.Eng
open Go
def idx : AV → Option Nat
  | .ref _ t _ _ _ _ => some t
  | _ => none
def kill (v : AV) (H : AH) : AH :=
  match v with
  | .ref _ t _ _ _ false => List.set H t .dead
  | _ => H
theorem lX {v : AV} {H : AH} : (kill v H).length = H.length := by
  unfold kill; split <;> simp
theorem gD {v : AV} {H : AH} {t : Nat} (h : idx v ≠ some t) : obj? (kill v H) t = obj? H t := by
  unfold kill
  split
  · rename_i sz u a b c
    exact cB (fun e => h (by rw [idx, e]))
  · rfl
theorem Own.app_eq {H0 H : AH} {sz bytes : Nat} {v x : AV} {l xs : List AV} (h : Own H0 H sz v l) (hx : elems sz x H = some xs) (hne : xs ≠ []) (hb : (l.length + xs.length) * bytes ≤ 140737488355328) :
    iA sz bytes v x H = some (.ref sz H.length 0 (l ++ xs).length (l ++ xs).length false, kill v H ++ [aM.live sz (l ++ xs)]) := by
  have hpos := List.length_pos_iff.2 hne
  rcases h with ⟨rfl, rfl⟩ | ⟨t, ex, ht, rfl, ho⟩
  · have he0 : elems sz .nils H = some [] := rfl
    unfold iA
    simp only [hx, he0, Option.bind_some]
    rw [if_neg hne, if_pos hb]
    rfl
  · have he : elems sz (.ref sz t 0 l.length l.length ex) H = some l := by
      simp [elems, ho]
    cases ex with
    | true =>
      unfold iA
      simp only [hx, he, Option.bind_some]
      rw [if_neg hne, if_pos hb, if_neg (by omega)]
      rfl
    | false =>
      unfold iA
      simp only [hx, he, Option.bind_some]
      rw [if_neg hne, if_pos hb, if_neg (by omega)]
      simp [fresh, kill]
theorem Own.kept {H0 H J : AH} {sz : Nat} {v w : AV} {l : List AV} (h : Own H0 H sz w l) (hne : ∀ t, idx w = some t → idx v ≠ some t) : Own H0 (kill v H ++ J) sz w l := by
  rcases h with h | ⟨t, ex, ht, rfl, ho⟩
  · exact .inl h
  · refine .inr ⟨t, ex, ht, rfl, ?_⟩
    rw [← gD (hne t rfl)] at ho
    exact bM (List.prefix_append _ _) ho
theorem Own.fresh {H0 H : AH} {sz : Nat} {v : AV} {l : List AV} (hp : H0 <+: H) : Own H0 (kill v H ++ [aM.live sz l]) sz (.ref sz H.length 0 l.length l.length false) l :=
  .inr ⟨H.length, false, hp.length_le, rfl, by rw [← lX (v := v)]; exact bC _ _ _⟩
theorem Own.killed {H0 H J : AH} {sz : Nat} {v : AV} {l : List AV} (h : Own H0 H sz v l) (hp : H0 <+: H) : H0 <+: kill v H ++ J := by
  refine aQ ?_
  rcases h with ⟨rfl, _⟩ | ⟨t, ex, ht, rfl, _⟩
  · exact hp
  · cases ex with
    | true => exact hp
    | false => exact bQ hp ht _
theorem Own.idx_lt {H0 H : AH} {sz : Nat} {v : AV} {l : List AV} (h : Own H0 H sz v l) {t : Nat} (ht : idx v = some t) : H0.length ≤ t ∧ t < H.length := by
  rcases h with ⟨rfl, _⟩ | ⟨u, ex, hu, rfl, ho⟩
  · cases ht
  · cases ht; exact ⟨hu, bG ho⟩
end Go.Eng
end
section
set_option linter.unusedSimpArgs false
set_option linter.unusedVariables false
set_option maxRecDepth 10000
namespace Go.Eng
open Go Go.Proofs
def jI (l : List (List Val)) : AV := .list 1 (l.map bD) false
def F76 : AFn := ⟨17, 1, [.t 2], (.seq (.ops [oo 2 (.mov (.v .nils))]) (.seq (.ops [oo 3 (.mov (.v .nils))]) (.seq (.seq (.ops [oo 6 (.mov (.t 0)), oo 7 (.len (.t 6)), oo 8 (.mov (.v (.int .i64 0)))]) (.block 0 (.loop (.seq (.ops [oo 9 (.bin .lss (.t 8) (.t 7))]) (.seq (.cond (.t 9) .skip (.exit 0)) (.seq (.block 1 (.seq (.ops [oo 10 (.iaddr 1 (.t 6) (.t 8)), oo 11 (.load false 1 (.t 10)), oo 5 (.mov (.t 11))]) (.ops [oo 12 (.mov (.t 3)), oo 13 (.mov (.t 5)), oo 14 (.app 3 32 (.t 12) (.t 13)), oo 3 (.mov (.t 14))]))) (.ops [oo 15 (.bin .add (.t 8) (.v (.int .i64 1))), oo 8 (.mov (.t 15))]))))))) (.seq (.ops [oo 16 (.mov (.t 3)), oo 2 (.mov (.t 16))]) .ret))))⟩
theorem c76 : aD Try.prog 76 = some F76 := by kernel_rfl
theorem KF (x : AV) (l : List (List Val)) (H : AH) (hx : elems 1 x H = some (l.map bD)) (hl : l.length < 1099511627776) (hf : l.flatten.length < 1099511627776) : aC Try.prog 76 [x] H fun r H' => r = bD l.flatten ∧ H' = H := by
  refine bH c76 (v := bD l.flatten) (fun n => rY n _) (by simp [F76]) ?_
  unfold F76
  have hr := aS hx
  simp only [push_cast, ↓reduceIte, Nat.reduceEqDiff, reduceCtorEq, Nat.reduceAdd, Nat.reduceLT, Nat.reduceLeDiff, hr, List.length_map]
  refine aJ (fun (s : Nat × List Val) f H' => H <+: H' ∧ s.1 ≤ l.length ∧ f 8 = .int .i64 s.1 ∧ f 6 = x ∧ f 7 = .int .i64 l.length ∧ Own H H' 3 (f 3) (s.2.map gA) ∧ l.flatten = s.2 ++ (l.drop s.1).flatten) (fun s => l.length - s.1) (0, []) ?_ ?_
  · exact ⟨List.prefix_refl _, Nat.zero_le _, rfl, rfl, rfl, .inl ⟨rfl, rfl⟩, rfl⟩
  · rintro ⟨i, out⟩ f H' ⟨hp, h1, e8, e6, e7, ho, hd⟩
    dsimp only at h1 e8 ho hd
    generalize hv : f 3 = v at ho
    by_cases hi : i < l.length
    · have hi' : (i : Int) < l.length := by omega
      have ax : aF 1 x (.int .i64 (i : Int)) = some (ptk x i 0) := aO hx (by rw [List.length_map]; exact hi) _
      have lx : (l.map bD)[i]? = some (bD l[i]) := by simp [hi]
      rw [List.drop_eq_getElem_cons hi, List.flatten_cons] at hd
      have hb : out.length + l[i].length < 1099511627776 := by
        have := congrArg List.length hd
        simp only [List.length_append] at this
        omega
      generalize l[i] = r at lx hd hb
      have pr : part false 1 0 (bD r) = some (bD r) := rfl
      simp only [push_cast, ↓reduceIte, Nat.reduceEqDiff, reduceCtorEq, Nat.reduceAdd, Nat.reduceLT, Nat.reduceLeDiff, aB, aA, e8, e6, e7, hi', ax, aW hx lx, hp, hv, pr]
      refine ho.xapp hp (xs := r.map gA) rfl (by simp only [List.length_map]; omega) fun v' H4 ho' hp' => ?_
      simp only [push_cast, ↓reduceIte, Nat.reduceEqDiff, reduceCtorEq, Nat.reduceAdd, Nat.reduceLT, Nat.reduceLeDiff, e8, e6, e7]
      refine ⟨(i + 1, out ++ r), ⟨hp', hi, ?_, ?_, ?_⟩, by dsimp only; omega⟩
      · dsimp only; rw [aG (by omega) (by omega)]; simp
      · rw [List.map_append]; exact ho'
      · dsimp only; rw [hd, List.append_assoc]
    · have hi' : ¬ (i : Int) < l.length := by omega
      simp only [push_cast, ↓reduceIte, Nat.reduceEqDiff, reduceCtorEq, Nat.reduceAdd, Nat.reduceLT, Nat.reduceLeDiff, e8, e6, e7, hi', hv]
      rw [List.drop_eq_nil_of_le (by omega : l.length ≤ i)] at hd
      obtain ⟨H3, w1, w2⟩ := ho.weak hp
      exact ⟨H3, by rw [hd, List.flatten_nil, List.append_nil]; exact w1, w2⟩
end Go.Eng
end
section
set_option linter.unusedSimpArgs false
set_option linter.unusedVariables false
set_option maxRecDepth 10000
namespace Go.Eng
open Go Go.Proofs
theorem bft : (false != true) = true := Eq.trans rfl rfl
theorem btf : (true != false) = true := Eq.trans rfl rfl
attribute [push_cast] bft btf
structure Bt where
  key : Int
  weight : Int
  since : List Tm
  keys : List (List Val)
  kends : List Int
  rests : List (List Val)
  rends : List Int
  times : List Tm
  ws : List Int
def gW (z : Int) : AV := .int .i64 z
def jZ (l : List Int) : AV := .list 1 (l.map gW) false
def tY (b : Bt) : AV := .agg [.int .i64 b.key, .int .i64 b.weight, fK b.since, jI b.keys, jZ b.kends, jI b.rests, jZ b.rends, fK b.times, jZ b.ws]
def dL (b : Bt) : AV := .lptr 9 [tY b] 0 0
def F34 : AFn := ⟨9, 1, [.t 2], (.seq (.ops [oo 2 (.mov (.v (.int .i64 0)))]) (.seq (.seq (.ops [oo 3 (.mov (.t 0)), oo 4 (.eqn 0 false (.t 3))]) (.cond (.t 4) (.seq (.ops [oo 2 (.mov (.v (.int .i64 0)))]) .ret) .skip)) (.seq (.ops [oo 5 (.mov (.t 0)), oo 6 (.nilc (.t 5)), oo 7 (.faddr 1 (.t 6)), oo 8 (.load false 1 (.t 7)), oo 2 (.mov (.t 8))]) .ret)))⟩
theorem c34 : aD Try.prog 34 = some F34 := by kernel_rfl
theorem lY (b : Bt) (H : AH) : aC Try.prog 34 [dL b] H fun r H' => r = .int .i64 b.weight ∧ H' = H := by
  refine aI c34 (fun _ => rfl) (by simp [F34]) ?_
  unfold F34 dL
  simp only [push_cast, ↓reduceIte, Nat.reduceEqDiff, reduceCtorEq, Nat.reduceAdd, Nat.reduceLT, Nat.reduceLeDiff, aB, aA, tY]
  (repeat (first | exact List.prefix_refl _ | refine List.IsPrefix.trans ?_ (List.prefix_append _ _)))
def F35 : AFn := ⟨9, 1, [.t 2], (.seq (.ops [oo 2 (.mov (.v (.int .i64 0)))]) (.seq (.seq (.ops [oo 3 (.mov (.t 0)), oo 4 (.eqn 0 false (.t 3))]) (.cond (.t 4) (.seq (.ops [oo 2 (.mov (.v (.int .i64 0)))]) .ret) .skip)) (.seq (.ops [oo 5 (.mov (.t 0)), oo 6 (.nilc (.t 5)), oo 7 (.faddr 0 (.t 6)), oo 8 (.load false 1 (.t 7)), oo 2 (.mov (.t 8))]) .ret)))⟩
theorem c35 : aD Try.prog 35 = some F35 := by kernel_rfl
theorem yH (b : Bt) (H : AH) : aC Try.prog 35 [dL b] H fun r H' => r = .int .i64 b.key ∧ H' = H := by
  refine aI c35 (fun _ => rfl) (by simp [F35]) ?_
  unfold F35 dL
  simp only [push_cast, ↓reduceIte, Nat.reduceEqDiff, reduceCtorEq, Nat.reduceAdd, Nat.reduceLT, Nat.reduceLeDiff, aB, aA, tY]
  (repeat (first | exact List.prefix_refl _ | refine List.IsPrefix.trans ?_ (List.prefix_append _ _)))
def F33 : AFn := ⟨10, 1, [.t 2], (.seq (.ops [oo 2 (.mov (.v (.int .i64 0)))]) (.seq (.seq (.ops [oo 3 (.mov (.t 0)), oo 4 (.eqn 0 false (.t 3))]) (.cond (.t 4) (.seq (.ops [oo 2 (.mov (.v (.int .i64 0)))]) .ret) .skip)) (.seq (.ops [oo 5 (.mov (.t 0)), oo 6 (.nilc (.t 5)), oo 7 (.faddr 7 (.t 6)), oo 8 (.load false 1 (.t 7)), oo 9 (.len (.t 8)), oo 2 (.mov (.t 9))]) .ret)))⟩
theorem c33 : aD Try.prog 33 = some F33 := by kernel_rfl
theorem NM (b : Bt) (H : AH) : aC Try.prog 33 [dL b] H fun r H' => r = .int .i64 b.times.length ∧ H' = H := by
  refine aI c33 (fun _ => rfl) (by simp [F33]) ?_
  unfold F33 dL
  simp only [push_cast, ↓reduceIte, Nat.reduceEqDiff, reduceCtorEq, Nat.reduceAdd, Nat.reduceLT, Nat.reduceLeDiff, aB, aA, tY, fK, List.length_map]
  (repeat (first | exact List.prefix_refl _ | refine List.IsPrefix.trans ?_ (List.prefix_append _ _)))
def LN (b : Bt) (i : Int) : Bool := decide (0 ≤ i ∧ i < b.keys.length)
def F74 : AFn := ⟨20, 2, [.t 4], (.seq (.ops [oo 4 (.mov (.v (.bool false)))]) (.seq (.ops [oo 5 (.mov (.t 0)), oo 6 (.eqn 0 true (.t 5)), oo 7 (.mov (.t 6)), og 8 7 true (.mov (.t 1)), og 9 7 true (.bin .geq (.t 8) (.v (.int .i64 0))), oo 10 (.pick (.t 7) (.t 9) (.v (.bool false))), oo 11 (.mov (.t 10)), og 12 11 true (.mov (.t 1)), og 13 11 true (.mov (.t 0)), og 14 11 true (.nilc (.t 13)), og 15 11 true (.faddr 3 (.t 14)), og 16 11 true (.load false 1 (.t 15)), og 17 11 true (.len (.t 16)), og 18 11 true (.bin .lss (.t 12) (.t 17)), oo 19 (.pick (.t 11) (.t 18) (.v (.bool false))), oo 4 (.mov (.t 19))]) .ret))⟩
theorem c74 : aD Try.prog 74 = some F74 := by kernel_rfl
theorem NN (b : Bt) (i : Int) (H : AH) : aC Try.prog 74 [dL b, .int .i64 i] H fun r H' => r = .bool (LN b i) ∧ H' = H := by
  refine aI c74 (fun _ => rfl) (by simp [F74]) ?_
  unfold F74 dL LN
  by_cases h1 : i ≥ 0
  · by_cases h2 : i < b.keys.length
    · simp only [push_cast, ↓reduceIte, Nat.reduceEqDiff, reduceCtorEq, Nat.reduceAdd, Nat.reduceLT, Nat.reduceLeDiff, aB, aA, tY, jI, List.length_map, h1, h2, decide_true]
      exact List.prefix_refl _
    · simp only [push_cast, ↓reduceIte, Nat.reduceEqDiff, reduceCtorEq, Nat.reduceAdd, Nat.reduceLT, Nat.reduceLeDiff, aB, aA, tY, jI, List.length_map, h1, h2, decide_true, decide_false]
      exact List.prefix_refl _
  · simp only [push_cast, ↓reduceIte, Nat.reduceEqDiff, reduceCtorEq, Nat.reduceAdd, Nat.reduceLT, Nat.reduceLeDiff, aB, aA, tY, jI, List.length_map, h1, decide_false]
    exact ⟨List.prefix_refl _, by simp⟩
def nN (l : List Int) (i : Nat) : Int × Int := (if 0 < i then l.getD (i - 1) 0 else 0, l.getD i 0)
def F75 : AFn := ⟨18, 2, [.t 4, .t 5], (.seq (.ops [oo 4 (.mov (.v (.int .i64 0))), oo 5 (.mov (.v (.int .i64 0)))]) (.seq (.seq (.ops [oo 6 (.mov (.t 1)), oo 7 (.bin .gtr (.t 6) (.v (.int .i64 0)))]) (.cond (.t 7) (.ops [oo 8 (.mov (.t 0)), oo 9 (.mov (.t 1)), oo 10 (.bin .sub (.t 9) (.v (.int .i64 1))), oo 11 (.iaddr 1 (.t 8) (.t 10)), oo 12 (.load false 1 (.t 11)), oo 4 (.mov (.t 12))]) .skip)) (.seq (.ops [oo 18 (.mov (.t 4)), oo 19 (.mov (.t 0)), oo 20 (.mov (.t 1)), oo 21 (.iaddr 1 (.t 19) (.t 20)), oo 22 (.load false 1 (.t 21)), oo 23 (.mov (.t 18)), oo 24 (.mov (.t 22)), oo 13 (.mov (.t 18)), oo 14 (.mov (.t 19)), oo 15 (.mov (.t 20)), oo 16 (.mov (.t 21)), oo 17 (.mov (.t 22)), oo 4 (.mov (.t 23)), oo 5 (.mov (.t 24))]) .ret)))⟩
theorem c75 : aD Try.prog 75 = some F75 := by kernel_rfl
theorem DS (l : List Int) (i : Nat) (hi : i < l.length) (hl : l.length < 1099511627776) (H : AH) : aC Try.prog 75 [jZ l, .int .i64 i] H fun r H' => r = .tup [.int .i64 (nN l i).1, .int .i64 (nN l i).2] ∧ H' = H := by
  refine aI c75 (fun _ => rfl) (by simp [F75]) ?_
  unfold F75 nN
  have ax : aF 1 (jZ l) (.int .i64 (i : Int)) = some (.lptr 1 (l.map gW) i 0) := by simp [jZ, aF, nat?, hi]
  have lx : (l.map gW)[i]? = some (.int .i64 l[i]) := by simp [hi, gW]
  have e1 : l.getD i 0 = l[i] := by simp [hi]
  have pi : ∀ z, part false 1 0 (.int .i64 z) = some (.int .i64 z) := fun _ => rfl
  by_cases h0 : 0 < i
  · have h0' : (i : Int) > 0 := by omega
    have w1 : IntKind.i64.wrap ((i : Int) - 1) = ((i - 1 : Nat) : Int) := aR (by omega) (by omega)
    have hj : i - 1 < l.length := by omega
    have ay : aF 1 (jZ l) (.int .i64 ((i - 1 : Nat) : Int)) = some (.lptr 1 (l.map gW) (i - 1) 0) := by simp [jZ, aF, nat?, hj]
    have ly : (l.map gW)[i - 1]? = some (.int .i64 l[i - 1]) := by simp [hj, gW]
    have e2 : l.getD (i - 1) 0 = l[i - 1] := by simp [hj]
    rw [if_pos h0, e1, e2]
    generalize i - 1 = j at w1 hj ay ly
    simp only [push_cast, ↓reduceIte, Nat.reduceEqDiff, reduceCtorEq, Nat.reduceAdd, Nat.reduceLT, Nat.reduceLeDiff, aB, aA, h0', w1, ax, ay, lx, ly, pi]
    (repeat (first | exact List.prefix_refl _ | refine List.IsPrefix.trans ?_ (List.prefix_append _ _)))
  · have h0' : ¬ (i : Int) > 0 := by omega
    rw [if_neg h0, e1]
    simp only [push_cast, ↓reduceIte, Nat.reduceEqDiff, reduceCtorEq, Nat.reduceAdd, Nat.reduceLT, Nat.reduceLeDiff, aB, aA, h0', ax, lx, pi]
    (repeat (first | exact List.prefix_refl _ | refine List.IsPrefix.trans ?_ (List.prefix_append _ _)))
end Go.Eng
end
section
set_option linter.unusedVariables false
namespace Go.Eng
open Go
def uD (l : List Int) : List Int := l.set (l.length - 1) (l.getD (l.length - 1) 0 + 1)
def dY (a b : List Val) : Bool := decide (eT a b = 0)
theorem jJ (a b : List Val) : dY a b = true ↔ eT a b = 0 := by simp [dY]
def jK (l : List (List Val)) (r : List Val) : Bool :=
  match l.getLast? with
  | none => true
  | some x => !dY x r
def uE (b : Bt) (k : List Val) : Bt := { b with keys := b.keys ++ [k], kends := b.kends ++ [(b.rests.length : Int)] }
def lZ (b : Bt) (r : List Val) : Bt := { b with rests := b.rests ++ [r], rends := b.rends ++ [(b.times.length : Int)], kends := uD b.kends }
def iE (b : Bt) (t : Tm) (w : Int) : Bt := { b with times := b.times ++ [t], ws := b.ws ++ [w], rends := uD b.rends }
def jL (b : Bt) (u : Upd) : Bt :=
  if jK b.keys (u.f0.take b.key.toNat) = true then iE (lZ (uE b (u.f0.take b.key.toNat)) (u.f0.drop b.key.toNat)) u.f1 u.f2
  else if jK b.rests (u.f0.drop b.key.toNat) = true then iE (lZ b (u.f0.drop b.key.toNat)) u.f1 u.f2
  else iE b u.f1 u.f2
theorem mA (b : Bt) (u : Upd) : (jL b u).key = b.key ∧ (jL b u).weight = b.weight ∧ (jL b u).since = b.since ∧ (jL b u).times = b.times ++ [u.f1] ∧ (jL b u).ws = b.ws ++ [u.f2] := by
  unfold jL
  split
  · exact ⟨rfl, rfl, rfl, rfl, rfl⟩
  · split <;> exact ⟨rfl, rfl, rfl, rfl, rfl⟩
def bK (b : Bt) (l : List Upd) : Bt := l.foldl jL b
theorem kO (l : List Upd) : ∀ b : Bt, (bK b l).key = b.key ∧ (bK b l).weight = b.weight ∧ (bK b l).since = b.since ∧ (bK b l).times = b.times ++ l.map (·.f1) ∧ (bK b l).ws = b.ws ++ l.map (·.f2) := by
  induction l with
  | nil => intro b; simp [bK]
  | cons u r ih =>
    intro b
    obtain ⟨a1, a2, a3, a4, a5⟩ := mA b u
    obtain ⟨h1, h2, h3, h4, h5⟩ := ih (jL b u)
    exact ⟨h1.trans a1, h2.trans a2, h3.trans a3, by rw [show bK b (u :: r) = bK (jL b u) r from rfl, h4, a4]; simp, by rw [show bK b (u :: r) = bK (jL b u) r from rfl, h5, a5]; simp⟩
end Go.Eng
end
section
set_option linter.unusedVariables false
set_option linter.unusedSimpArgs false
namespace Go.Eng
open Go
theorem cU.lptr {H H' : AH} {sz i k m : Nat} {cs : List AV} {v v' : AV} (h : cU H v H' v') (hc : cs[m]? = some v) (sv : cX v' = true) : cU H (.lptr sz [.agg cs] i k) H' (.lptr sz [.agg (cs.set m v')] i k) := fun K w cv hr r => by
  cases r with
  | lptr hb hn hs hrr =>
    obtain ⟨K', e1, e2, e3⟩ := h K w _ hr (hrr 0 m (.agg cs) v rfl hc)
    refine ⟨K', e1, e2, .lptr (e1.le.fz _ _ hb) (by simpa using hn) (fun x hx => ?_) fun i' k' x y hx hy => ?_⟩
    · have := hs (.agg cs) (by simp)
      rw [List.mem_singleton] at hx
      subst hx
      refine ⟨by simpa [cells] using this.1, fun y hy => ?_⟩
      rcases List.mem_or_eq_of_mem_set hy with h | h
      · exact this.2 y h
      · rw [h]; exact sv
    · have hi0 : i' = 0 := by
        cases i' with
        | zero => rfl
        | succ n => simp at hx
      subst hi0
      simp only [List.getElem?_cons_zero, Option.some.injEq] at hx
      subst hx
      simp only [cells] at hy
      rw [List.getElem?_set] at hy
      split at hy
      · rename_i e
        split at hy
        · cases hy; rw [← e]; exact e3
        · cases hy
      · exact (hrr 0 k' (.agg cs) y rfl hy).mono e1.le
theorem cU.ptr {H : AH} {t i k sz : Nat} {es : List AV} (h : obj? H t = some (sz, es)) : cU H (.ptr t i k) (List.set H t .dead) (.lptr sz es i k) := fun K w cv hr r => by
  cases r with
  | ptr hp =>
    rename_i p
    have hl := obj?_some h
    have L := hr.live t p sz es hp hl
    obtain ⟨o, h1, h2, h3⟩ := hr.frozen hp hl
    refine ⟨_, h3, h2, ?_⟩
    obtain ⟨cs, T, hb, hs, hrd⟩ := L.block
    have ho : o = .cells cs T (0, 0) := by rw [hb] at h1; exact (Option.some.inj h1).symm
    subst ho
    have hsz := L.psz
    have := Nat.mul_le_mul_right sz L.len
    have key := RelV.lptr (K := K.freeze p.b (.cells cs T (0, 0))) (sz := sz) (l := es) (i := i) (k := k) (b := p.b) (off := p.off) (cs := cs) (T := T) (fr := (0, 0)) (by simp [KW.freeze]) (by omega) L.fit (fun i k x y hx hy => (hrd _ _ _ _ hx hy).mono h3.le)
    unfold bF.at
    rw [hsz]
    exact key
end Go.Eng
end
section
set_option linter.unusedVariables false
namespace Go.Eng
open Go
theorem Own.dead {H0 H : AH} {sz t : Nat} {w : AV} {l : List AV} (h : Own H0 H sz w l) (hne : idx w ≠ some t) : Own H0 (List.set H t .dead) sz w l := by
  rcases h with h | ⟨u, ex, hu, rfl, ho⟩
  · exact .inl h
  · refine .inr ⟨u, ex, hu, rfl, ?_⟩
    rw [cB (fun e => hne (by rw [idx, e]))]
    exact ho
end Go.Eng
end
section
set_option linter.unusedVariables false
namespace Go.Eng
open Go
structure OBL (H0 H : AH) (t : Nat) (hd vs : List AV) (ls : List (Nat × List AV)) : Prop where
  pre : H0 <+: H
  lt : H0.length ≤ t
  ob : obj? H t = some (hd.length + vs.length, [.agg (hd ++ vs)])
  own : ∀ (i : Nat) v l, vs[i]? = some v → ls[i]? = some l → Own H0 H l.1 v l.2
  ap : ∀ (i j : Nat) v w u, i ≠ j → vs[i]? = some v → vs[j]? = some w → idx v = some u → idx w ≠ some u
  apt : ∀ (i : Nat) v, vs[i]? = some v → idx v ≠ some t
  len : vs.length = ls.length
theorem Own.set_other {H0 H : AH} {sz t : Nat} {w : AV} {l : List AV} {o : aM} (h : Own H0 H sz w l) (hne : idx w ≠ some t) : Own H0 (List.set H t o) sz w l := by
  rcases h with h | ⟨u, ex, hu, rfl, ho⟩
  · exact .inl h
  · refine .inr ⟨u, ex, hu, rfl, ?_⟩
    rw [cB (fun e => hne (by rw [idx, e]))]
    exact ho
theorem OBL.app {H0 H : AH} {t j sz : Nat} {hd vs : List AV} {ls : List (Nat × List AV)} {v : AV} {l xs : List AV} (O : OBL H0 H t hd vs ls) (hj : vs[j]? = some v) (hl : ls[j]? = some (sz, l)) :
    OBL H0 (List.set (kill v H ++ [.live sz (l ++ xs)]) t (.live (hd.length + vs.length) [.agg (hd ++ vs.set j (.ref sz H.length 0 (l ++ xs).length (l ++ xs).length false))])) t hd (vs.set j (.ref sz H.length 0 (l ++ xs).length (l ++ xs).length false)) (ls.set j (sz, l ++ xs)) := by
  have ov := O.own _ _ _ hj hl
  have ht := bG O.ob
  have hlt : t < (kill v H ++ [aM.live sz (l ++ xs)]).length := by rw [List.length_append, lX]; omega
  have old : ∀ (i : Nat) w, (vs.set j (.ref sz H.length 0 (l ++ xs).length (l ++ xs).length false))[i]? = some w → (i = j ∧ w = .ref sz H.length 0 (l ++ xs).length (l ++ xs).length false) ∨ (i ≠ j ∧ vs[i]? = some w) := fun i w h => by
    rw [List.getElem?_set] at h
    split at h
    · rename_i e
      split at h
      · cases h; exact .inl ⟨e.symm, rfl⟩
      · cases h
    · rename_i e; exact .inr ⟨fun x => e x.symm, h⟩
  have low : ∀ (i : Nat) w u, vs[i]? = some w → idx w = some u → u < H.length := fun i w u h1 h2 => by
    have h3 : i < ls.length := by rw [← O.len]; exact (List.getElem?_eq_some_iff.1 h1).1
    exact ((O.own i w _ h1 (List.getElem?_eq_getElem h3)).idx_lt h2).2
  refine ⟨bQ (ov.killed O.pre) O.lt _, O.lt, by rw [bP hlt, List.length_set], fun i w m h1 h2 => ?_, fun a b x y u hab h1 h2 hu => ?_, fun i w h1 => ?_, by simpa using O.len⟩
  · rcases old i w h1 with ⟨rfl, rfl⟩ | ⟨hne, h3⟩
    · rw [List.getElem?_set_self (List.getElem?_eq_some_iff.1 hl).1] at h2
      cases h2
      exact (Own.fresh O.pre).set_other (fun e => by cases e; omega)
    · rw [List.getElem?_set_ne (fun e => hne e.symm)] at h2
      exact ((O.own i w m h3 h2).kept (fun u hu => O.ap i j w v u hne h3 hj hu)).set_other (O.apt i w h3)
  · rcases old a x h1 with ⟨rfl, rfl⟩ | ⟨n1, h3⟩ <;> rcases old b y h2 with ⟨rfl, rfl⟩ | ⟨n2, h4⟩
    · exact absurd rfl hab
    · cases hu; exact fun e => absurd (low _ _ _ h4 e) (by omega)
    · have := low _ _ _ h3 hu
      exact fun e => by cases e; omega
    · exact O.ap a b x y u hab h3 h4 hu
  · rcases old i w h1 with ⟨rfl, rfl⟩ | ⟨n1, h3⟩
    · exact fun e => by cases e; omega
    · exact O.apt i w h3
theorem OBL.put {H0 H : AH} {t j sz u n c : Nat} {ex : Bool} {hd vs : List AV} {ls : List (Nat × List AV)} {l l' : List AV} (O : OBL H0 H t hd vs ls) (hj : vs[j]? = some (.ref sz u 0 n c ex)) (hl : ls[j]? = some (sz, l)) (hlen : l'.length = l.length) :
    OBL H0 (List.set H u (.live sz l')) t hd vs (ls.set j (sz, l')) := by
  have ov := O.own _ _ _ hj hl
  have hu := ov.idx_lt (t := u) rfl
  have hut : u ≠ t := fun e => O.apt j _ hj (by rw [idx, e])
  refine ⟨bQ O.pre hu.1 _, O.lt, by rw [cB hut]; exact O.ob, fun i w m h1 h2 => ?_, O.ap, O.apt, by simpa using O.len⟩
  by_cases hij : i = j
  · subst hij
    rw [List.getElem?_set_self (List.getElem?_eq_some_iff.1 hl).1] at h2
    cases h2
    rw [hj] at h1
    cases h1
    rcases ov with ⟨h, _⟩ | ⟨u', ex', hu', e, ho⟩
    · cases h
    · cases e
      exact .inr ⟨u, ex, hu.1, by simp only [hlen], bP hu.2⟩
  · rw [List.getElem?_set_ne (fun e => hij e.symm)] at h2
    exact (O.own i w m h1 h2).set_other (fun e => O.ap j i _ w u (fun e => hij e.symm) hj h1 rfl e)
end Go.Eng
end
section
set_option linter.unusedVariables false
set_option linter.unusedSimpArgs false
namespace Go.Eng
open Go
def deads (v : AV) (H : AH) : AH :=
  match v with
  | .ref _ t _ _ _ _ => List.set H t .dead
  | _ => H
def fzA (l : Nat × List AV) : AV := .list l.1 l.2 false
theorem Own.weakd {H0 H : AH} {sz : Nat} {v : AV} {l : List AV} (h : Own H0 H sz v l) : cU H v (deads v H) (.list sz l false) := by
  rcases h with ⟨rfl, rfl⟩ | ⟨t, ex, ht, rfl, ho⟩
  · exact cU.nils H sz
  · have := Frz.ref (off := 0) (n := l.length) (c := l.length) (ex := ex) ho (by omega)
    simpa [deads] using this.weak
theorem Own.deads_pre {H0 H : AH} {sz : Nat} {v : AV} {l : List AV} (h : Own H0 H sz v l) (hp : H0 <+: H) : H0 <+: deads v H := by
  rcases h with ⟨rfl, _⟩ | ⟨t, ex, ht, rfl, _⟩
  · exact hp
  · exact bQ hp ht _
theorem Own.deads {H0 H : AH} {sz : Nat} {v w : AV} {l : List AV} (h : Own H0 H sz w l) (hne : ∀ t, idx v = some t → idx w ≠ some t) : Own H0 (Eng.deads v H) sz w l := by
  unfold Eng.deads
  split
  · rename_i sz' t a b c d
    exact h.dead (hne t rfl)
  · exact h
theorem OBL.frzN {H0 H : AH} {t : Nat} {hd vs : List AV} {ls : List (Nat × List AV)} (O : OBL H0 H t hd vs ls) : ∀ m, m ≤ vs.length → ∃ H', cU H (.ptr t 0 0) H' (.lptr (hd.length + vs.length) [.agg (hd ++ ((ls.take m).map fzA ++ vs.drop m))] 0 0) ∧ H0 <+: H' ∧ ∀ (i : Nat) v l, m ≤ i → vs[i]? = some v → ls[i]? = some l → Own H0 H' l.1 v l.2
  | 0, _ => ⟨_, cU.ptr O.ob, bQ O.pre O.lt _, fun i v l _ h1 h2 => (O.own i v l h1 h2).dead (O.apt i v h1)⟩
  | m + 1, hm => by
    obtain ⟨H', h1, h2, h3⟩ := OBL.frzN O m (by omega)
    have hm2 : m < ls.length := by rw [← O.len]; omega
    have e1 : vs[m]? = some vs[m] := List.getElem?_eq_getElem (by omega)
    have e2 : ls[m]? = some ls[m] := List.getElem?_eq_getElem hm2
    have o := h3 m _ _ (Nat.le_refl _) e1 e2
    refine ⟨deads vs[m] H', ?_, o.deads_pre h2, fun i v l hi g1 g2 => (h3 i v l (by omega) g1 g2).deads fun u hu => O.ap m i _ _ u (by omega) e1 g1 hu⟩
    have hl : ((ls.take m).map fzA).length = m := by rw [List.length_map, List.length_take]; omega
    have hc : (hd ++ ((ls.take m).map fzA ++ vs.drop m))[hd.length + m]? = some vs[m] := by
      rw [List.getElem?_append_right (by omega), List.getElem?_append_right (by omega), hl, List.getElem?_drop]
      simp
    have key := h1.trans (cU.lptr (sz := hd.length + vs.length) (i := 0) (k := 0) o.weakd hc rfl)
    have e3 : (hd ++ ((ls.take m).map fzA ++ vs.drop m)).set (hd.length + m) (.list ls[m].1 ls[m].2 false) = hd ++ ((ls.take (m + 1)).map fzA ++ vs.drop (m + 1)) := by
      rw [List.set_append_right _ _ (by omega), List.set_append_right _ _ (by omega), hl, Nat.add_sub_cancel_left, Nat.sub_self, List.drop_eq_getElem_cons (show m < vs.length by omega), List.set_cons_zero, List.take_succ_eq_append_getElem hm2, List.map_append, List.append_assoc]
      rfl
    rw [e3] at key
    exact key
theorem OBL.frz {H0 H : AH} {t : Nat} {hd vs : List AV} {ls : List (Nat × List AV)} (O : OBL H0 H t hd vs ls) : ∃ H', cU H (.ptr t 0 0) H' (.lptr (hd.length + vs.length) [.agg (hd ++ ls.map fzA)] 0 0) ∧ H0 <+: H' := by
  obtain ⟨H', h1, h2, _⟩ := O.frzN vs.length (Nat.le_refl _)
  refine ⟨H', ?_, h2⟩
  rw [List.drop_eq_nil_of_le (Nat.le_refl _), List.append_nil, O.len, List.take_of_length_le (Nat.le_refl _), ← O.len] at h1
  exact h1
theorem OBL.hd {H0 H : AH} {t : Nat} {hd hd' vs : List AV} {ls : List (Nat × List AV)} (O : OBL H0 H t hd vs ls) (hl : hd'.length = hd.length) : OBL H0 (List.set H t (.live (hd.length + vs.length) [.agg (hd' ++ vs)])) t hd' vs ls := by
  have ht := bG O.ob
  exact ⟨bQ O.pre O.lt _, O.lt, by rw [bP ht, hl], fun i v l h1 h2 => (O.own i v l h1 h2).set_other (O.apt i v h1), O.ap, O.apt, O.len⟩
end Go.Eng
end
section
namespace Go.Eng
open Go
set_option linter.unusedVariables false
set_option linter.unusedSimpArgs false
def Bt.none_ (key weight : Int) (since : List Tm) : Bt := ⟨key, weight, since, [], [], [], [], [], []⟩
def gX : Nat → List Nat → List Int
  | _, [] => []
  | a, n :: r => ((a + n : Nat) : Int) :: gX (a + n) r
theorem dD (l : List Nat) : ∀ (a n : Nat), gX a (l ++ [n]) = gX a l ++ [((a + l.sum + n : Nat) : Int)] := by
  induction l with
  | nil => intro a n; simp [gX]
  | cons x r ih => intro a n; simp [gX, ih, Nat.add_assoc]
theorem mB (l : List Nat) : ∀ a, (gX a l).length = l.length := by
  induction l with
  | nil => intro a; rfl
  | cons x r ih => intro a; simp [gX, ih]
theorem eK (l : List Nat) (n : Nat) : uD (gX 0 (l ++ [n])) = gX 0 (l ++ [n + 1]) := by
  rw [dD, dD]
  unfold uD
  have h : (gX 0 l ++ [((0 + l.sum + n : Nat) : Int)]).length - 1 = (gX 0 l).length := by simp
  rw [h]
  simp [List.getD_eq_getElem?_getD, List.set_append]
  omega
abbrev Rst := List Val × List (Tm × Int)
abbrev Gr := List (List Val × List Rst)
structure Gs (b : Bt) (g : Gr) : Prop where
  keys : b.keys = g.map (·.1)
  kends : b.kends = gX 0 (g.map (·.2.length))
  rests : b.rests = (g.flatMap (·.2)).map (·.1)
  rends : b.rends = gX 0 ((g.flatMap (·.2)).map (·.2.length))
  times : b.times = ((g.flatMap (·.2)).flatMap (·.2)).map (·.1)
  ws : b.ws = ((g.flatMap (·.2)).flatMap (·.2)).map (·.2)
  ne1 : ∀ x ∈ g, x.2 ≠ []
  ne2 : ∀ y ∈ g.flatMap (·.2), y.2 ≠ []
theorem yI (key weight : Int) (since : List Tm) : Gs (Bt.none_ key weight since) [] :=
  ⟨rfl, rfl, rfl, rfl, rfl, rfl, fun _ h => absurd h List.not_mem_nil, fun _ h => absurd h List.not_mem_nil⟩
theorem DT (b : Bt) (g : Gr) (h : Gs b g) (k r : List Val) (t : Tm) (d : Int) : Gs (iE (lZ (uE b k) r) t d) (g ++ [(k, [(r, [(t, d)])])]) := by
  refine ⟨by simp [iE, lZ, uE, h.keys], ?_, by simp [iE, lZ, uE, h.rests], ?_, by simp [iE, lZ, uE, h.times], by simp [iE, lZ, uE, h.ws], ?_, ?_⟩
  · show uD (b.kends ++ [(b.rests.length : Int)]) = _
    rw [h.kends, List.map_append]
    have e : b.rests.length = (g.map (·.2.length)).sum := by rw [h.rests, List.length_map, List.length_flatMap]
    have e2 : gX 0 (g.map (·.2.length)) ++ [(b.rests.length : Int)] = gX 0 (g.map (·.2.length) ++ [0]) := by rw [dD, e]; simp
    rw [e2, eK]
    rfl
  · show uD (b.rends ++ [(b.times.length : Int)]) = _
    rw [h.rends, List.flatMap_append, List.map_append]
    have e : b.times.length = ((g.flatMap (·.2)).map (·.2.length)).sum := by rw [h.times, List.length_map, List.length_flatMap]
    have e2 : gX 0 ((g.flatMap (·.2)).map (·.2.length)) ++ [(b.times.length : Int)] = gX 0 ((g.flatMap (·.2)).map (·.2.length) ++ [0]) := by rw [dD, e]; simp
    rw [e2, eK]
    rfl
  · intro x hx
    rcases List.mem_append.1 hx with hx | hx
    · exact h.ne1 x hx
    · rw [List.mem_singleton.1 hx]; simp
  · intro y hy
    rw [List.flatMap_append] at hy
    rcases List.mem_append.1 hy with hy | hy
    · exact h.ne2 y hy
    · simp at hy; rw [hy]; simp
theorem GG (b : Bt) (g : Gr) (k0 : List Val) (rs : List Rst) (h : Gs b (g ++ [(k0, rs)])) (r : List Val) (t : Tm) (d : Int) : Gs (iE (lZ b r) t d) (g ++ [(k0, rs ++ [(r, [(t, d)])])]) := by
  refine ⟨by have := h.keys; simpa [iE, lZ] using this, ?_, by have := h.rests; simp [iE, lZ, this], ?_, by have := h.times; simp [iE, lZ, this], by have := h.ws; simp [iE, lZ, this], ?_, ?_⟩
  · show uD b.kends = _
    rw [h.kends, List.map_append, List.map_append]
    show uD (gX 0 (_ ++ [rs.length])) = gX 0 (_ ++ [(rs ++ [(r, [(t, d)])]).length])
    rw [eK]
    simp
  · show uD (b.rends ++ [(b.times.length : Int)]) = _
    have e : b.times.length = (((g ++ [(k0, rs)]).flatMap (·.2)).map (·.2.length)).sum := by rw [h.times, List.length_map, List.length_flatMap]
    have e2 : b.rends ++ [(b.times.length : Int)] = gX 0 (((g ++ [(k0, rs)]).flatMap (·.2)).map (·.2.length) ++ [0]) := by rw [dD, h.rends, e]; simp
    rw [e2, eK]
    simp
  · intro x hx
    rcases List.mem_append.1 hx with hx | hx
    · exact h.ne1 x (List.mem_append_left _ hx)
    · rw [List.mem_singleton.1 hx]; simp
  · intro y hy
    have hy2 : y ∈ (g ++ [(k0, rs)]).flatMap (·.2) ∨ y = (r, [(t, d)]) := by
      simp at hy ⊢
      rcases hy with hy | hy | hy
      · exact .inl (.inl hy)
      · exact .inl (.inr hy)
      · exact .inr hy
    rcases hy2 with hy2 | hy2
    · exact h.ne2 y hy2
    · rw [hy2]; simp
theorem GH (b : Bt) (g : Gr) (k0 : List Val) (rs : List Rst) (r0 : List Val) (ts : List (Tm × Int)) (h : Gs b (g ++ [(k0, rs ++ [(r0, ts)])])) (t : Tm) (d : Int) : Gs (iE b t d) (g ++ [(k0, rs ++ [(r0, ts ++ [(t, d)])])]) := by
  refine ⟨by have := h.keys; simpa [iE] using this, by have := h.kends; simpa [iE] using this, by have := h.rests; simpa [iE] using this, ?_, by have := h.times; simp [iE, this], by have := h.ws; simp [iE, this], ?_, ?_⟩
  · show uD b.rends = _
    rw [h.rends]
    have e : ∀ q : List (Tm × Int), ((g ++ [(k0, rs ++ [(r0, q)])]).flatMap (·.2)).map (·.2.length) = ((g.flatMap (·.2)).map (·.2.length) ++ rs.map (·.2.length)) ++ [q.length] := by intro q; simp
    rw [e, e, eK]
    simp
  · intro x hx
    rcases List.mem_append.1 hx with hx | hx
    · exact h.ne1 x (List.mem_append_left _ hx)
    · rw [List.mem_singleton.1 hx]; simp
  · intro y hy
    have hy2 : y ∈ (g ++ [(k0, rs ++ [(r0, ts)])]).flatMap (·.2) ∨ y = (r0, ts ++ [(t, d)]) := by
      simp at hy ⊢
      rcases hy with hy | hy | hy
      · exact .inl (.inl hy)
      · exact .inl (.inr (.inl hy))
      · exact .inr hy
    rcases hy2 with hy2 | hy2
    · exact h.ne2 y hy2
    · rw [hy2]; simp
def zK (n : Nat) (g : Gr) (u : Upd) : Gr :=
  match g.getLast? with
  | none => g ++ [(u.f0.take n, [(u.f0.drop n, [(u.f1, u.f2)])])]
  | some x =>
    if dY x.1 (u.f0.take n) = true then
      match x.2.getLast? with
      | none => g.dropLast ++ [(x.1, [(u.f0.drop n, [(u.f1, u.f2)])])]
      | some y => if dY y.1 (u.f0.drop n) = true then g.dropLast ++ [(x.1, x.2.dropLast ++ [(y.1, y.2 ++ [(u.f1, u.f2)])])] else g.dropLast ++ [(x.1, x.2 ++ [(u.f0.drop n, [(u.f1, u.f2)])])]
    else g ++ [(u.f0.take n, [(u.f0.drop n, [(u.f1, u.f2)])])]
def PF (n : Nat) (l : List Upd) : Gr := l.foldl (zK n) []
theorem BZ (n : Nat) (u : Upd) : zK n [] u = [(u.f0.take n, [(u.f0.drop n, [(u.f1, u.f2)])])] := rfl
theorem CA (n : Nat) (g : Gr) (x : List Val × List Rst) (u : Upd) (h : dY x.1 (u.f0.take n) = false) : zK n (g ++ [x]) u = g ++ [x] ++ [(u.f0.take n, [(u.f0.drop n, [(u.f1, u.f2)])])] := by
  simp [zK, h]
theorem yJ (n : Nat) (g : Gr) (k0 : List Val) (rs : List Rst) (y : Rst) (u : Upd) (h : dY k0 (u.f0.take n) = true) (h2 : dY y.1 (u.f0.drop n) = false) : zK n (g ++ [(k0, rs ++ [y])]) u = g ++ [(k0, rs ++ [y] ++ [(u.f0.drop n, [(u.f1, u.f2)])])] := by
  simp [zK, h, h2]
theorem yK (n : Nat) (g : Gr) (k0 : List Val) (rs : List Rst) (y : Rst) (u : Upd) (h : dY k0 (u.f0.take n) = true) (h2 : dY y.1 (u.f0.drop n) = true) : zK n (g ++ [(k0, rs ++ [y])]) u = g ++ [(k0, rs ++ [(y.1, y.2 ++ [(u.f1, u.f2)])])] := by
  simp [zK, h, h2]
theorem eU (l : List (List Val)) (x k : List Val) : jK (l ++ [x]) k = !dY x k := by simp [jK]
theorem mC {α : Type} (l : List α) (h : l ≠ []) : ∃ r x, l = r ++ [x] := ⟨l.dropLast, l.getLast h, (List.dropLast_concat_getLast h).symm⟩
theorem GI (b : Bt) (g : Gr) (u : Upd) (h : Gs b g) : Gs (jL b u) (zK b.key.toNat g u) := by
  unfold jL
  by_cases hg : g = []
  · subst hg
    have hk : b.keys = [] := h.keys
    rw [if_pos (by rw [hk]; rfl), BZ]
    exact DT b [] h _ _ _ _
  · obtain ⟨g', ⟨k0, rs⟩, rfl⟩ := mC g hg
    obtain ⟨rs', y, rfl⟩ := mC rs (h.ne1 (k0, rs) (by simp))
    have hk : b.keys = g'.map (·.1) ++ [k0] := by rw [h.keys]; simp
    have hr : b.rests = ((g'.flatMap (·.2)) ++ rs').map (·.1) ++ [y.1] := by rw [h.rests]; simp
    have n1 : jK b.keys (u.f0.take b.key.toNat) = !dY k0 (u.f0.take b.key.toNat) := by rw [hk, eU]
    have n2 : jK b.rests (u.f0.drop b.key.toNat) = !dY y.1 (u.f0.drop b.key.toNat) := by rw [hr, eU]
    cases e1 : dY k0 (u.f0.take b.key.toNat) with
    | false =>
      rw [n1, e1, if_pos (by decide), CA _ _ _ _ e1]
      exact DT b _ h _ _ _ _
    | true =>
      rw [n1, e1, if_neg (by decide), n2]
      cases e2 : dY y.1 (u.f0.drop b.key.toNat) with
      | false =>
        rw [if_pos (by decide), yJ _ _ _ _ _ _ e1 e2]
        exact GG b g' k0 _ h _ _ _
      | true =>
        rw [if_neg (by decide), yK _ _ _ _ _ _ e1 e2]
        exact GH b g' k0 rs' y.1 y.2 h _ _
theorem nO (l : List Upd) : ∀ (b : Bt) (g : Gr), Gs b g → Gs (bK b l) (l.foldl (zK b.key.toNat) g) := by
  induction l with
  | nil => exact fun b g h => h
  | cons u r ih =>
    intro b g h
    have h1 := ih (jL b u) _ (GI b g u h)
    rw [(mA b u).1] at h1
    exact h1
theorem mD : ∀ (l : List Nat) (a i : Nat), i < l.length → (gX a l).getD i 0 = ((a + (l.take (i + 1)).sum : Nat) : Int)
  | [], a, i, h => by simp at h
  | n :: r, a, 0, h => by simp [gX]
  | n :: r, a, i + 1, h => by
    have := mD r (a + n) i (by simpa using h)
    simp only [gX, List.getD_cons_succ, List.take_succ_cons, List.sum_cons] at this ⊢
    rw [this]
    omega
theorem nP (l : List Nat) (i : Nat) (h : i < l.length) : nN (gX 0 l) i = ((((l.take i).sum : Nat) : Int), (((l.take i).sum + l[i] : Nat) : Int)) := by
  have e : (l.take (i + 1)).sum = (l.take i).sum + l[i] := by
    rw [List.take_succ_eq_append_getElem h, List.sum_append, List.sum_cons, List.sum_nil, Nat.add_zero]
  unfold nN
  rw [mD l 0 i h, e, Nat.zero_add]
  by_cases h0 : 0 < i
  · rw [if_pos h0, mD l 0 (i - 1) (by omega), show i - 1 + 1 = i by omega, Nat.zero_add]
  · obtain rfl : i = 0 := by omega
    simp
theorem mE {α β : Type} (f : α → List β) : ∀ (L : List α) (k m : Nat) (hk : k < L.length), m < (f L[k]).length → (L.flatMap f)[((L.take k).map fun x => (f x).length).sum + m]? = (f L[k])[m]?
  | [], k, m, hk, _ => by simp at hk
  | x :: L, 0, m, hk, hm => by
    simp only [List.flatMap_cons, List.take_zero, List.map_nil, List.sum_nil, Nat.zero_add, List.getElem_cons_zero] at hm ⊢
    rw [List.getElem?_append_left hm]
  | x :: L, k + 1, m, hk, hm => by
    have := mE f L k m (by simpa using hk) (by simpa using hm)
    simp only [List.flatMap_cons, List.take_succ_cons, List.map_cons, List.sum_cons, List.getElem_cons_succ]
    rw [List.getElem?_append_right (by omega), ← this]
    congr 1
    omega
theorem mF {α β : Type} (f : α → List β) : ∀ (L : List α) (k : Nat) (hk : k < L.length), ((L.take k).map fun x => (f x).length).sum + (f L[k]).length ≤ (L.flatMap f).length
  | [], k, hk => by simp at hk
  | x :: L, 0, hk => by simp
  | x :: L, k + 1, hk => by
    have := mF f L k (by simpa using hk)
    simp only [List.flatMap_cons, List.take_succ_cons, List.map_cons, List.sum_cons, List.getElem_cons_succ, List.length_append]
    omega
theorem qO {α β : Type} (f : α → List β) : ∀ g : List α, (∀ x ∈ g, f x ≠ []) → g.length ≤ (g.flatMap f).length
  | [], _ => Nat.zero_le _
  | x :: r, h => by
    have h1 := qO f r (fun y hy => h y (List.mem_cons_of_mem _ hy))
    have h2 : 0 < (f x).length := List.length_pos_iff.2 (h x List.mem_cons_self)
    simp only [List.flatMap_cons, List.length_append, List.length_cons]
    omega
def rZ (k : List Val) (y : Rst) : List Upd := y.2.map fun q => ⟨k ++ y.1, q.1, q.2⟩
def GJ (x : List Val × List Rst) : List Upd := x.2.flatMap (rZ x.1)
def hP (g : Gr) : List Upd := g.flatMap GJ
end Go.Eng
end
section
set_option linter.unusedSimpArgs false
set_option linter.unusedVariables false
set_option maxRecDepth 10000
namespace Go.Eng
open Go Go.Proofs
def upsA (l : List Upd) : AV := .list 4 (l.map upA) false
def yL (f : List Tm) (u : Upd) : Upd := ⟨u.f0, LM f u.f1, u.f2⟩
def F63 : AFn := ⟨29, 2, [.t 4], (.seq (.ops [oo 4 (.mov (.v .nils))]) (.seq (.ops [oo 5 (.mov (.v .nils))]) (.seq (.seq (.ops [oo 8 (.mov (.t 0)), oo 9 (.len (.t 8)), oo 10 (.mov (.v (.int .i64 0)))]) (.block 0 (.loop (.seq (.ops [oo 11 (.bin .lss (.t 10) (.t 9))]) (.seq (.cond (.t 11) .skip (.exit 0)) (.seq (.block 1 (.seq (.ops [oo 12 (.iaddr 4 (.t 8) (.t 10)), oo 13 (.load true 4 (.t 12)), oo 7 (.alloc 4 (.agg [.nils, (.int .i64 0), (.int .i64 0), (.int .i64 0)])), on (.store 4 (.t 7) (.t 13))]) (.ops [oo 29 (.mov (.t 5)), oo 30 (.faddr 0 (.t 7)), oo 31 (.load false 1 (.t 30)), oo 33 (.mov (.t 1)), oo 34 (.faddr 1 (.t 7)), oo 35 (.load true 2 (.t 34)), oo 37 (.faddr 3 (.t 7)), oo 38 (.load false 1 (.t 37)), oq 32 (.call 87 [(.t 31)]), oq 36 (.call 96 [(.t 33), (.t 35)]), oo 39 (.build [.nils, (.int .i64 0), (.int .i64 0), (.int .i64 0)] [(0, 1, (.t 32)), (1, 2, (.t 36)), (3, 1, (.t 38))]), oo 40 (.bsl 4 1 (.agg [.nils, (.int .i64 0), (.int .i64 0), (.int .i64 0)]) [(0, (.t 39))]), oo 41 (.app 4 48 (.t 29) (.t 40)), oo 42 (.mov (.t 41)), oo 14 (.mov (.t 29)), oo 15 (.mov (.t 30)), oo 16 (.mov (.t 31)), oo 18 (.mov (.t 33)), oo 19 (.mov (.t 34)), oo 20 (.mov (.t 35)), oo 22 (.mov (.t 37)), oo 23 (.mov (.t 38)), oo 17 (.mov (.t 32)), oo 21 (.mov (.t 36)), oo 24 (.mov (.t 39)), oo 25 (.mov (.t 40)), oo 26 (.mov (.t 41)), oo 5 (.mov (.t 42))]))) (.ops [oo 27 (.bin .add (.t 10) (.v (.int .i64 1))), oo 10 (.mov (.t 27))]))))))) (.seq (.ops [oo 28 (.mov (.t 5)), oo 4 (.mov (.t 28))]) .ret))))⟩
theorem c63 : aD Try.prog 63 = some F63 := by kernel_rfl
theorem nQ (x : AV) (l : List Upd) (fr : List Tm) (H : AH) (hx : elems 4 x H = some (l.map upA)) (hl : l.length < 1099511627776) (hf : fr.length < 1099511627776) (hs : bB l) : aC Try.prog 63 [x, fK fr] H fun r H' => r = upsA (l.map (yL fr)) ∧ H' = H := by
  refine bH c63 (v := upsA (l.map (yL fr))) (fun n => tW (tX n) _) (by simp [F63]) ?_
  unfold F63
  have hr := aS hx
  simp only [push_cast, ↓reduceIte, Nat.reduceEqDiff, reduceCtorEq, Nat.reduceAdd, Nat.reduceLT, Nat.reduceLeDiff, hr, List.length_map]
  refine aJ (fun (i : Nat) f H' => H <+: H' ∧ i ≤ l.length ∧ f 10 = .int .i64 i ∧ f 8 = x ∧ f 9 = .int .i64 l.length ∧ f 1 = fK fr ∧ Own H H' 4 (f 5) (((l.take i).map (yL fr)).map upA)) (fun i => l.length - i) 0 ?_ ?_
  · exact ⟨List.prefix_refl _, Nat.zero_le _, rfl, rfl, rfl, rfl, .inl ⟨rfl, rfl⟩⟩
  · rintro i f H' ⟨hp, h1, e10, e8, e9, e1, ho⟩
    generalize hv : f 5 = v at ho
    by_cases hi : i < l.length
    · have hi' : (i : Int) < l.length := by omega
      have ax : aF 4 x (.int .i64 (i : Int)) = some (ptk x i 0) := aO hx (by rw [List.length_map]; exact hi) _
      have lx : (l.map upA)[i]? = some (upA l[i]) := by simp [hi]
      have ht : (l.take (i + 1)).map (yL fr) = (l.take i).map (yL fr) ++ [yL fr l[i]] := by rw [← List.take_append_getElem hi, List.map_append]; rfl
      have hsr := hs _ (List.getElem_mem hi)
      generalize l[i] = u at lx ht hsr
      simp only [push_cast, ↓reduceIte, Nat.reduceEqDiff, reduceCtorEq, Nat.reduceAdd, Nat.reduceLT, Nat.reduceLeDiff, aB, aA, e10, e8, e9, e1, hi', ax, aW hx lx, aQ, hp, upA, hv, bD]
      (refine aC.look (gC _ u.f0 _ rfl hsr) ?_; simp only [push_cast, ↓reduceIte, Nat.reduceEqDiff, reduceCtorEq, Nat.reduceAdd, Nat.reduceLT, Nat.reduceLeDiff, aB, aA, e10, e8, e9, e1, hv, bD])
      (refine aC.look (NK fr u.f1 _ hf) ?_; simp only [push_cast, ↓reduceIte, Nat.reduceEqDiff, reduceCtorEq, Nat.reduceAdd, Nat.reduceLT, Nat.reduceLeDiff, aB, aA, e10, e8, e9, e1, hv, aX])
      refine ho.mono.mono.xapp (aQ (aQ hp)) (xs := [upA (yL fr u)]) (dQ (by simp)) (by simp only [List.length_map, List.length_take, List.length_cons, List.length_nil]; omega) fun v' H4 ho' hp' => ?_
      simp only [push_cast, ↓reduceIte, Nat.reduceEqDiff, reduceCtorEq, Nat.reduceAdd, Nat.reduceLT, Nat.reduceLeDiff, e10, e8, e9, e1]
      refine ⟨i + 1, ⟨hp', hi, ?_, ?_⟩, by omega⟩
      · rw [aG (by omega) (by omega)]; simp
      · rw [ht, List.map_append]; exact ho'
    · have hi' : ¬ (i : Int) < l.length := by omega
      simp only [push_cast, ↓reduceIte, Nat.reduceEqDiff, reduceCtorEq, Nat.reduceAdd, Nat.reduceLT, Nat.reduceLeDiff, e10, e8, e9, hi', hv]
      rw [List.take_of_length_le (by omega)] at ho
      obtain ⟨H3, w1, w2⟩ := ho.weak hp
      exact ⟨H3, w1, w2⟩
end Go.Eng
end
section
set_option linter.unusedSimpArgs false
set_option linter.unusedVariables false
set_option maxRecDepth 10000
namespace Go.Eng
open Go Go.Proofs
def F98 : AFn := ⟨12, 2, [.t 4], (.seq (.ops [oo 4 (.mov (.v .nils))]) (.seq (.ops [oo 6 (.mov (.t 0)), oo 7 (.call 131 [(.t 6)]), oo 5 (.mov (.t 7))]) (.seq (.ops [oo 8 (.mov (.t 5)), oo 9 (.mov (.t 1)), oo 10 (.call 132 [(.t 8), (.t 9)])]) (.seq (.ops [oo 11 (.mov (.t 5)), oo 4 (.mov (.t 11))]) .ret))))⟩
theorem c98 : aD Try.prog 98 = some F98 := by kernel_rfl
theorem CC (x : AV) (l : List Upd) (H : AH) (hx : elems 4 x H = some (l.map upA)) (hl : l.length < 1099511627776) (hs : bB l) : aC Try.prog 98 [x, .fn 99 [] []] H fun r H' => r = upsA (Stab.sortS gB l) ∧ H' = H := by
  refine bH c98 (v := upsA (Stab.sortS gB l)) (fun n => tW (tX n) _) (by simp [F98]) ?_
  unfold F98
  simp only [push_cast, ↓reduceIte, Nat.reduceEqDiff, reduceCtorEq, Nat.reduceAdd, Nat.reduceLT, Nat.reduceLeDiff]
  refine (GF x l H hx hl).mono fun r H1 ⟨h1, p1⟩ => ?_
  simp only [push_cast, ↓reduceIte, Nat.reduceEqDiff, reduceCtorEq, Nat.reduceAdd, Nat.reduceLT, Nat.reduceLeDiff]
  refine (BV h1 p1 hl hs).mono fun _ H2 ⟨h2, p2⟩ => ?_
  simp only [push_cast, ↓reduceIte, Nat.reduceEqDiff, reduceCtorEq, Nat.reduceAdd, Nat.reduceLT, Nat.reduceLeDiff]
  obtain ⟨H3, w1, w2⟩ := h2.weak p2
  exact ⟨H3, w1, w2⟩
end Go.Eng
end
section
set_option linter.unusedSimpArgs false
set_option linter.unusedVariables false
set_option maxRecDepth 10000
namespace Go.Eng
open Go Go.Proofs
def F97 : AFn := ⟨6, 2, [.t 4], (.seq (.ops [oo 2 (.box 1 (.t 0)), oo 3 (.box 1 (.t 1)), oo 4 (.mov (.v .nilf))]) (.seq (.ops [oo 5 (.mkf 130 [] [(.t 2), (.t 3)]), oo 4 (.mov (.t 5))]) .ret))⟩
theorem c97 : aD Try.prog 97 = some F97 := by kernel_rfl
theorem KG (l : List Upd) (H : AH) : aC Try.prog 97 [upsA l, .fn 99 [] []] H fun r H' => r = .fn 130 [] [.ptr H.length 0 0, .ptr (H.length + 1) 0 0] ∧ H' = H ++ [.live 1 [upsA l]] ++ [.live 1 [.fn 99 [] []]] := by
  refine aN c97 (by simp [F97]) ?_
  unfold F97
  have c1 : cells (.fn 99 [] []) = [.fn 99 [] []] := rfl
  simp only [push_cast, ↓reduceIte, Nat.reduceEqDiff, reduceCtorEq, Nat.reduceAdd, Nat.reduceLT, Nat.reduceLeDiff, aB, aA, upsA, c1]
def eL : List Upd → Nat
  | [] => 0
  | x :: r => (r.takeWhile fun y => decide (gB x y = 0)).length + 1
theorem yM (l : List Upd) : eL l ≤ l.length := by
  cases l with
  | nil => exact Nat.le_refl _
  | cons x r =>
    have := (List.takeWhile_prefix (fun y => decide (gB x y = 0)) (l := r)).length_le
    simp only [eL, List.length_cons]; omega
def mG : AC := (.block 2 (.loop (.seq (.seq (.ops [oo 35 (.mov (.t 4)), oo 36 (.load false 1 (.t 1)), oo 37 (.len (.t 36)), oo 38 (.bin .lss (.t 35) (.t 37)), oo 39 (.mov (.t 38)), og 40 39 true (.load false 1 (.t 2)), og 41 39 true (.load false 1 (.t 1)), og 42 39 true (.iaddr 4 (.t 41) (.v (.int .i64 0))), og 43 39 true (.load true 4 (.t 42)), og 44 39 true (.load false 1 (.t 1)), og 45 39 true (.mov (.t 4)), og 46 39 true (.iaddr 4 (.t 44) (.t 45)), og 47 39 true (.load true 4 (.t 46)), og 48 39 true (.callv (.t 40) [(.t 43), (.t 47)]), og 49 39 true (.bin .eql (.t 48) (.v (.int .i64 0))), oo 50 (.pick (.t 39) (.t 49) (.v (.bool false))), oo 8 (.mov (.t 35)), oo 9 (.mov (.t 36)), oo 10 (.mov (.t 37)), oo 11 (.mov (.t 38)), oo 12 (.mov (.t 39)), oo 13 (.mov (.t 40)), oo 14 (.mov (.t 41)), oo 15 (.mov (.t 42)), oo 16 (.mov (.t 43)), oo 17 (.mov (.t 44)), oo 18 (.mov (.t 45)), oo 19 (.mov (.t 46)), oo 20 (.mov (.t 47)), oo 21 (.mov (.t 48)), oo 22 (.mov (.t 49)), oo 23 (.mov (.t 50))]) (.cond (.t 23) .skip (.exit 2))) (.block 3 (.ops [oo 24 (.mov (.t 4)), oo 25 (.bin .add (.t 24) (.v (.int .i64 1))), oo 4 (.mov (.t 25))])))))
def yN : AC := (.block 0 (.loop (.seq (.seq (.ops [oo 5 (.load false 1 (.t 1)), oo 6 (.len (.t 5)), oo 7 (.bin .gtr (.t 6) (.v (.int .i64 0)))]) (.cond (.t 7) .skip (.exit 0))) (.block 1 (.seq (.ops [oo 4 (.mov (.v (.int .i64 1)))]) (.seq (mG) (.seq (.seq (.ops [oo 26 (.mov (.t 0)), oo 27 (.load false 1 (.t 1)), oo 28 (.mov (.t 4)), oo 29 (.slice 4 (.t 27) none (some (.t 28)) none), oo 30 (.callv (.t 26) [(.t 29)]), oo 31 (.un .not (.t 30))]) (.cond (.t 31) .ret .skip)) (.ops [oo 32 (.load false 1 (.t 1)), oo 33 (.mov (.t 4)), oo 34 (.slice 4 (.t 32) (some (.t 33)) none none), on (.store 1 (.t 1) (.t 34))]))))))))
def NO : AFn := ⟨35, 1, [], (yN)⟩
theorem PG : aD Try.prog 130 = some NO := by kernel_rfl
theorem GK {t p q : Nat} {x : Upd} {r : List Upd} {H : AH} (hl : (x :: r).length < 1099511627776) (hs : bB (x :: r)) (hp : obj? H p = some (1, [upsA (x :: r)])) (hq : obj? H q = some (1, [.fn 99 [] []])) {f : AF} {Q : AE → AF → AH → Prop}
    (e0 : f 0 = .yld t) (e1 : f 1 = .ptr p 0 0) (e2 : f 2 = .ptr q 0 0) (e4 : f 4 = .int .i64 1)
    (hQ : ∀ f, f 0 = .yld t → f 1 = .ptr p 0 0 → f 2 = .ptr q 0 0 → f 4 = .int .i64 (eL (x :: r) : Nat) → Q .normal f H) : mG.wp Try.prog Q f H := by
  unfold mG
  simp only [push_cast, ↓reduceIte, Nat.reduceEqDiff, reduceCtorEq, Nat.reduceAdd, Nat.reduceLT, Nat.reduceLeDiff]
  have hg : eL (x :: r) = (r.takeWhile fun y => decide (gB x y = 0)).length + 1 := rfl
  generalize eL (x :: r) = g at hg hQ
  refine aJ (fun (i : Nat) f H' => H' = H ∧ 1 ≤ i ∧ i ≤ r.length + 1 ∧ f 0 = .yld t ∧ f 1 = .ptr p 0 0 ∧ f 2 = .ptr q 0 0 ∧ f 4 = .int .i64 i ∧ g = ((r.drop (i - 1)).takeWhile fun y => decide (gB x y = 0)).length + i) (fun i => r.length + 1 - i) 1 ⟨rfl, Nat.le_refl _, by omega, e0, e1, e2, e4, hg⟩ ?_
  rintro i f H' ⟨rfl, h1, h2, e0, e1, e2, e4, ho⟩
  have hx := hs x (by simp)
  rw [List.length_cons] at hl
  have la : dE (upsA (x :: r)) = some (r.length + 1) := by simp [upsA, dE]
  have pl : ∀ l, part false 1 0 (upsA l) = some (upsA l) := fun _ => rfl
  have pf : ∀ k, part false 1 0 (.fn k [] []) = some (.fn k [] []) := fun _ => rfl
  by_cases hi : i < r.length + 1
  · have hi' : (i : Int) < ((r.length + 1 : Nat) : Int) := by omega
    have hj : i - 1 < r.length := by omega
    have hy := hs (r[i - 1]) (List.mem_cons_of_mem _ (List.getElem_mem hj))
    have ax0 : aF 4 (upsA (x :: r)) (.int .i64 0) = some (.lptr 4 ((x :: r).map upA) 0 0) := by simp [upsA, aF, nat?]
    have ax : aF 4 (upsA (x :: r)) (.int .i64 (i : Int)) = some (.lptr 4 ((x :: r).map upA) i 0) := by simp [upsA, aF, nat?, hi]
    have lx0 : ((x :: r).map upA)[0]? = some (upA x) := rfl
    have lx : ((x :: r).map upA)[i]? = some (upA r[i - 1]) := by
      obtain ⟨j, rfl⟩ : ∃ j, i = j + 1 := ⟨i - 1, by omega⟩
      simp at hj
      simp [hj]
    rw [List.drop_eq_getElem_cons hj, List.takeWhile_cons] at ho
    generalize r[i - 1] = y at hy lx ho
    generalize hn : r.length + 1 = n at la hi' h2 hi
    generalize (x :: r).map upA = L at ax0 ax lx0 lx
    have px : ∀ u, part true 4 0 (upA u) = some (upA u) := fun _ => rfl
    by_cases hc : gB x y = 0
    · rw [if_pos (by simpa using hc)] at ho
      simp only [push_cast, ↓reduceIte, Nat.reduceEqDiff, reduceCtorEq, Nat.reduceAdd, Nat.reduceLT, Nat.reduceLeDiff, aB, aA, e0, e1, e2, e4, hp, hq, la, hi', decide_true, ax0, ax, lx0, lx, px, pl, pf, eS]
      (refine aC.look (gN _ _ x y _ (HK x _) (HK y _) hx hy) ?_; simp only [push_cast, ↓reduceIte, Nat.reduceEqDiff, reduceCtorEq, Nat.reduceAdd, Nat.reduceLT, Nat.reduceLeDiff, aB, aA, hc, e0, e1, e2, e4])
      refine ⟨i + 1, ⟨by omega, by omega, ?_, ?_⟩, by omega⟩
      · rw [aG (by omega) (by omega)]; simp
      · rw [show i + 1 - 1 = i - 1 + 1 by omega, ho, List.length_cons]; omega
    · rw [if_neg (by simpa using hc)] at ho
      simp only [push_cast, ↓reduceIte, Nat.reduceEqDiff, reduceCtorEq, Nat.reduceAdd, Nat.reduceLT, Nat.reduceLeDiff, aB, aA, e0, e1, e2, e4, hp, hq, la, hi', decide_true, ax0, ax, lx0, lx, px, pl, pf, eS]
      (refine aC.look (gN _ _ x y _ (HK x _) (HK y _) hx hy) ?_; simp only [push_cast, ↓reduceIte, Nat.reduceEqDiff, reduceCtorEq, Nat.reduceAdd, Nat.reduceLT, Nat.reduceLeDiff, aB, aA, hc, e0, e1, e2, e4])
      rw [show g = i by rw [ho]; simp] at hQ
      exact hQ _ e0 e1 e2 e4
  · have hi' : ¬ (i : Int) < ((r.length + 1 : Nat) : Int) := by omega
    generalize hn : r.length + 1 = n at la hi' h2 hi
    simp only [push_cast, ↓reduceIte, Nat.reduceEqDiff, reduceCtorEq, Nat.reduceAdd, Nat.reduceLT, Nat.reduceLeDiff, aB, aA, e0, e1, e2, e4, hp, hq, la, hi', decide_false, pl]
    rw [show g = i by rw [ho, List.drop_eq_nil_of_le (by omega)]; simp] at hQ
    exact hQ _ e0 e1 e2 e4
theorem yO {t p q : Nat} {J : List Upd → AH → Prop} {R' : AH → Prop} {l : List Upd} {H : AH} (hl : l.length < 1099511627776) (hs : bB l) (hJ : J l H) (hp : obj? H p = some (1, [upsA l])) (hq : obj? H q = some (1, [.fn 99 [] []])) (hpq : p ≠ q)
    (hstep : ∀ r H', r ≠ [] → r.length ≤ l.length → J r H' → obj? H' p = some (1, [upsA r]) → obj? H' q = some (1, [.fn 99 [] []]) → eY Try.prog t [upsA (r.take (eL r))] H' fun b H2 => obj? H2 p = some (1, [upsA r]) ∧ obj? H2 q = some (1, [.fn 99 [] []]) ∧ ((b = .bool true ∧ J (r.drop (eL r)) (List.set H2 p (.live 1 [upsA (r.drop (eL r))]))) ∨ (b = .bool false ∧ R' H2)))
    (hend : ∀ H', J [] H' → R' H') : aC Try.prog 130 [.yld t, .ptr p 0 0, .ptr q 0 0] H fun _ H' => R' H' := by
  refine aN PG (by simp [NO]) ?_
  unfold NO
  unfold yN
  have pl : ∀ l, part false 1 0 (upsA l) = some (upsA l) := fun _ => rfl
  have lp := bG hp
  simp only [push_cast, ↓reduceIte, Nat.reduceEqDiff, reduceCtorEq, Nat.reduceAdd, Nat.reduceLT, Nat.reduceLeDiff]
  refine aJ (fun (r : List Upd) f H' => f 0 = .yld t ∧ f 1 = .ptr p 0 0 ∧ f 2 = .ptr q 0 0 ∧ obj? H' p = some (1, [upsA r]) ∧ obj? H' q = some (1, [.fn 99 [] []]) ∧ J r H' ∧ r.length ≤ l.length ∧ bB r) (fun r => r.length) l ⟨rfl, rfl, rfl, hp, hq, hJ, Nat.le_refl _, hs⟩ ?_
  rintro r f H' ⟨e0, e1, e2, op, oq, hj, hle, hsr⟩
  have la : dE (upsA r) = some r.length := by simp [upsA, dE]
  by_cases hr : r = []
  · subst hr
    simp only [push_cast, ↓reduceIte, Nat.reduceEqDiff, reduceCtorEq, Nat.reduceAdd, Nat.reduceLT, Nat.reduceLeDiff, e0, e1, e2, op, oq, la, pl, aB]
    rw [if_neg (by decide)]
    exact hend _ hj
  · have hr' : (r.length : Int) > 0 := by have := List.length_pos_iff.2 hr; omega
    simp only [push_cast, ↓reduceIte, Nat.reduceEqDiff, reduceCtorEq, Nat.reduceAdd, Nat.reduceLT, Nat.reduceLeDiff, e0, e1, e2, op, oq, la, pl, aB, hr']
    have hg := yM r
    have hg1 : 0 < eL r := by
      cases r with
      | nil => exact absurd rfl hr
      | cons x r => simp [eL]
    refine (fun {Q} (hQ : ∀ f, f 0 = .yld t → f 1 = .ptr p 0 0 → f 2 = .ptr q 0 0 → f 4 = .int .i64 (eL r : Nat) → Q .normal f H') => ?_ : ∀ {Q : AE → AF → AH → Prop}, (∀ f, f 0 = .yld t → f 1 = .ptr p 0 0 → f 2 = .ptr q 0 0 → f 4 = .int .i64 (eL r : Nat) → Q .normal f H') → mG.wp Try.prog Q _ H') (fun f e0 e1 e2 e4 => ?_)
    · cases r with
      | nil => exact absurd rfl hr
      | cons x r => exact GK (by omega) hsr op oq e0 e1 e2 rfl hQ
    have st := hstep r H' hr hle hj op oq
    generalize eL r = g at hg hg1 e4 st
    have sl : (if g ≤ (r.map upA).length then True else False) := by rw [if_pos (by rw [List.length_map]; exact hg)]; trivial
    have s1 : ∀ f x, ev f x = .int .i64 (g : Int) → cE f 4 (upsA r) none (some x) none = some (upsA (r.take g)) := fun f x h => by
      unfold upsA; rw [nM h (by rw [List.length_map]; exact hg), List.map_take]
    have s2 : ∀ f x, ev f x = .int .i64 (g : Int) → cE f 4 (upsA r) (some x) none none = some (upsA (r.drop g)) := fun f x h => by
      unfold upsA; rw [jH h (by rw [List.length_map]; exact hg), List.map_drop]
    simp only [push_cast, ↓reduceIte, Nat.reduceEqDiff, reduceCtorEq, Nat.reduceAdd, Nat.reduceLT, Nat.reduceLeDiff, e0, e1, e2, e4, op, oq, pl, aB]
    rw [s1 _ _ (by rfl)]
    simp only [push_cast, ↓reduceIte, Nat.reduceEqDiff, reduceCtorEq, Nat.reduceAdd, Nat.reduceLT, Nat.reduceLeDiff]
    refine st.mono fun b H2 ⟨o1, o2, h⟩ => ?_
    have lp2 := bG o1
    rcases h with ⟨rfl, h⟩ | ⟨rfl, h⟩
    · simp only [push_cast, ↓reduceIte, Nat.reduceEqDiff, reduceCtorEq, Nat.reduceAdd, Nat.reduceLT, Nat.reduceLeDiff, e0, e1, e2, e4, o1, pl, aB]
      rw [s2 _ _ (by rfl)]
      have cu : cells (upsA (r.drop g)) = [upsA (r.drop g)] := rfl
      have cv : ∀ l, cX (upsA l) = true := fun _ => rfl
      have pc : oI (upsA r) 0 [upsA (r.drop g)] = upsA (r.drop g) := rfl
      have cr : cells (upsA r) = [upsA r] := rfl
      simp only [push_cast, ↓reduceIte, Nat.reduceEqDiff, reduceCtorEq, Nat.reduceAdd, Nat.reduceLT, Nat.reduceLeDiff, aB, aA, e0, e1, e2, e4, o1, cu, cv, cr, pc]
      exact ⟨r.drop g, ⟨bP lp2, by rw [cB hpq]; exact o2, h, by rw [List.length_drop]; omega, fun u hu => hsr u (List.mem_of_mem_drop hu)⟩, by rw [List.length_drop]; omega⟩
    · simp only [push_cast, ↓reduceIte, Nat.reduceEqDiff, reduceCtorEq, Nat.reduceAdd, Nat.reduceLT, Nat.reduceLeDiff]
      exact h
end Go.Eng
end
section
set_option linter.unusedSimpArgs false
set_option linter.unusedVariables false
set_option maxRecDepth 10000
namespace Go.Eng
open Go Go.Proofs
theorem yP (a b : Int) : (rX a b).2 = 0 ∨ (rX a b).2 = 60 := by
  unfold rX; split <;> simp
def DU : Int → List Upd → Option Int
  | n, [] => some n
  | n, u :: r => if (rX n u.f2).2 = 0 then DU (rX n u.f2).1 r else none
def jM (l : List Upd) : Option (List Upd) :=
  match DU 0 l with
  | none => none
  | some n => if n = 0 then some [] else some [⟨(l.headD ⟨[], ⟨0, 0⟩, 0⟩).f0, (l.headD ⟨[], ⟨0, 0⟩, 0⟩).f1, n⟩]
def dZ : List Upd → List (List Upd) → Option (List Upd)
  | out, [] => some out
  | out, l :: r => (jM l).bind fun x => dZ (out ++ x) r
def hY : Nat → List Upd → List (List Upd)
  | 0, _ => []
  | _ + 1, [] => []
  | k + 1, x :: r => (x :: r).take (eL (x :: r)) :: hY k ((x :: r).drop (eL (x :: r)))
theorem nR : ∀ (k m : Nat) (l : List Upd), l.length ≤ k → l.length ≤ m → hY k l = hY m l
  | 0, m, [], _, _ => by cases m <;> rfl
  | k + 1, 0, [], _, _ => rfl
  | k + 1, m + 1, [], _, _ => rfl
  | 0, m, x :: r, h, _ => by simp at h
  | k + 1, 0, x :: r, _, h => by simp at h
  | k + 1, m + 1, x :: r, h1, h2 => by
    simp only [hY]
    have : 0 < eL (x :: r) := by simp [eL]
    simp only [List.length_cons] at h1 h2
    rw [nR k m _ (by rw [List.length_drop, List.length_cons]; omega) (by rw [List.length_drop, List.length_cons]; omega)]
theorem yQ {r : List Upd} (h : r ≠ []) : hY r.length r = r.take (eL r) :: hY (r.drop (eL r)).length (r.drop (eL r)) := by
  cases r with
  | nil => exact absurd rfl h
  | cons x r =>
    have : 0 < eL (x :: r) := by simp [eL]
    simp only [List.length_cons, hY]
    rw [nR r.length _ _ (by rw [List.length_drop, List.length_cons]; omega) (Nat.le_refl _)]
def bV (l : List Upd) : List Upd × Int :=
  match dZ [] (hY l.length (Stab.sortS gB l)) with
  | some o => (o, 0)
  | none => ([], 60)
def yR : AC := (.block 2 (.loop (.seq (.ops [oo 17 (.bin .lss (.t 16) (.t 15))]) (.seq (.cond (.t 17) .skip (.exit 2)) (.seq (.block 3 (.seq (.ops [oo 18 (.iaddr 4 (.t 14) (.t 16)), oo 19 (.load true 4 (.t 18)), oo 9 (.alloc 4 (.agg [.nils, (.int .i64 0), (.int .i64 0), (.int .i64 0)])), on (.store 4 (.t 9) (.t 19))]) (.seq (.ops [oo 21 (.mov (.t 6)), oo 22 (.faddr 3 (.t 9)), oo 23 (.load false 1 (.t 22)), oo 24 (.call 100 [(.t 21), (.t 23)]), oo 20 (.mov (.t 24)), oo 25 (.ext (.t 20) 0), oo 26 (.ext (.t 20) 1), oo 6 (.mov (.t 25)), oo 7 (.mov (.t 26))]) (.seq (.ops [oo 27 (.mov (.t 7)), oo 28 (.bin .neq (.t 27) (.v (.int .i64 0)))]) (.cond (.t 28) (.seq (.ops [oo 29 (.mov (.t 7)), on (.store 1 (.t 2) (.v .nils)), on (.store 1 (.t 3) (.t 29))]) .ret) .skip))))) (.ops [oo 30 (.bin .add (.t 16) (.v (.int .i64 1))), oo 16 (.mov (.t 30))]))))))
def F64 : AFn := ⟨48, 1, [.cell 2 false 1, .cell 3 false 1], (.seq (.ops [oo 2 (.alloc 1 .nils), oo 3 (.alloc 1 (.int .i64 0))]) (.seq (.ops [oo 4 (.alloc 1 .nils)]) (.seq (.seq (.ops [oo 10 (.mov (.t 0)), oo 11 (.call 98 [(.t 10), (.v (.fn 99 [] []))]), oo 12 (.call 97 [(.t 11), (.v (.fn 99 [] []))])]) (.block 0 (.rangeF 48 (.t 12) [13] (.ops [oo 5 (.mov (.t 13))]) (.block 1 (.seq (.ops [oo 6 (.mov (.v (.int .i64 0))), oo 7 (.mov (.v (.int .i64 0)))]) (.seq (.seq (.ops [oo 14 (.mov (.t 5)), oo 15 (.len (.t 14)), oo 16 (.mov (.v (.int .i64 0)))]) (yR)) (.seq (.ops [oo 31 (.mov (.t 6)), oo 32 (.bin .neq (.t 31) (.v (.int .i64 0)))]) (.cond (.t 32) (.ops [oo 48 (.load false 1 (.t 4)), oo 49 (.mov (.t 5)), oo 50 (.iaddr 4 (.t 49) (.v (.int .i64 0))), oo 51 (.faddr 0 (.t 50)), oo 52 (.load false 1 (.t 51)), oo 54 (.mov (.t 5)), oo 55 (.iaddr 4 (.t 54) (.v (.int .i64 0))), oo 56 (.faddr 1 (.t 55)), oo 57 (.load true 2 (.t 56)), oo 58 (.mov (.t 6)), oq 53 (.call 87 [(.t 52)]), oo 59 (.build [.nils, (.int .i64 0), (.int .i64 0), (.int .i64 0)] [(0, 1, (.t 53)), (1, 2, (.t 57)), (3, 1, (.t 58))]), oo 60 (.bsl 4 1 (.agg [.nils, (.int .i64 0), (.int .i64 0), (.int .i64 0)]) [(0, (.t 59))]), oo 61 (.app 4 48 (.t 48) (.t 60)), oo 62 (.store 1 (.t 4) (.t 61)), oo 33 (.mov (.t 48)), oo 34 (.mov (.t 49)), oo 35 (.mov (.t 50)), oo 36 (.mov (.t 51)), oo 37 (.mov (.t 52)), oo 39 (.mov (.t 54)), oo 40 (.mov (.t 55)), oo 41 (.mov (.t 56)), oo 42 (.mov (.t 57)), oo 43 (.mov (.t 58)), oo 38 (.mov (.t 53)), oo 44 (.mov (.t 59)), oo 45 (.mov (.t 60)), oo 46 (.mov (.t 61))]) .skip)))))))) (.seq (.ops [oo 47 (.load false 1 (.t 4)), on (.store 1 (.t 2) (.t 47)), on (.store 1 (.t 3) (.v (.int .i64 0)))]) .ret))))⟩
theorem c64 : aD Try.prog 64 = some F64 := by kernel_rfl
def CB (H : AH) (a b v r : AV) (o : aM) : AH := H ++ [.live 1 [a], .live 1 [b], .live 1 [v], .live 1 [r], .live 1 [.fn 99 [] []], o]
theorem nT {H : AH} {a b v r : AV} {o : aM} : (CB H a b v r o).length = H.length + 6 := by simp [CB]
theorem cb0 {H X : AH} {a b v r : AV} {o : aM} : obj? (CB H a b v r o ++ X) H.length = some (1, [a]) := by simp [CB, obj?]
theorem cb1 {H X : AH} {a b v r : AV} {o : aM} : obj? (CB H a b v r o ++ X) (H.length + 1) = some (1, [b]) := by simp [CB, obj?, List.getElem?_append_right]
theorem cb2 {H X : AH} {a b v r : AV} {o : aM} : obj? (CB H a b v r o ++ X) (H.length + 1 + 1) = some (1, [v]) := by simp [CB, obj?, List.getElem?_append_right, Nat.add_assoc]
theorem cb3 {H X : AH} {a b v r : AV} {o : aM} : obj? (CB H a b v r o ++ X) (H.length + 3) = some (1, [r]) := by simp [CB, obj?, List.getElem?_append_right]
theorem cb4 {H X : AH} {a b v r : AV} {o : aM} : obj? (CB H a b v r o ++ X) (H.length + 4) = some (1, [.fn 99 [] []]) := by simp [CB, obj?, List.getElem?_append_right]
theorem cb5 {H X : AH} {a b v r : AV} {o : aM} : (CB H a b v r o ++ X)[H.length + 5]? = some o := by simp [CB, List.getElem?_append_right]
theorem cs0 {H X : AH} {a b v r a' : AV} {o : aM} : List.set (CB H a b v r o ++ X) H.length (.live 1 [a']) = CB H a' b v r o ++ X := by simp [CB, List.set_append_right]
theorem cs1 {H X : AH} {a b v r a' : AV} {o : aM} : List.set (CB H a b v r o ++ X) (H.length + 1) (.live 1 [a']) = CB H a a' v r o ++ X := by simp [CB, List.set_append_right]
theorem cs2 {H X : AH} {a b v r a' : AV} {o : aM} : List.set (CB H a b v r o ++ X) (H.length + 1 + 1) (.live 1 [a']) = CB H a b a' r o ++ X := by simp [CB, List.set_append_right, Nat.add_assoc]
theorem cs3 {H X : AH} {a b v r a' : AV} {o : aM} : List.set (CB H a b v r o ++ X) (H.length + 3) (.live 1 [a']) = CB H a b v a' o ++ X := by simp [CB, List.set_append_right]
theorem cs5 {H X : AH} {a b v r : AV} {o o' : aM} : List.set (CB H a b v r o ++ X) (H.length + 5) o' = CB H a b v r o' ++ X := by simp [CB, List.set_append_right]
theorem CD {g : List Upd} {H X : AH} {v r : AV} {o : aM} {f : AF} {Q : AE → AF → AH → Prop} (hl : g.length < 1099511627776)
    (e2 : f 2 = .ptr H.length 0 0) (e3 : f 3 = .ptr (H.length + 1) 0 0) (e4 : f 4 = .ptr (H.length + 1 + 1) 0 0) (e5 : f 5 = upsA g) (e6 : f 6 = .int .i64 0) (e14 : f 14 = upsA g) (e15 : f 15 = .int .i64 g.length) (e16 : f 16 = .int .i64 0)
    (h1 : ∀ f X' n, DU 0 g = some n → f 2 = .ptr H.length 0 0 → f 3 = .ptr (H.length + 1) 0 0 → f 4 = .ptr (H.length + 1 + 1) 0 0 → f 5 = upsA g → f 6 = .int .i64 n → Q .normal f (CB H .nils (.int .i64 0) v r o ++ (X ++ X')))
    (h2 : ∀ f X', DU 0 g = none → f 2 = .ptr H.length 0 0 → f 3 = .ptr (H.length + 1) 0 0 → Q .ret f (CB H .nils (.int .i64 60) v r o ++ (X ++ X'))) : yR.wp Try.prog Q f (CB H .nils (.int .i64 0) v r o ++ X) := by
  unfold yR
  simp only [push_cast, ↓reduceIte, Nat.reduceEqDiff, reduceCtorEq, Nat.reduceAdd, Nat.reduceLT, Nat.reduceLeDiff]
  refine aJ (fun (s : Nat × Int × AH) f H' => H' = CB H .nils (.int .i64 0) v r o ++ (X ++ s.2.2) ∧ s.1 ≤ g.length ∧ f 2 = .ptr H.length 0 0 ∧ f 3 = .ptr (H.length + 1) 0 0 ∧ f 4 = .ptr (H.length + 1 + 1) 0 0 ∧ f 5 = upsA g ∧ f 6 = .int .i64 s.2.1 ∧ f 14 = upsA g ∧ f 15 = .int .i64 g.length ∧ f 16 = .int .i64 s.1 ∧ DU 0 g = DU s.2.1 (g.drop s.1)) (fun s => g.length - s.1) (0, 0, []) ⟨by simp, Nat.zero_le _, e2, e3, e4, e5, e6, e14, e15, e16, rfl⟩ ?_
  rintro ⟨i, n, Y⟩ f H' ⟨rfl, hi0, e2, e3, e4, e5, e6, e14, e15, e16, hs⟩
  dsimp only at hi0 e6 e16 hs
  by_cases hi : i < g.length
  · have hi' : (i : Int) < g.length := by omega
    have ax : aF 4 (upsA g) (.int .i64 (i : Int)) = some (.lptr 4 (g.map upA) i 0) := by simp [upsA, aF, nat?, hi]
    have lx : (g.map upA)[i]? = some (upA g[i]) := by simp [hi]
    rw [List.drop_eq_getElem_cons hi] at hs
    simp only [DU] at hs
    generalize g[i] = u at lx hs
    have o0 := cb0 (H := H) (X := X ++ Y) (a := .nils) (b := .int .i64 0) (v := v) (r := r) (o := o)
    have o1 := fun a => cb1 (H := H) (X := X ++ Y) (a := a) (b := .int .i64 0) (v := v) (r := r) (o := o)
    have s0 := fun a' => cs0 (H := H) (X := X ++ Y) (a := .nils) (b := .int .i64 0) (v := v) (r := r) (o := o) (a' := a')
    have s1 := fun a a' => cs1 (H := H) (X := X ++ Y) (a := a) (b := .int .i64 0) (v := v) (r := r) (o := o) (a' := a')
    have hlen := fun a b => nT (H := H) (a := a) (b := b) (v := v) (r := r) (o := o)
    have w1 : H.length < H.length + 6 + (X.length + Y.length) := by omega
    have w2 : H.length + 1 < H.length + 6 + (X.length + Y.length) := by omega
    by_cases hc : (rX n u.f2).2 = 0
    · rw [if_pos hc] at hs
      simp only [push_cast, ↓reduceIte, Nat.reduceEqDiff, reduceCtorEq, Nat.reduceAdd, Nat.reduceLT, Nat.reduceLeDiff, aB, aA, e2, e3, e4, e5, e6, e14, e15, e16, hi', ax, lx, upA, bD]
      (refine aC.look (KD n u.f2 _) ?_; simp only [push_cast, ↓reduceIte, Nat.reduceEqDiff, reduceCtorEq, Nat.reduceAdd, Nat.reduceLT, Nat.reduceLeDiff, aB, aA, e2, e3, e4, e5, e6, e14, e15, e16, hc])
      refine ⟨(i + 1, (rX n u.f2).1, Y ++ [.live 4 [upA u]]), ⟨by simp only [List.append_assoc]; rfl, hi, rfl, ?_, hs⟩, by dsimp only; omega⟩
      dsimp only; rw [aG (by omega) (by omega)]; simp
    · rw [if_neg hc] at hs
      have hc2 := (yP n u.f2).resolve_left hc
      have c60 : ¬ (60 : Int) = 0 := by decide
      simp only [push_cast, ↓reduceIte, Nat.reduceEqDiff, reduceCtorEq, Nat.reduceAdd, Nat.reduceLT, Nat.reduceLeDiff, aB, aA, e2, e3, e4, e5, e6, e14, e15, e16, hi', ax, lx, upA, bD]
      (refine aC.look (KD n u.f2 _) ?_; simp only [push_cast, ↓reduceIte, Nat.reduceEqDiff, reduceCtorEq, Nat.reduceAdd, Nat.reduceLT, Nat.reduceLeDiff, aB, aA, e2, e3, e4, e5, e6, e14, e15, e16, hc2, c60, hlen, w1, w2, o0, o1, s0, s1])
      simp only [List.append_assoc]
      exact h2 _ _ hs e2 e3
  · have hi' : ¬ (i : Int) < g.length := by omega
    simp only [push_cast, ↓reduceIte, Nat.reduceEqDiff, reduceCtorEq, Nat.reduceAdd, Nat.reduceLT, Nat.reduceLeDiff, e15, e16, hi']
    rw [List.drop_eq_nil_of_le (by omega)] at hs
    exact h1 _ Y n hs e2 e3 e4 e5 e6
theorem nV {H X : AH} {a b v r a' b' v' r' w : AV} {o o' : aM} {l : List AV} {sz : Nat} (h : Own (CB H a b v r o) (CB H a b v r o ++ X) sz w l) : Own (CB H a' b' v' r' o') (CB H a' b' v' r' o' ++ X) sz w l := by
  rcases h with h | ⟨t, ex, ht, e, ho⟩
  · exact .inl h
  · rw [nT] at ht
    refine .inr ⟨t, ex, by rw [nT]; exact ht, e, ?_⟩
    have key : ∀ a b v r o, obj? (CB H a b v r o ++ X) t = obj? X (t - (H.length + 6)) := by
      intro a b v r o
      unfold obj?
      rw [List.getElem?_append_right (by rw [nT]; omega), nT]
    rw [key] at ho ⊢
    exact ho
theorem dJ {H0 H : AH} {sz : Nat} {w : AV} {l : List AV} (h : Own H0 H sz w l) : cX w = true ∧ cells w = [w] ∧ part false 1 0 w = some w ∧ (∀ x, oI w 0 [x] = x) := by
  rcases h with ⟨rfl, _⟩ | ⟨t, ex, _, rfl, _⟩ <;> exact ⟨rfl, rfl, rfl, fun _ => rfl⟩
theorem wRf {P : Program} {n : Nat} {x : X} {ps : List Nat} {a b : AC} {Q : AE → AF → AH → Prop} {f : AF} {H : AH} {g : FuncId} {a1 bs : List AV} (h : ev f x = .fn g a1 bs)
    (hh : ∀ lp, rJ P n lp ps a b → aC P g (a1 ++ [.yld H.length] ++ bs) (H ++ [.loop f lp .ready none]) fun r H' => ∃ st pd, H'[H.length]? = some (aM.loop f lp st pd) ∧ st ≠ .busy ∧ Q (pd.getD .normal) f (H'.set H.length .dead)) : (AC.rangeF n x ps a b).wp P Q f H := by
  simp only [AC.wp, h]
  exact hh
def tZ (l : List Upd) : AV := .tup [upsA (bV l).1, .int .i64 (bV l).2]
theorem DV (x : AV) (l : List Upd) (H : AH) (hx : elems 4 x H = some (l.map upA)) (hl : l.length < 1099511627776) (hs : bB l) : aC Try.prog 64 [x] H fun r H' => r = tZ l ∧ H' = H := by
  refine bH c64 (v := tZ l) (fun n => ?_) (by simp [F64]) ?_
  · have : cl n (upsA (bV l).1) = true := tW (tX n) _
    simp [tZ, cl, cls, this]
  unfold F64
  simp only [push_cast, ↓reduceIte, Nat.reduceEqDiff, reduceCtorEq, Nat.reduceAdd, Nat.reduceLT, Nat.reduceLeDiff]
  (refine aC.look (CC x l _ (bA hx (by (repeat (first | exact List.prefix_refl _ | refine List.IsPrefix.trans ?_ (List.prefix_append _ _))))) hl hs) ?_; try simp only [push_cast, ↓reduceIte, Nat.reduceEqDiff, reduceCtorEq, Nat.reduceAdd, Nat.reduceLT, Nat.reduceLeDiff, aB, aA])
  have hlen := Stab.sortS_len GA l
  have hsS : bB (Stab.sortS gB l) := fun u hu => hs u ((Stab.sortS_mem l u).1 hu)
  unfold tZ bV
  rw [← hlen] at hl ⊢
  generalize Stab.sortS gB l = S at hl hsS ⊢
  clear hlen hs hx
  refine (KG S _).mono fun r H1 ⟨e, e1⟩ => ?_
  subst e e1
  simp only [push_cast, ↓reduceIte, Nat.reduceEqDiff, reduceCtorEq, Nat.reduceAdd, Nat.reduceLT, Nat.reduceLeDiff]
  refine wRf (by rfl) fun lp hb => ?_
  generalize hF : put _ _ _ = F
  have e2 : F 2 = .ptr H.length 0 0 := by rw [← hF]; rfl
  have e3 : F 3 = .ptr (H.length + 1) 0 0 := by rw [← hF]; rfl
  have e4 : F 4 = .ptr (H.length + 1 + 1) 0 0 := by rw [← hF]; rfl
  clear hF
  have hN : (H ++ [aM.live 1 [AV.nils]] ++ [aM.live 1 [AV.int IntKind.i64 0]] ++ [aM.live 1 [AV.nils]] ++ [aM.live 1 [upsA S]] ++ [aM.live 1 [AV.fn 99 [] []]]).length = H.length + 5 := by simp
  rw [hN]
  have hCB : H ++ [aM.live 1 [AV.nils]] ++ [aM.live 1 [AV.int IntKind.i64 0]] ++ [aM.live 1 [AV.nils]] ++ [aM.live 1 [upsA S]] ++ [aM.live 1 [AV.fn 99 [] []]] ++ [aM.loop F lp LoopState.ready none] = CB H .nils (.int .i64 0) .nils (upsA S) (aM.loop F lp LoopState.ready none) ++ [] := by simp [CB]
  rw [hCB]
  generalize hQ : cA 0 _ = Q
  have pre0 : ∀ a b v r o X, H <+: CB H a b v r o ++ X := fun a b v r o X => by unfold CB; rw [List.append_assoc]; exact List.prefix_append _ _
  have q2 : ∀ v r X, dZ [] (hY S.length S) = none → Q .ret F (CB H .nils (.int .i64 60) v r .dead ++ X) := fun v r X hn => by
    rw [← hQ, hn]
    simp only [push_cast, ↓reduceIte, Nat.reduceEqDiff, reduceCtorEq, Nat.reduceAdd, Nat.reduceLT, Nat.reduceLeDiff, e2, e3, e4, aB, cb0, cb1]
    exact (show ∃ H2, cU (CB H .nils (.int .i64 60) v r .dead ++ X) (.tup [.nils, .int .i64 60]) H2 (.tup [upsA [], .int .i64 60]) ∧ H <+: H2 from ⟨_, cU.tup (i := 0) (cU.nils _ 4) rfl, pre0 _ _ _ _ _ _⟩)
  have q1 : ∀ v r X out, Own (CB H .nils (.int .i64 0) v r .dead) (CB H .nils (.int .i64 0) v r .dead ++ X) 4 v (out.map upA) → dZ [] (hY S.length S) = some out → Q .normal F (CB H .nils (.int .i64 0) v r .dead ++ X) := fun v r X out ho hn => by
    rw [← hQ, hn]
    have pv := dJ ho
    have c0 := cb0 (H := H) (X := X) (a := .nils) (b := .int .i64 0) (v := v) (r := r) (o := .dead)
    have c1 := fun a b => cb1 (H := H) (X := X) (a := a) (b := b) (v := v) (r := r) (o := .dead)
    have c2 := cb2 (H := H) (X := X) (a := .nils) (b := .int .i64 0) (v := v) (r := r) (o := .dead)
    have pn : oI .nils 0 [v] = v := rfl
    have pi : oI (.int .i64 0) 0 [.int .i64 0] = .int .i64 0 := rfl
    have d0 := fun a' => cb0 (H := H) (X := X) (a := a') (b := .int .i64 0) (v := v) (r := r) (o := .dead)
    have s0 := fun a' => cs0 (H := H) (X := X) (a := .nils) (b := .int .i64 0) (v := v) (r := r) (o := .dead) (a' := a')
    have s1 := fun a a' => cs1 (H := H) (X := X) (a := a) (b := .int .i64 0) (v := v) (r := r) (o := .dead) (a' := a')
    simp only [push_cast, ↓reduceIte, Nat.reduceEqDiff, reduceCtorEq, Nat.reduceAdd, Nat.reduceLT, Nat.reduceLeDiff, e2, e3, e4, aB, aA, c0, c1, c2, d0, s0, s1, pn, pi, pv.1, pv.2.1, pv.2.2.1]
    obtain ⟨H3, w1, w2⟩ := (nV (a' := v) (b' := .int .i64 0) (v' := v) (r' := r) (o' := .dead) ho).weak (List.prefix_append _ _)
    have p0 : H <+: CB H v (.int .i64 0) v r .dead := by unfold CB; exact List.prefix_append _ _
    exact (show ∃ H2, cU (CB H v (.int .i64 0) v r .dead ++ X) (.tup [v, .int .i64 0]) H2 (.tup [upsA out, .int .i64 0]) ∧ H <+: H2 from ⟨_, cU.tup (i := 0) w1 rfl, p0.trans w2⟩)
  clear hQ hN hCB
  show aC Try.prog 130 [.yld (H.length + 5), .ptr (H.length + 3) 0 0, .ptr (H.length + 4) 0 0] _ _
  refine yO (J := fun rest H' => ∃ out v X, H' = CB H .nils (.int .i64 0) v (upsA rest) (.loop F lp .ready none) ++ X ∧ Own (CB H .nils (.int .i64 0) v (upsA rest) (.loop F lp .ready none)) (CB H .nils (.int .i64 0) v (upsA rest) (.loop F lp .ready none) ++ X) 4 v (out.map upA) ∧ out.length + rest.length ≤ S.length ∧ dZ [] (hY S.length S) = dZ out (hY rest.length rest) ∧ bB rest) (R' := fun H' => ∃ st pd, H'[H.length + 5]? = some (aM.loop F lp st pd) ∧ st ≠ .busy ∧ Q (pd.getD .normal) F (List.set H' (H.length + 5) .dead)) hl hsS ⟨[], .nils, [], rfl, .inl ⟨rfl, rfl⟩, by simp, rfl, hsS⟩ cb3 cb4 (by omega) ?_ ?_
  · rintro rest H' hr hle ⟨out, v, X, rfl, ho, hlo, hd, hsr⟩ _ _
    have hg := yM rest
    have hg1 : 0 < eL rest := by
      cases rest with
      | nil => exact absurd rfl hr
      | cons x r => simp [eL]
    rw [yQ hr] at hd
    have hgl : (rest.take (eL rest)).length = eL rest := by rw [List.length_take]; omega
    have la : dE (upsA (rest.take (eL rest))) = some (eL rest) := by simp only [upsA, dE, List.length_map, hgl]
    have hmem : bB (rest.take (eL rest)) := fun u hu => hsr u (List.mem_of_mem_take hu)
    have hsd : bB (rest.drop (eL rest)) := fun u hu => hsr u (List.mem_of_mem_drop hu)
    generalize hG : rest.take (eL rest) = G at hd hgl la hmem ⊢
    generalize eL rest = g at hg hg1 hd hgl la hsd ⊢
    refine hb.ycalls cb5 rfl ?_
    unfold DI DI
    simp only [push_cast, ↓reduceIte, Nat.reduceEqDiff, reduceCtorEq, Nat.reduceAdd, Nat.reduceLT, Nat.reduceLeDiff]
    refine ⟨none, cb5, ?_⟩
    rw [cs5]
    simp only [push_cast, ↓reduceIte, Nat.reduceEqDiff, reduceCtorEq, Nat.reduceAdd, Nat.reduceLT, Nat.reduceLeDiff, la]
    refine CD (g := G) (by omega) e2 e3 e4 rfl rfl rfl (by rw [hgl]; rfl) rfl ?_ ?_
    · intro f X' n hn f2 f3 f4 f5 f6
      by_cases hz : n = 0
      · have hd2 : dZ [] (hY S.length S) = dZ out (hY (rest.drop g).length (rest.drop g)) := by rw [hd]; simp only [dZ, jM, hn, if_pos hz, Option.bind_some, List.append_nil]
        simp only [push_cast, ↓reduceIte, Nat.reduceEqDiff, reduceCtorEq, Nat.reduceAdd, Nat.reduceLT, Nat.reduceLeDiff, f6, hz]
        unfold vR
        refine ⟨.busy, none, cb5, ?_⟩
        dsimp only
        rw [cs5]
        have ho2 := ho.mono (J := X')
        rw [List.append_assoc] at ho2
        exact ⟨cb3, cb4, .inl ⟨rfl, out, v, X ++ X', cs3, nV ho2, by rw [List.length_drop]; omega, hd2, hsd⟩⟩
      · obtain ⟨u, G', rfl⟩ : ∃ u G', G = u :: G' := by
          cases G with
          | nil => simp at hgl; omega
          | cons u G' => exact ⟨u, G', rfl⟩
        have hd2 : dZ [] (hY S.length S) = dZ (out ++ [⟨u.f0, u.f1, n⟩]) (hY (rest.drop g).length (rest.drop g)) := by rw [hd]; simp only [dZ, jM, hn, if_neg hz, Option.bind_some, List.headD_cons]
        have hu : u.f0.length < 1099511627776 := hmem u (by simp)
        have ax0 : aF 4 (upsA (u :: G')) (.int .i64 0) = some (.lptr 4 ((u :: G').map upA) 0 0) := by simp [upsA, aF, nat?]
        have lx0 : ((u :: G').map upA)[0]? = some (upA u) := rfl
        have pv := dJ ho
        have c2 := cb2 (H := H) (X := X ++ X') (a := .nils) (b := .int .i64 0) (v := v) (r := upsA rest) (o := aM.loop F lp .busy none)
        generalize (u :: G').map upA = L at ax0 lx0
        simp only [push_cast, ↓reduceIte, Nat.reduceEqDiff, reduceCtorEq, Nat.reduceAdd, Nat.reduceLT, Nat.reduceLeDiff, aB, aA, f2, f3, f4, f5, f6, hz, ax0, lx0, c2, pv.1, pv.2.1, pv.2.2.1, eS, upA, bD]
        (refine aC.look (gC _ u.f0 _ rfl hu) ?_; simp only [push_cast, ↓reduceIte, Nat.reduceEqDiff, reduceCtorEq, Nat.reduceAdd, Nat.reduceLT, Nat.reduceLeDiff, aB, aA, f2, f3, f4, f5, f6, bD])
        have hb0 : Own (CB H .nils (.int .i64 0) v (upsA rest) (.loop F lp .busy none)) (CB H .nils (.int .i64 0) v (upsA rest) (.loop F lp .busy none) ++ (X ++ X')) 4 v (out.map upA) := by
          have := (nV (a' := .nils) (b' := .int .i64 0) (v' := v) (r' := upsA rest) (o' := .loop F lp .busy none) ho).mono (J := X')
          rw [List.append_assoc] at this
          exact this
        refine hb0.mono.xapp (aQ (List.prefix_append _ _)) (xs := [upA ⟨u.f0, u.f1, n⟩]) (dQ (by simp)) (by simp only [List.length_map, List.length_cons, List.length_nil]; omega) fun v' H4 ho' hp' => ?_
        obtain ⟨X4, rfl⟩ := hp'
        have pv' := dJ ho'
        have c2' := cb2 (H := H) (X := X4) (a := .nils) (b := .int .i64 0) (v := v) (r := upsA rest) (o := aM.loop F lp .busy none)
        have s2 := fun a' => cs2 (H := H) (X := X4) (a := .nils) (b := .int .i64 0) (v := v) (r := upsA rest) (o := aM.loop F lp .busy none) (a' := a')
        simp only [push_cast, ↓reduceIte, Nat.reduceEqDiff, reduceCtorEq, Nat.reduceAdd, Nat.reduceLT, Nat.reduceLeDiff, f4, c2', pv'.1, pv'.2.1, pv.1, pv.2.1, pv.2.2.2, s2, aB, aA]
        unfold vR
        refine ⟨.busy, none, cb5, ?_⟩
        dsimp only
        rw [cs5]
        exact ⟨cb3, cb4, .inl ⟨rfl, out ++ [⟨u.f0, u.f1, n⟩], v', X4, cs3, by rw [List.map_append]; exact nV ho', by rw [List.length_append, List.length_drop]; simp only [List.length_cons, List.length_nil]; omega, hd2, hsd⟩⟩
    · intro f X' hn f2 f3
      have hd2 : dZ [] (hY S.length S) = none := by rw [hd]; simp only [dZ, jM, hn, Option.bind_none]
      simp only [push_cast, ↓reduceIte, Nat.reduceEqDiff, reduceCtorEq, Nat.reduceAdd, Nat.reduceLT, Nat.reduceLeDiff]
      unfold vR
      refine ⟨.busy, none, cb5, ?_⟩
      dsimp only
      rw [cs5]
      exact ⟨cb3, cb4, .inr ⟨rfl, .done, some .ret, cb5, by simp, by rw [cs5]; exact q2 _ _ _ hd2⟩⟩
  · rintro H' ⟨out, v, X, rfl, ho, hlo, hd, hsr⟩
    exact ⟨.ready, none, cb5, by simp, by rw [cs5]; exact q1 _ _ _ out (nV ho) (by rw [hd]; rfl)⟩
end Go.Eng
end
section
set_option linter.unusedVariables false
set_option linter.unusedSimpArgs false
set_option maxRecDepth 10000
namespace Go.Eng
open Go Go.Proofs
structure OBX (H0 H : AH) (t : Nat) (hd vs : List AV) (ls : List (Nat × List AV)) (B : Nat) (bx : Nat × List AV) : Prop where
  o : OBL H0 H t hd vs ls
  bo : obj? H B = some bx
  bt : B ≠ t
  ba : ∀ (i : Nat) v, vs[i]? = some v → idx v ≠ some B
theorem OBL.low {H0 H : AH} {t : Nat} {hd vs : List AV} {ls : List (Nat × List AV)} (O : OBL H0 H t hd vs ls) {i : Nat} {v : AV} {u : Nat} (hi : vs[i]? = some v) (hu : idx v = some u) : H0.length ≤ u ∧ u < H.length := by
  have h3 : i < ls.length := by rw [← O.len]; exact (List.getElem?_eq_some_iff.1 hi).1
  exact (O.own i v _ hi (List.getElem?_eq_getElem h3)).idx_lt hu
theorem OBL.mono {H0 H J : AH} {t : Nat} {hd vs : List AV} {ls : List (Nat × List AV)} (O : OBL H0 H t hd vs ls) : OBL H0 (H ++ J) t hd vs ls :=
  ⟨aQ O.pre, O.lt, bM (List.prefix_append _ _) O.ob, fun i v l h1 h2 => (O.own i v l h1 h2).mono, O.ap, O.apt, O.len⟩
theorem OBL.box {H0 H : AH} {t : Nat} {hd vs : List AV} {ls : List (Nat × List AV)} (O : OBL H0 H t hd vs ls) (sz : Nat) (es : List AV) : OBX H0 (H ++ [.live sz es]) t hd vs ls H.length (sz, es) :=
  ⟨O.mono, bC _ _ _, fun e => by have := bG O.ob; omega, fun i v h e => by have := (O.low h e).2; omega⟩
theorem OBX.app {H0 H : AH} {t j sz B : Nat} {bx : Nat × List AV} {hd vs : List AV} {ls : List (Nat × List AV)} {v : AV} {l xs : List AV} (O : OBX H0 H t hd vs ls B bx) (hj : vs[j]? = some v) (hl : ls[j]? = some (sz, l)) :
    OBX H0 (List.set (kill v H ++ [.live sz (l ++ xs)]) t (.live (hd.length + vs.length) [.agg (hd ++ vs.set j (.ref sz H.length 0 (l ++ xs).length (l ++ xs).length false))])) t hd (vs.set j (.ref sz H.length 0 (l ++ xs).length (l ++ xs).length false)) (ls.set j (sz, l ++ xs)) B bx := by
  have hB := bG O.bo
  refine ⟨O.o.app hj hl, ?_, O.bt, fun i w h e => ?_⟩
  · rw [cB (fun e => O.bt e.symm)]
    have := gD (H := H) (O.ba j v hj)
    exact bM (List.prefix_append _ _) (this.trans O.bo)
  · rw [List.getElem?_set] at h
    split at h
    · split at h
      · cases h; cases e; omega
      · cases h
    · exact O.ba i w h e
theorem OBX.put {H0 H : AH} {t j sz u n c B : Nat} {bx : Nat × List AV} {ex : Bool} {hd vs : List AV} {ls : List (Nat × List AV)} {l l' : List AV} (O : OBX H0 H t hd vs ls B bx) (hj : vs[j]? = some (.ref sz u 0 n c ex)) (hl : ls[j]? = some (sz, l)) (hlen : l'.length = l.length) :
    OBX H0 (List.set H u (.live sz l')) t hd vs (ls.set j (sz, l')) B bx :=
  ⟨O.o.put hj hl hlen, by rw [cB (fun e => O.ba j _ hj (by rw [idx, e]))]; exact O.bo, O.bt, O.ba⟩
theorem OBX.mid {H0 H J : AH} {t j B : Nat} {bx : Nat × List AV} {hd vs : List AV} {ls : List (Nat × List AV)} {v : AV} (O : OBX H0 H t hd vs ls B bx) (hj : vs[j]? = some v) : obj? (kill v H ++ J) t = some (hd.length + vs.length, [.agg (hd ++ vs)]) := by
  have := gD (H := H) (O.o.apt j v hj)
  exact bM (List.prefix_append _ _) (this.trans O.o.ob)
theorem OBX.mono {H0 H J : AH} {t B : Nat} {bx : Nat × List AV} {hd vs : List AV} {ls : List (Nat × List AV)} (O : OBX H0 H t hd vs ls B bx) : OBX H0 (H ++ J) t hd vs ls B bx :=
  ⟨O.o.mono, bM (List.prefix_append _ _) O.bo, O.bt, O.ba⟩
theorem OBX.appd {H0 H : AH} {t sz B : Nat} {bx : Nat × List AV} {hd vs : List AV} {ls : List (Nat × List AV)} {v : AV} {l : List AV} (O : OBX H0 H t hd vs ls B bx) (j bytes : Nat) (x : AV) (hj : vs[j]? = some v) (hl : ls[j]? = some (sz, l)) (hb : (l.length + 1) * bytes ≤ 140737488355328) :
    ∃ v' Hm H2, iA sz bytes v (.ref sz H.length 0 1 1 true) (H ++ [.live sz [x]]) = some (v', Hm) ∧ obj? Hm t = some (hd.length + vs.length, [.agg (hd ++ vs)]) ∧ cells v' = [v'] ∧ cX v' = true ∧ List.set Hm t (.live (hd.length + vs.length) [.agg (hd ++ vs.set j v')]) = H2 ∧ OBX H0 H2 t hd (vs.set j v') (ls.set j (sz, l ++ [x])) B bx := by
  have O1 := O.mono (J := [.live sz [x]])
  have ow := O1.o.own j v _ hj hl
  refine ⟨_, _, _, ow.app_eq (xs := [x]) (dQ (by simp)) (by simp) (by simpa using hb), O1.mid hj, rfl, rfl, rfl, O1.app hj hl⟩
theorem OBX.sc {H0 H : AH} {t B : Nat} {bx : Nat × List AV} {hd vs : List AV} {ls : List (Nat × List AV)} (O : OBX H0 H t hd vs ls B bx) {i : Nat} {v : AV} (h : vs[i]? = some v) : cX v = true ∧ cells v = [v] := by
  have h3 : i < ls.length := by rw [← O.o.len]; exact (List.getElem?_eq_some_iff.1 h).1
  have := dJ (O.o.own i v _ h (List.getElem?_eq_getElem h3))
  exact ⟨this.1, this.2.1⟩
theorem CE {H0 H : AH} {sz : Nat} {v : AV} {l : List AV} (h : Own H0 H sz v l) : dE v = some l.length := by
  rcases h with ⟨rfl, rfl⟩ | ⟨t, ex, _, rfl, _⟩ <;> rfl
theorem OBX.al {H0 H : AH} {t B : Nat} {bx : Nat × List AV} {hd vs : List AV} {ls : List (Nat × List AV)} (O : OBX H0 H t hd vs ls B bx) {i : Nat} {v : AV} {l : Nat × List AV} (h : vs[i]? = some v) (h2 : ls[i]? = some l) : dE v = some l.2.length := CE (O.o.own i v l h h2)
theorem GM (k : List Val) : cells (bD k) = [bD k] ∧ cX (bD k) = true := ⟨rfl, rfl⟩
def lsB (b : Bt) : List (Nat × List AV) := [(2, b.since.map aX), (1, b.keys.map bD), (1, b.kends.map gW), (1, b.rests.map bD), (1, b.rends.map gW), (2, b.times.map aX), (1, b.ws.map gW)]
def hdB (b : Bt) : List AV := [.int .i64 b.key, .int .i64 b.weight]
theorem GN {α : Type} {l : List α} (h : l.length = 7) : ∃ a b c d e f g, l = [a, b, c, d, e, f, g] := by
  match l, h with
  | [a, b, c, d, e, f, g], _ => exact ⟨a, b, c, d, e, f, g, rfl⟩
def BX (H0 H : AH) (t : Nat) (b : Bt) (B : Nat) (u : Upd) : Prop := ∃ vs, OBX H0 H t (hdB b) vs (lsB b) B (4, [upA u])
def qP : AC := (.cond (.t 42) (.seq (.ops [oo 43 (.mov (.t 0)), oo 44 (.mov (.t 0)), oo 45 (.nilc (.t 44)), oo 46 (.faddr 3 (.t 45)), oo 47 (.load false 1 (.t 46)), oo 48 (.mov (.t 4)), oo 49 (.bsl 1 1 .nils [(0, (.t 48))]), oo 50 (.app 1 24 (.t 47) (.t 49)), oo 51 (.nilc (.t 43)), oo 52 (.faddr 3 (.t 51)), on (.store 1 (.t 52) (.t 50))]) (.ops [oo 159 (.mov (.t 0)), oo 160 (.mov (.t 0)), oo 161 (.nilc (.t 160)), oo 162 (.faddr 4 (.t 161)), oo 163 (.load false 1 (.t 162)), oo 164 (.mov (.t 0)), oo 165 (.nilc (.t 164)), oo 166 (.faddr 5 (.t 165)), oo 167 (.load false 1 (.t 166)), oo 168 (.len (.t 167)), oo 169 (.bsl 1 1 (.int .i64 0) [(0, (.t 168))]), oo 170 (.app 1 8 (.t 163) (.t 169)), oo 171 (.nilc (.t 159)), oo 172 (.faddr 4 (.t 171)), oo 173 (.store 1 (.t 172) (.t 170)), oo 53 (.mov (.t 159)), oo 54 (.mov (.t 160)), oo 55 (.mov (.t 161)), oo 56 (.mov (.t 162)), oo 57 (.mov (.t 163)), oo 58 (.mov (.t 164)), oo 59 (.mov (.t 165)), oo 60 (.mov (.t 166)), oo 61 (.mov (.t 167)), oo 62 (.mov (.t 168)), oo 63 (.mov (.t 169)), oo 64 (.mov (.t 170)), oo 65 (.mov (.t 171)), oo 66 (.mov (.t 172))])) .skip)
def qQ : AC := (.cond (.t 84) (.seq (.ops [oo 85 (.mov (.t 0)), oo 86 (.mov (.t 0)), oo 87 (.nilc (.t 86)), oo 88 (.faddr 5 (.t 87)), oo 89 (.load false 1 (.t 88)), oo 90 (.mov (.t 5)), oo 91 (.bsl 1 1 .nils [(0, (.t 90))]), oo 92 (.app 1 24 (.t 89) (.t 91)), oo 93 (.nilc (.t 85)), oo 94 (.faddr 5 (.t 93)), on (.store 1 (.t 94) (.t 92))]) (.seq (.ops [oo 159 (.mov (.t 0)), oo 160 (.mov (.t 0)), oo 161 (.nilc (.t 160)), oo 162 (.faddr 6 (.t 161)), oo 163 (.load false 1 (.t 162)), oo 164 (.mov (.t 0)), oo 165 (.nilc (.t 164)), oo 166 (.faddr 7 (.t 165)), oo 167 (.load false 1 (.t 166)), oo 168 (.len (.t 167)), oo 169 (.bsl 1 1 (.int .i64 0) [(0, (.t 168))]), oo 170 (.app 1 8 (.t 163) (.t 169)), oo 171 (.nilc (.t 159)), oo 172 (.faddr 6 (.t 171)), oo 173 (.store 1 (.t 172) (.t 170)), oo 95 (.mov (.t 159)), oo 96 (.mov (.t 160)), oo 97 (.mov (.t 161)), oo 98 (.mov (.t 162)), oo 99 (.mov (.t 163)), oo 100 (.mov (.t 164)), oo 101 (.mov (.t 165)), oo 102 (.mov (.t 166)), oo 103 (.mov (.t 167)), oo 104 (.mov (.t 168)), oo 105 (.mov (.t 169)), oo 106 (.mov (.t 170)), oo 107 (.mov (.t 171)), oo 108 (.mov (.t 172))]) (.ops [oo 159 (.mov (.t 0)), oo 160 (.nilc (.t 159)), oo 161 (.faddr 4 (.t 160)), oo 162 (.load false 1 (.t 161)), oo 163 (.mov (.t 0)), oo 164 (.nilc (.t 163)), oo 165 (.faddr 4 (.t 164)), oo 166 (.load false 1 (.t 165)), oo 167 (.len (.t 166)), oo 168 (.bin .sub (.t 167) (.v (.int .i64 1))), oo 169 (.iaddr 1 (.t 162) (.t 168)), oo 170 (.load false 1 (.t 169)), oo 171 (.bin .add (.t 170) (.v (.int .i64 1))), oo 172 (.iaddr 1 (.t 162) (.t 168)), oo 173 (.store 1 (.t 172) (.t 171)), oo 109 (.mov (.t 159)), oo 110 (.mov (.t 160)), oo 111 (.mov (.t 161)), oo 112 (.mov (.t 162)), oo 113 (.mov (.t 163)), oo 114 (.mov (.t 164)), oo 115 (.mov (.t 165)), oo 116 (.mov (.t 166)), oo 117 (.mov (.t 167)), oo 118 (.mov (.t 168)), oo 119 (.mov (.t 169)), oo 120 (.mov (.t 170)), oo 121 (.mov (.t 171)), oo 122 (.mov (.t 172))]))) .skip)
def qR : AC := (.seq (.ops [oo 159 (.mov (.t 0)), oo 160 (.mov (.t 0)), oo 161 (.nilc (.t 160)), oo 162 (.faddr 7 (.t 161)), oo 163 (.load false 1 (.t 162)), oo 164 (.faddr 1 (.t 3)), oo 165 (.load true 2 (.t 164)), oo 166 (.bsl 2 1 (.agg [(.int .i64 0), (.int .i64 0)]) [(0, (.t 165))]), oo 167 (.app 2 16 (.t 163) (.t 166)), oo 168 (.nilc (.t 159)), oo 169 (.faddr 7 (.t 168)), oo 170 (.store 1 (.t 169) (.t 167)), oo 123 (.mov (.t 159)), oo 124 (.mov (.t 160)), oo 125 (.mov (.t 161)), oo 126 (.mov (.t 162)), oo 127 (.mov (.t 163)), oo 128 (.mov (.t 164)), oo 129 (.mov (.t 165)), oo 130 (.mov (.t 166)), oo 131 (.mov (.t 167)), oo 132 (.mov (.t 168)), oo 133 (.mov (.t 169))]) (.seq (.ops [oo 159 (.mov (.t 0)), oo 160 (.mov (.t 0)), oo 161 (.nilc (.t 160)), oo 162 (.faddr 8 (.t 161)), oo 163 (.load false 1 (.t 162)), oo 164 (.faddr 3 (.t 3)), oo 165 (.load false 1 (.t 164)), oo 166 (.bsl 1 1 (.int .i64 0) [(0, (.t 165))]), oo 167 (.app 1 8 (.t 163) (.t 166)), oo 168 (.nilc (.t 159)), oo 169 (.faddr 8 (.t 168)), oo 170 (.store 1 (.t 169) (.t 167)), oo 134 (.mov (.t 159)), oo 135 (.mov (.t 160)), oo 136 (.mov (.t 161)), oo 137 (.mov (.t 162)), oo 138 (.mov (.t 163)), oo 139 (.mov (.t 164)), oo 140 (.mov (.t 165)), oo 141 (.mov (.t 166)), oo 142 (.mov (.t 167)), oo 143 (.mov (.t 168)), oo 144 (.mov (.t 169))]) (.ops [oo 159 (.mov (.t 0)), oo 160 (.nilc (.t 159)), oo 161 (.faddr 6 (.t 160)), oo 162 (.load false 1 (.t 161)), oo 163 (.mov (.t 0)), oo 164 (.nilc (.t 163)), oo 165 (.faddr 6 (.t 164)), oo 166 (.load false 1 (.t 165)), oo 167 (.len (.t 166)), oo 168 (.bin .sub (.t 167) (.v (.int .i64 1))), oo 169 (.iaddr 1 (.t 162) (.t 168)), oo 170 (.load false 1 (.t 169)), oo 171 (.bin .add (.t 170) (.v (.int .i64 1))), oo 172 (.iaddr 1 (.t 162) (.t 168)), oo 173 (.store 1 (.t 172) (.t 171)), oo 145 (.mov (.t 159)), oo 146 (.mov (.t 160)), oo 147 (.mov (.t 161)), oo 148 (.mov (.t 162)), oo 149 (.mov (.t 163)), oo 150 (.mov (.t 164)), oo 151 (.mov (.t 165)), oo 152 (.mov (.t 166)), oo 153 (.mov (.t 167)), oo 154 (.mov (.t 168)), oo 155 (.mov (.t 169)), oo 156 (.mov (.t 170)), oo 157 (.mov (.t 171)), oo 158 (.mov (.t 172))])))
def GO : AC := (.ops [oo 159 (.faddr 0 (.t 3)), oo 160 (.load false 1 (.t 159)), oo 161 (.mov (.t 0)), oo 162 (.nilc (.t 161)), oo 163 (.faddr 0 (.t 162)), oo 164 (.load false 1 (.t 163)), oo 165 (.call 101 [(.t 160), (.t 164)]), oo 166 (.mov (.t 165)), oo 167 (.ext (.t 166) 0), oo 168 (.ext (.t 166) 1), oo 169 (.ext (.t 166) 2), oo 170 (.mov (.t 167)), oo 171 (.mov (.t 168)), oo 172 (.mov (.t 169)), oo 9 (.mov (.t 159)), oo 10 (.mov (.t 160)), oo 11 (.mov (.t 161)), oo 12 (.mov (.t 162)), oo 13 (.mov (.t 163)), oo 14 (.mov (.t 164)), oo 15 (.mov (.t 165)), oo 8 (.mov (.t 166)), oo 16 (.mov (.t 167)), oo 17 (.mov (.t 168)), oo 18 (.mov (.t 169)), oo 4 (.mov (.t 170)), oo 5 (.mov (.t 171)), oo 6 (.mov (.t 172))])
def GP : AC := (.ops [oo 159 (.mov (.t 0)), oo 160 (.nilc (.t 159)), oo 161 (.faddr 3 (.t 160)), oo 162 (.load false 1 (.t 161)), oo 163 (.len (.t 162)), oo 164 (.bin .eql (.t 163) (.v (.int .i64 0))), oo 165 (.mov (.t 164)), og 166 165 false (.mov (.t 0)), og 167 165 false (.nilc (.t 166)), og 168 165 false (.faddr 3 (.t 167)), og 169 165 false (.load false 1 (.t 168)), og 170 165 false (.mov (.t 0)), og 171 165 false (.nilc (.t 170)), og 172 165 false (.faddr 3 (.t 171)), og 173 165 false (.load false 1 (.t 172)), og 174 165 false (.len (.t 173)), og 175 165 false (.bin .sub (.t 174) (.v (.int .i64 1))), og 176 165 false (.iaddr 1 (.t 169) (.t 175)), og 177 165 false (.load false 1 (.t 176)), og 178 165 false (.mov (.t 4)), og 179 165 false (.call 102 [(.t 177), (.t 178)]), og 180 165 false (.un .not (.t 179)), oo 181 (.pick (.t 165) (.v (.bool true)) (.t 180)), oo 182 (.mov (.t 181)), oo 19 (.mov (.t 159)), oo 20 (.mov (.t 160)), oo 21 (.mov (.t 161)), oo 22 (.mov (.t 162)), oo 23 (.mov (.t 163)), oo 24 (.mov (.t 164)), oo 25 (.mov (.t 165)), oo 26 (.mov (.t 166)), oo 27 (.mov (.t 167)), oo 28 (.mov (.t 168)), oo 29 (.mov (.t 169)), oo 30 (.mov (.t 170)), oo 31 (.mov (.t 171)), oo 32 (.mov (.t 172)), oo 33 (.mov (.t 173)), oo 34 (.mov (.t 174)), oo 35 (.mov (.t 175)), oo 36 (.mov (.t 176)), oo 37 (.mov (.t 177)), oo 38 (.mov (.t 178)), oo 39 (.mov (.t 179)), oo 40 (.mov (.t 180)), oo 41 (.mov (.t 181)), oo 7 (.mov (.t 182))])
def GQ : AC := (.ops [oo 159 (.mov (.t 7)), oo 160 (.mov (.t 159)), og 161 160 false (.mov (.t 0)), og 162 160 false (.nilc (.t 161)), og 163 160 false (.faddr 5 (.t 162)), og 164 160 false (.load false 1 (.t 163)), og 165 160 false (.mov (.t 0)), og 166 160 false (.nilc (.t 165)), og 167 160 false (.faddr 5 (.t 166)), og 168 160 false (.load false 1 (.t 167)), og 169 160 false (.len (.t 168)), og 170 160 false (.bin .sub (.t 169) (.v (.int .i64 1))), og 171 160 false (.iaddr 1 (.t 164) (.t 170)), og 172 160 false (.load false 1 (.t 171)), og 173 160 false (.mov (.t 5)), og 174 160 false (.call 102 [(.t 172), (.t 173)]), og 175 160 false (.un .not (.t 174)), oo 176 (.pick (.t 160) (.v (.bool true)) (.t 175)), oo 67 (.mov (.t 159)), oo 68 (.mov (.t 160)), oo 69 (.mov (.t 161)), oo 70 (.mov (.t 162)), oo 71 (.mov (.t 163)), oo 72 (.mov (.t 164)), oo 73 (.mov (.t 165)), oo 74 (.mov (.t 166)), oo 75 (.mov (.t 167)), oo 76 (.mov (.t 168)), oo 77 (.mov (.t 169)), oo 78 (.mov (.t 170)), oo 79 (.mov (.t 171)), oo 80 (.mov (.t 172)), oo 81 (.mov (.t 173)), oo 82 (.mov (.t 174)), oo 83 (.mov (.t 175)), oo 84 (.mov (.t 176))])
def F66 : AFn := ⟨159, 2, [], (.seq (.ops [oo 3 (.box 4 (.t 1))]) (.seq (GO) (.seq (GP) (.seq (.seq (.ops [oo 42 (.mov (.t 7))]) (qP)) (.seq (.seq (GQ) (qQ)) (qR))))))⟩
theorem c66 : aD Try.prog 66 = some F66 := by kernel_rfl
theorem mH (z : Int) : part false 1 0 (.int .i64 z) = some (.int .i64 z) := Eq.trans rfl rfl
theorem sA (z y : Int) : oI (.int .i64 z) 0 [.int .i64 y] = .int .i64 y := Eq.trans rfl rfl
theorem GR {H0 H : AH} {t B : Nat} {b : Bt} {u : Upd} {k r : List Val} {nk : Bool} {f : AF} {Q : AE → AF → AH → Prop} (O : BX H0 H t b B u) (hk : b.keys.length < 1099511627776) (hke : b.kends.length < 1099511627776)
    (e0 : f 0 = .ptr t 0 0) (e3 : f 3 = .ptr B 0 0) (e4 : f 4 = bD k) (e5 : f 5 = bD r) (e7 : f 7 = .bool nk) (e42 : f 42 = .bool nk)
    (hQ : ∀ f H, BX H0 H t (if nk = true then uE b k else b) B u → f 0 = .ptr t 0 0 → f 3 = .ptr B 0 0 → f 5 = bD r → f 7 = .bool nk → Q .normal f H) : qP.wp Try.prog Q f H := by
  unfold qP
  cases nk with
  | false =>
    simp only [push_cast, ↓reduceIte, Nat.reduceEqDiff, reduceCtorEq, Nat.reduceAdd, Nat.reduceLT, Nat.reduceLeDiff, e42]
    exact hQ _ _ (by simpa using O) e0 e3 e5 e7
  | true =>
    obtain ⟨vs, O⟩ := O
    obtain ⟨v0, v1, v2, v3, v4, v5, v6, rfl⟩ := GN (l := vs) O.o.len
    have ob := O.o.ob
    have ob1 := O.mono (J := [.live 1 [bD k]]).o.ob
    obtain ⟨w1, Hm, H2, ap, md, c1, c2, st, O2⟩ := O.appd 1 24 (bD k) rfl rfl (by simp only [List.length_map]; omega)
    have ob2 := O2.o.ob
    have a3 : dE v3 = some (b.rests.map bD).length := O2.al (i := 3) rfl rfl
    have ob3 := O2.mono (J := [.live 1 [.int .i64 b.rests.length]]).o.ob
    obtain ⟨w2, Hn, H3, ap2, md2, d1, d2, st2, O3⟩ := O2.appd 2 8 (.int .i64 b.rests.length) rfl rfl (by simp only [List.length_map]; omega)
    simp only [hdB, List.cons_append, List.nil_append, List.length_cons, List.length_nil, List.set_cons_zero, List.set_cons_succ, Nat.reduceAdd, List.length_set] at ob ob1 ob2 ob3 md md2 st st2 O2 O3
    rw [List.length_map] at a3
    simp only [push_cast, ↓reduceIte, Nat.reduceEqDiff, reduceCtorEq, Nat.reduceAdd, Nat.reduceLT, Nat.reduceLeDiff, aB, aA, e0, e3, e4, e42, ob, ob1, md, ap, GM, st, c1, c2, ob2, a3, ob3, md2, ap2, st2, d1, d2, Option.map_some]
    have e : lsB (uE b k) = ((lsB b).set 1 (1, List.map bD b.keys ++ [bD k])).set 2 (1, List.map gW b.kends ++ [.int .i64 b.rests.length]) := by simp [lsB, uE, gW]
    exact hQ _ _ ⟨_, by rw [if_pos rfl, e]; exact O3⟩ e0 e3 e5 e7
theorem nW (l : List Int) (z : Int) : uD (l ++ [z]) = l ++ [z + 1] := by
  unfold uD
  simp
theorem OBX.inc {H0 H : AH} {t B : Nat} {bx : Nat × List AV} {hd vs : List AV} {ls : List (Nat × List AV)} {v : AV} {l : List AV} (O : OBX H0 H t hd vs ls B bx) (j : Nat) (x y : AV) (hj : vs[j]? = some v) (hl : ls[j]? = some (1, l ++ [x])) :
    ∃ u L H2, dE v = some (l.length + 1) ∧ aF 1 v (.int .i64 (l.length : Int)) = some (.ptr u l.length 0) ∧ obj? H u = some (1, L) ∧ L[l.length]? = some x ∧ List.set H u (.live 1 (L.set l.length y)) = H2 ∧ OBX H0 H2 t hd vs (ls.set j (1, l ++ [y])) B bx := by
  have o := O.o.own j v _ hj hl
  rcases o with ⟨_, h⟩ | ⟨u, ex, hu, rfl, ho⟩
  · simp at h
  · dsimp only at ho hj
    refine ⟨u, l ++ [x], _, by simp [dE], by simp [aF, nat?], ho, by simp, rfl, ?_⟩
    have := O.put (l' := l ++ [y]) hj hl (by simp)
    have e : (l ++ [x]).set l.length y = l ++ [y] := by simp
    rw [e]
    exact this
theorem GS {H0 H : AH} {t B : Nat} {b : Bt} {u : Upd} {r : List Val} {nr : Bool} {ks : List Int} {z : Int} {f : AF} {Q : AE → AF → AH → Prop} (O : BX H0 H t b B u) (hr : b.rests.length < 1099511627776) (hre : b.rends.length < 1099511627776) (hke : b.kends.length < 1099511627776)
    (hk : b.kends = ks ++ [z]) (hz : 0 ≤ z ∧ z < 1099511627776) (e0 : f 0 = .ptr t 0 0) (e3 : f 3 = .ptr B 0 0) (e5 : f 5 = bD r) (e84 : f 84 = .bool nr)
    (hQ : ∀ f H, BX H0 H t (if nr = true then lZ b r else b) B u → f 0 = .ptr t 0 0 → f 3 = .ptr B 0 0 → Q .normal f H) : qQ.wp Try.prog Q f H := by
  unfold qQ
  cases nr with
  | false =>
    simp only [push_cast, ↓reduceIte, Nat.reduceEqDiff, reduceCtorEq, Nat.reduceAdd, Nat.reduceLT, Nat.reduceLeDiff, e84]
    exact hQ _ _ (by simpa using O) e0 e3
  | true =>
    obtain ⟨vs, O⟩ := O
    obtain ⟨v0, v1, v2, v3, v4, v5, v6, rfl⟩ := GN (l := vs) O.o.len
    have ob := O.o.ob
    have ob1 := O.mono (J := [.live 1 [bD r]]).o.ob
    obtain ⟨w1, Hm, H2, ap, md, c1, c2, st, O2⟩ := O.appd 3 24 (bD r) rfl rfl (by simp only [List.length_map]; omega)
    have ob2 := O2.o.ob
    have a5 : dE v5 = some (b.times.map aX).length := O2.al (i := 5) rfl rfl
    have ob3 := O2.mono (J := [.live 1 [.int .i64 b.times.length]]).o.ob
    obtain ⟨w2, Hn, H3, ap2, md2, d1, d2, st2, O3⟩ := O2.appd 4 8 (.int .i64 b.times.length) rfl rfl (by simp only [List.length_map]; omega)
    have ob4 := O3.o.ob
    have hkm : lsB b = (lsB b).set 2 (1, ks.map gW ++ [.int .i64 z]) := by simp [lsB, hk, gW]
    rw [hkm] at O3
    obtain ⟨p, L, H4, al2, ad, op, gx, st3, O4⟩ := O3.inc 2 (.int .i64 z) (.int .i64 (z + 1)) rfl rfl
    have w64 : IntKind.i64.wrap (z + 1) = z + 1 := aG (by omega) (by omega)
    have hkl : ks.length < 1099511627776 := by rw [hk] at hke; simp at hke; omega
    rw [List.length_map] at al2 ad gx st3
    have wl : IntKind.i64.wrap (((ks.length + 1 : Nat) : Int) - 1) = (ks.length : Int) := by rw [aG (by omega) (by omega)]; omega
    simp only [hdB, List.cons_append, List.nil_append, List.length_cons, List.length_nil, List.set_cons_zero, List.set_cons_succ, Nat.reduceAdd, List.length_set] at ob ob1 ob2 ob3 ob4 md md2 st st2 O2 O3 O4 ad al2
    rw [List.length_map] at a5
    generalize hq : ks.length + 1 = q at al2 wl
    simp only [push_cast, ↓reduceIte, Nat.reduceEqDiff, reduceCtorEq, Nat.reduceAdd, Nat.reduceLT, Nat.reduceLeDiff, aB, aA, e0, e3, e5, e84, ob, ob1, md, ap, GM, st, c1, c2, ob2, a5, ob3, md2, ap2, st2, d1, d2, Option.map_some, ob4, al2, wl, ad, op, gx, st3, w64, mH, sA]
    have e : lsB (lZ b r) = ((((lsB b).set 2 (1, List.map gW ks ++ [.int .i64 z])).set 3 (1, List.map bD b.rests ++ [bD r])).set 4 (1, List.map gW b.rends ++ [.int .i64 b.times.length])).set 2 (1, List.map gW ks ++ [.int .i64 (z + 1)]) := by simp [lsB, lZ, gW, hk, nW]
    exact hQ _ _ ⟨_, by rw [if_pos rfl, e]; exact O4⟩ e0 e3
theorem CF {H0 H : AH} {t B : Nat} {b : Bt} {u : Upd} {ks : List Int} {z : Int} {f : AF} {Q : AE → AF → AH → Prop} (O : BX H0 H t b B u) (ht : b.times.length < 1099511627776) (hw : b.ws.length < 1099511627776) (hre : b.rends.length < 1099511627776)
    (hk : b.rends = ks ++ [z]) (hz : 0 ≤ z ∧ z < 1099511627776) (e0 : f 0 = .ptr t 0 0) (e3 : f 3 = .ptr B 0 0)
    (hQ : ∀ f H, BX H0 H t (iE b u.f1 u.f2) B u → Q .normal f H) : qR.wp Try.prog Q f H := by
  obtain ⟨vs, O⟩ := O
  obtain ⟨v0, v1, v2, v3, v4, v5, v6, rfl⟩ := GN (l := vs) O.o.len
  have ob := O.o.ob
  have bo := O.bo
  have ob1 := O.mono (J := [.live 2 [aX u.f1]]).o.ob
  obtain ⟨w1, Hm, H2, ap, md, c1, c2, st, O2⟩ := O.appd 5 16 (aX u.f1) rfl rfl (by simp only [List.length_map]; omega)
  have ob2 := O2.o.ob
  have bo2 := O2.bo
  have ob3 := O2.mono (J := [.live 1 [.int .i64 u.f2]]).o.ob
  obtain ⟨w2, Hn, H3, ap2, md2, d1, d2, st2, O3⟩ := O2.appd 6 8 (.int .i64 u.f2) rfl rfl (by simp only [List.length_map]; omega)
  have ob4 := O3.o.ob
  have hkm : lsB b = (lsB b).set 4 (1, ks.map gW ++ [.int .i64 z]) := by simp [lsB, hk, gW]
  rw [hkm] at O3
  obtain ⟨p, L, H4, al2, ad, op, gx, st3, O4⟩ := O3.inc 4 (.int .i64 z) (.int .i64 (z + 1)) rfl rfl
  have w64 : IntKind.i64.wrap (z + 1) = z + 1 := aG (by omega) (by omega)
  have hkl : ks.length < 1099511627776 := by rw [hk] at hre; simp at hre; omega
  rw [List.length_map] at al2 ad gx st3
  have wl : IntKind.i64.wrap (((ks.length + 1 : Nat) : Int) - 1) = (ks.length : Int) := by rw [aG (by omega) (by omega)]; omega
  simp only [hdB, List.cons_append, List.nil_append, List.length_cons, List.length_nil, List.set_cons_zero, List.set_cons_succ, Nat.reduceAdd, List.length_set] at ob ob1 ob2 ob3 ob4 md md2 st st2 O2 O3 O4 ad al2
  generalize hq : ks.length + 1 = q at al2 wl
  have f1 : part true 2 1 (upA u) = some (aX u.f1) := rfl
  have f2 : part false 1 3 (upA u) = some (.int .i64 u.f2) := rfl
  have k1 : cells (aX u.f1) = [.int .i64 u.f1.f0, .int .i64 u.f1.f1] := rfl
  unfold qR
  simp only [push_cast, ↓reduceIte, Nat.reduceEqDiff, reduceCtorEq, Nat.reduceAdd, Nat.reduceLT, Nat.reduceLeDiff, aB, aA, e0, e3, ob, bo, ob1, md, ap, f1, f2, k1, st, c1, c2, ob2, bo2, ob3, md2, ap2, st2, d1, d2, Option.map_some, ob4, al2, wl, ad, op, gx, st3, w64, mH, sA]
  have e : lsB (iE b u.f1 u.f2) = ((((lsB b).set 4 (1, List.map gW ks ++ [.int .i64 z])).set 5 (2, List.map aX b.times ++ [aX u.f1])).set 6 (1, List.map gW b.ws ++ [.int .i64 u.f2])).set 4 (1, List.map gW ks ++ [.int .i64 (z + 1)]) := by simp [lsB, iE, gW, hk, nW]
  exact hQ _ _ ⟨_, by rw [e]; exact O4⟩
theorem OBX.last {H0 H : AH} {t B : Nat} {bx : Nat × List AV} {hd vs : List AV} {ls : List (Nat × List AV)} {v : AV} {l : List AV} (O : OBX H0 H t hd vs ls B bx) (j : Nat) (x : AV) (hj : vs[j]? = some v) (hl : ls[j]? = some (1, l ++ [x])) :
    ∃ u L, dE v = some (l.length + 1) ∧ aF 1 v (.int .i64 (l.length : Int)) = some (.ptr u l.length 0) ∧ obj? H u = some (1, L) ∧ L[l.length]? = some x := by
  obtain ⟨u, L, _, h1, h2, h3, h4, _⟩ := O.inc j x x hj hl
  exact ⟨u, L, h1, h2, h3, h4⟩
theorem mI (k : List Val) : part false 1 0 (bD k) = some (bD k) := Eq.trans rfl rfl
theorem NP {H0 H : AH} {t B : Nat} {b : Bt} {u : Upd} {k r : List Val} {f : AF} {Q : AE → AF → AH → Prop} (O : BX H0 H t b B u) (hk : b.keys.length < 1099511627776) (hkl : ∀ x ∈ b.keys, x.length < 1099511627776) (hkk : k.length < 1099511627776)
    (e0 : f 0 = .ptr t 0 0) (e3 : f 3 = .ptr B 0 0) (e4 : f 4 = bD k) (e5 : f 5 = bD r)
    (hQ : ∀ f, f 0 = .ptr t 0 0 → f 3 = .ptr B 0 0 → f 4 = bD k → f 5 = bD r → f 7 = .bool (jK b.keys k) → Q .normal f H) : GP.wp Try.prog Q f H := by
  obtain ⟨vs, O⟩ := O
  obtain ⟨v0, v1, v2, v3, v4, v5, v6, rfl⟩ := GN (l := vs) O.o.len
  have ob := O.o.ob
  unfold GP
  rcases List.eq_nil_or_concat b.keys with h | ⟨ks, x, h⟩
  · have al : dE v1 = some (b.keys.map bD).length := O.al (i := 1) rfl rfl
    rw [h] at al
    simp only [hdB, List.cons_append, List.nil_append, List.length_cons, List.length_nil, List.set_cons_zero, List.set_cons_succ, Nat.reduceAdd, List.length_set] at ob
    rw [List.map_nil, List.length_nil] at al
    simp only [push_cast, ↓reduceIte, Nat.reduceEqDiff, reduceCtorEq, Nat.reduceAdd, Nat.reduceLT, Nat.reduceLeDiff, aB, aA, e0, e3, ob, al]
    exact hQ _ e0 e3 e4 e5 (by rw [h]; rfl)
  · rw [List.concat_eq_append] at h
    have hkm : lsB b = (lsB b).set 1 (1, ks.map bD ++ [bD x]) := by simp [lsB, h]
    rw [hkm] at O
    obtain ⟨p, L, al, ad, op, gx⟩ := O.last 1 (bD x) rfl rfl
    rw [List.length_map] at al ad gx
    have hl : ks.length < 1099511627776 := by rw [h] at hk; simp at hk; omega
    have wl : IntKind.i64.wrap (((ks.length + 1 : Nat) : Int) - 1) = (ks.length : Int) := by rw [aG (by omega) (by omega)]; omega
    have ne : ¬ ((ks.length + 1 : Nat) : Int) = 0 := by omega
    simp only [hdB, List.cons_append, List.nil_append, List.length_cons, List.length_nil, List.set_cons_zero, List.set_cons_succ, Nat.reduceAdd, List.length_set] at ob
    generalize hq : ks.length + 1 = q at al wl ne
    simp only [push_cast, ↓reduceIte, Nat.reduceEqDiff, reduceCtorEq, Nat.reduceAdd, Nat.reduceLT, Nat.reduceLeDiff, aB, aA, e0, e3, e4, ob, al, ne, wl, ad, op, gx, mI, decide_false]
    (refine aC.look (yB _ _ x k _ rfl rfl (hkl x (by rw [h]; simp)) hkk) ?_; simp only [push_cast, ↓reduceIte, Nat.reduceEqDiff, reduceCtorEq, Nat.reduceAdd, Nat.reduceLT, Nat.reduceLeDiff, aB, aA, e0, e3, e4])
    exact hQ _ e0 e3 e4 e5 (by rw [h, eU]; rfl)
theorem NQ {H0 H : AH} {t B : Nat} {b : Bt} {u : Upd} {r : List Val} {nk : Bool} {f : AF} {Q : AE → AF → AH → Prop} (O : BX H0 H t b B u) (hk : b.rests.length < 1099511627776) (hkl : ∀ x ∈ b.rests, x.length < 1099511627776) (hkk : r.length < 1099511627776) (hne : nk = false → b.rests ≠ [])
    (e0 : f 0 = .ptr t 0 0) (e3 : f 3 = .ptr B 0 0) (e5 : f 5 = bD r) (e7 : f 7 = .bool nk)
    (hQ : ∀ f, f 0 = .ptr t 0 0 → f 3 = .ptr B 0 0 → f 5 = bD r → f 84 = .bool (nk || jK b.rests r) → Q .normal f H) : GQ.wp Try.prog Q f H := by
  obtain ⟨vs, O⟩ := O
  obtain ⟨v0, v1, v2, v3, v4, v5, v6, rfl⟩ := GN (l := vs) O.o.len
  have ob := O.o.ob
  unfold GQ
  cases nk with
  | true =>
    simp only [hdB, List.cons_append, List.nil_append, List.length_cons, List.length_nil, List.set_cons_zero, List.set_cons_succ, Nat.reduceAdd, List.length_set] at ob
    simp only [push_cast, ↓reduceIte, Nat.reduceEqDiff, reduceCtorEq, Nat.reduceAdd, Nat.reduceLT, Nat.reduceLeDiff, aB, aA, e0, e3, e7, ob]
    exact hQ _ e0 e3 e5 rfl
  | false =>
    rcases List.eq_nil_or_concat b.rests with h | ⟨ks, x, h⟩
    · exact absurd h (hne rfl)
    · rw [List.concat_eq_append] at h
      have hkm : lsB b = (lsB b).set 3 (1, ks.map bD ++ [bD x]) := by simp [lsB, h]
      rw [hkm] at O
      obtain ⟨p, L, al, ad, op, gx⟩ := O.last 3 (bD x) rfl rfl
      rw [List.length_map] at al ad gx
      have hl : ks.length < 1099511627776 := by rw [h] at hk; simp at hk; omega
      have wl : IntKind.i64.wrap (((ks.length + 1 : Nat) : Int) - 1) = (ks.length : Int) := by rw [aG (by omega) (by omega)]; omega
      simp only [hdB, List.cons_append, List.nil_append, List.length_cons, List.length_nil, List.set_cons_zero, List.set_cons_succ, Nat.reduceAdd, List.length_set] at ob
      generalize hq : ks.length + 1 = q at al wl
      simp only [push_cast, ↓reduceIte, Nat.reduceEqDiff, reduceCtorEq, Nat.reduceAdd, Nat.reduceLT, Nat.reduceLeDiff, aB, aA, e0, e3, e5, e7, ob, al, wl, ad, op, gx, mI, decide_false]
      (refine aC.look (yB _ _ x r _ rfl rfl (hkl x (by rw [h]; simp)) hkk) ?_; simp only [push_cast, ↓reduceIte, Nat.reduceEqDiff, reduceCtorEq, Nat.reduceAdd, Nat.reduceLT, Nat.reduceLeDiff, aB, aA, e0, e3, e5, e7])
      exact hQ _ e0 e3 e5 (by rw [h, eU]; rfl)
theorem NR {H0 H : AH} {t B : Nat} {b : Bt} {u : Upd} {f : AF} {Q : AE → AF → AH → Prop} (O : BX H0 H t b B u) (hu : u.f0.length < 1099511627776) (hk : 0 ≤ b.key ∧ b.key ≤ u.f0.length)
    (e0 : f 0 = .ptr t 0 0) (e3 : f 3 = .ptr B 0 0)
    (hQ : ∀ f, f 0 = .ptr t 0 0 → f 3 = .ptr B 0 0 → f 4 = bD (u.f0.take b.key.toNat) → f 5 = bD (u.f0.drop b.key.toNat) → Q .normal f H) : GO.wp Try.prog Q f H := by
  obtain ⟨vs, O⟩ := O
  obtain ⟨v0, v1, v2, v3, v4, v5, v6, rfl⟩ := GN (l := vs) O.o.len
  have ob := O.o.ob
  have bo := O.bo
  have f1 : part false 1 0 (upA u) = some (bD u.f0) := rfl
  unfold GO
  simp only [hdB, List.cons_append, List.nil_append, List.length_cons, List.length_nil, List.set_cons_zero, List.set_cons_succ, Nat.reduceAdd, List.length_set] at ob
  simp only [push_cast, ↓reduceIte, Nat.reduceEqDiff, reduceCtorEq, Nat.reduceAdd, Nat.reduceLT, Nat.reduceLeDiff, aB, aA, e0, e3, ob, bo, f1]
  have e : BT u.f0 b.key = .tup [bD (u.f0.take b.key.toNat), bD (u.f0.drop b.key.toNat), .int .i64 0] := by
    unfold BT
    rw [if_neg (by omega)]
  (refine aC.look (NI u.f0 b.key _ hu) ?_; simp only [push_cast, ↓reduceIte, Nat.reduceEqDiff, reduceCtorEq, Nat.reduceAdd, Nat.reduceLT, Nat.reduceLeDiff, aB, aA, e0, e3, e])
  exact hQ _ e0 e3 rfl rfl
theorem qS {b : Bt} {g : Gr} (G : Gs b g) : b.keys.length ≤ b.rests.length ∧ b.rests.length ≤ b.times.length ∧ b.kends.length = b.keys.length ∧ b.rends.length = b.rests.length ∧ b.ws.length = b.times.length := by
  have h1 := qO (fun x : List Val × List Rst => x.2) g G.ne1
  have h2 := qO (fun y : Rst => y.2) (g.flatMap (·.2)) G.ne2
  refine ⟨?_, ?_, ?_, ?_, ?_⟩
  · rw [G.keys, G.rests, List.length_map, List.length_map]; exact h1
  · rw [G.rests, G.times, List.length_map, List.length_map]; exact h2
  · rw [G.kends, G.keys, mB, List.length_map, List.length_map]
  · rw [G.rends, G.rests, mB, List.length_map, List.length_map]
  · rw [G.ws, G.times, List.length_map, List.length_map]
theorem CG {b : Bt} {g : Gr} (G : Gs b g) (h : b.keys ≠ []) : ∃ ks, b.kends = ks ++ [(b.rests.length : Int)] := by
  have hg : g ≠ [] := fun e => h (by rw [G.keys, e]; rfl)
  obtain ⟨g', x, rfl⟩ := mC g hg
  refine ⟨gX 0 (g'.map (·.2.length)), ?_⟩
  rw [G.kends, G.rests, List.map_append, List.map_cons, List.map_nil, dD, List.length_map, List.length_flatMap]
  simp
theorem CH {b : Bt} {g : Gr} (G : Gs b g) (h : b.rests ≠ []) : ∃ ks, b.rends = ks ++ [(b.times.length : Int)] := by
  have hg : g.flatMap (·.2) ≠ [] := fun e => h (by rw [G.rests, e]; rfl)
  obtain ⟨g', x, e⟩ := mC _ hg
  refine ⟨gX 0 (g'.map (·.2.length)), ?_⟩
  rw [G.rends, G.times, e, List.map_append, List.map_cons, List.map_nil, dD, List.length_map, List.length_flatMap]
  simp
theorem NS {H0 H : AH} {t : Nat} {b : Bt} {g : Gr} {vs : List AV} (u : Upd) (O : OBL H0 H t (hdB b) vs (lsB b)) (G : Gs b g) (hu : u.f0.length < 1099511627776) (hk : 0 ≤ b.key ∧ b.key ≤ u.f0.length) (hkl : ∀ x ∈ b.keys, x.length < 1099511627776) (hrl : ∀ x ∈ b.rests, x.length < 1099511627776) (ht : b.times.length + 1 < 1099511627776) :
    aC Try.prog 66 [.ptr t 0 0, upA u] H fun r H' => r = .tup [] ∧ ∃ vs', OBL H0 H' t (hdB (jL b u)) vs' (lsB (jL b u)) := by
  refine aN c66 (by simp [F66]) ?_
  unfold F66
  obtain ⟨l1, l2, l3, l4, l5⟩ := qS G
  have cu : cells (upA u) = [bD u.f0, .int .i64 u.f1.f0, .int .i64 u.f1.f1, .int .i64 u.f2] := rfl
  have su : (4 : Nat) = (cells (upA u)).length := rfl
  simp only [push_cast, ↓reduceIte, Nat.reduceEqDiff, reduceCtorEq, Nat.reduceAdd, Nat.reduceLT, Nat.reduceLeDiff, cu, GM]
  have O0 : BX H0 (H ++ [.live 4 [upA u]]) t b H.length u := ⟨vs, O.box 4 [upA u]⟩
  generalize hk1 : u.f0.take b.key.toNat = k
  generalize hr1 : u.f0.drop b.key.toNat = r
  have hkl1 : k.length < 1099511627776 := by rw [← hk1, List.length_take]; omega
  have hrl1 : r.length < 1099511627776 := by rw [← hr1, List.length_drop]; omega
  refine NR O0 hu hk rfl rfl fun f e0 e3 e4 e5 => ?_
  rw [hk1] at e4
  rw [hr1] at e5
  simp only [push_cast, ↓reduceIte, Nat.reduceEqDiff, reduceCtorEq, Nat.reduceAdd, Nat.reduceLT, Nat.reduceLeDiff]
  refine NP O0 (by omega) hkl hkl1 e0 e3 e4 e5 fun f e0 e3 e4 e5 e7 => ?_
  generalize hnk : jK b.keys k = nk at e7
  simp only [push_cast, ↓reduceIte, Nat.reduceEqDiff, reduceCtorEq, Nat.reduceAdd, Nat.reduceLT, Nat.reduceLeDiff, e7]
  refine GR O0 (by omega) (by omega) e0 e3 e4 e5 e7 (by simp only [push_cast, ↓reduceIte, Nat.reduceEqDiff, reduceCtorEq, Nat.reduceAdd, Nat.reduceLT, Nat.reduceLeDiff]) fun f H2 O2 e0 e3 e5 e7 => ?_
  have hb2 : ∃ b2, b2 = (if nk = true then uE b k else b) := ⟨_, rfl⟩
  obtain ⟨b2, hb2⟩ := hb2
  rw [← hb2] at O2
  have q1 : b2.rests = b.rests ∧ b2.rends = b.rends ∧ b2.times = b.times ∧ b2.ws = b.ws := by rw [hb2]; split <;> exact ⟨rfl, rfl, rfl, rfl⟩
  obtain ⟨q1, q2, q3, q4⟩ := q1
  have hne : nk = false → b.keys ≠ [] := fun e h => by rw [h] at hnk; rw [← hnk] at e; cases e
  have q5 : ∃ ks, b2.kends = ks ++ [(b.rests.length : Int)] := by
    cases nk with
    | true => exact ⟨b.kends, by rw [hb2]; rfl⟩
    | false => rw [hb2]; exact CG G (hne rfl)
  have q6 : b2.kends.length ≤ b.kends.length + 1 := by rw [hb2]; split <;> simp [uE]
  obtain ⟨ks, q5⟩ := q5
  simp only [push_cast, ↓reduceIte, Nat.reduceEqDiff, reduceCtorEq, Nat.reduceAdd, Nat.reduceLT, Nat.reduceLeDiff]
  refine NQ (r := r) (nk := nk) O2 (by rw [q1]; omega) (by rw [q1]; exact hrl) hrl1 (fun e h => ?_) e0 e3 e5 e7 fun f e0 e3 e5 e84 => ?_
  · have := List.length_pos_iff.2 (hne e)
    rw [← q1, h] at l1
    simp at l1
    exact hne e l1
  rw [q1] at e84
  generalize hnr : (nk || jK b.rests r) = nr at e84
  simp only [push_cast, ↓reduceIte, Nat.reduceEqDiff, reduceCtorEq, Nat.reduceAdd, Nat.reduceLT, Nat.reduceLeDiff]
  refine GS O2 (by rw [q1]; omega) (by rw [q2]; omega) (by omega) q5 (by omega) e0 e3 e5 e84 fun f H3 O3 e0 e3 => ?_
  obtain ⟨b3, hb3⟩ : ∃ b3, b3 = (if nr = true then lZ b2 r else b2) := ⟨_, rfl⟩
  rw [← hb3] at O3
  have p1 : b3.times = b.times ∧ b3.ws = b.ws ∧ b3.rends.length ≤ b.rends.length + 1 := by
    rw [hb3]; split
    · refine ⟨q3, q4, ?_⟩
      simp only [lZ, List.length_append, q2, List.length_singleton]
      omega
    · exact ⟨q3, q4, by rw [q2]; omega⟩
  have p2 : ∃ ks, b3.rends = ks ++ [(b.times.length : Int)] := by
    cases nr with
    | true => exact ⟨b.rends, by rw [hb3]; simp only [↓reduceIte, lZ, q2, q3]⟩
    | false =>
      rw [hb3]
      simp only [Bool.false_eq_true, ↓reduceIte, q2]
      refine CH G fun h => ?_
      have : nk = false := by cases nk <;> simp_all
      have := hne this
      rw [h] at l1
      simp at l1
      exact this l1
  obtain ⟨ks3, p2⟩ := p2
  simp only [push_cast, ↓reduceIte, Nat.reduceEqDiff, reduceCtorEq, Nat.reduceAdd, Nat.reduceLT, Nat.reduceLeDiff]
  refine CF O3 (by rw [p1.1]; omega) (by rw [p1.2.1]; omega) (by omega) p2 (by omega) e0 e3 fun f H4 O4 => ?_
  have fin : iE b3 u.f1 u.f2 = jL b u := by
    unfold jL
    rw [hb3, hb2, hk1, hr1, hnk, ← hnr]
    cases nk with
    | true => rfl
    | false =>
      cases jK b.rests r <;> rfl
  rw [fin] at O4
  obtain ⟨vs4, O4⟩ := O4
  have hh : hdB (jL b u) = hdB b := by
    obtain ⟨a1, a2, _⟩ := mA b u
    unfold hdB; rw [a1, a2]
  simp only [push_cast, ↓reduceIte, Nat.reduceEqDiff, reduceCtorEq, Nat.reduceAdd, Nat.reduceLT, Nat.reduceLeDiff]
  exact ⟨vs4, O4.o⟩
end Go.Eng
end
section
set_option linter.unusedSimpArgs false
set_option linter.unusedVariables false
set_option maxRecDepth 10000
namespace Go.Eng
open Go Go.Proofs
def okT (t : Tm) : Int := if (if t.f1 < t.f0 then t.f1 else t.f0) < 0 ∨ (if t.f1 > t.f0 then t.f1 else t.f0) > 1099511627776 then 7 else 0
def F94 : AFn := ⟨17, 1, [.t 2], (.seq (.ops [oo 1 (.box 2 (.t 0)), oo 2 (.mov (.v (.int .i64 0)))]) (.seq (.seq (.ops [oo 3 (.faddr 0 (.t 1)), oo 4 (.load false 1 (.t 3)), oo 5 (.faddr 1 (.t 1)), oo 6 (.load false 1 (.t 5)), oo 7 (.mn (.t 4) [(.t 6)]), oo 8 (.bin .lss (.t 7) (.v (.int .i64 0))), oo 9 (.mov (.t 8)), og 10 9 false (.faddr 0 (.t 1)), og 11 9 false (.load false 1 (.t 10)), og 12 9 false (.faddr 1 (.t 1)), og 13 9 false (.load false 1 (.t 12)), og 14 9 false (.mx (.t 11) [(.t 13)]), og 15 9 false (.bin .gtr (.t 14) (.v (.int .i64 1099511627776))), oo 16 (.pick (.t 9) (.v (.bool true)) (.t 15))]) (.cond (.t 16) (.seq (.ops [oo 2 (.mov (.v (.int .i64 7)))]) .ret) .skip)) (.seq (.ops [oo 2 (.mov (.v (.int .i64 0)))]) .ret)))⟩
theorem c94 : aD Try.prog 94 = some F94 := by kernel_rfl
theorem yS (t : Tm) (H : AH) : aC Try.prog 94 [aX t] H fun r H' => r = .int .i64 (okT t) ∧ H' = H := by
  refine aI c94 (fun _ => rfl) (by simp [F94]) ?_
  unfold F94 aX okT
  generalize t.f0 = a
  generalize t.f1 = b
  by_cases h1 : (if b < a then b else a) < 0
  · rw [if_pos (.inl h1)]
    simp only [push_cast, ↓reduceIte, Nat.reduceEqDiff, reduceCtorEq, Nat.reduceAdd, Nat.reduceLT, Nat.reduceLeDiff, aB, aA, h1, decide_true]
    (repeat (first | exact List.prefix_refl _ | refine List.IsPrefix.trans ?_ (List.prefix_append _ _)))
  · by_cases h2 : (if b > a then b else a) > 1099511627776
    · rw [if_pos (.inr h2)]
      simp only [push_cast, ↓reduceIte, Nat.reduceEqDiff, reduceCtorEq, Nat.reduceAdd, Nat.reduceLT, Nat.reduceLeDiff, aB, aA, h1, h2, decide_true, decide_false]
      (repeat (first | exact List.prefix_refl _ | refine List.IsPrefix.trans ?_ (List.prefix_append _ _)))
    · rw [if_neg (fun h => h.elim h1 h2)]
      simp only [push_cast, ↓reduceIte, Nat.reduceEqDiff, reduceCtorEq, Nat.reduceAdd, Nat.reduceLT, Nat.reduceLeDiff, aB, aA, h1, h2, decide_true, decide_false]
      (repeat (first | exact List.prefix_refl _ | refine List.IsPrefix.trans ?_ (List.prefix_append _ _)))
def F95 : AFn := ⟨26, 2, [.t 4], (.seq (.ops [oo 4 (.mov (.v (.bool false)))]) (.seq (.seq (.ops [oo 6 (.mov (.t 0)), oo 7 (.len (.t 6)), oo 8 (.mov (.t 1)), oo 9 (.len (.t 8)), oo 10 (.bin .neq (.t 7) (.t 9))]) (.cond (.t 10) (.seq (.ops [oo 4 (.mov (.v (.bool false)))]) .ret) .skip)) (.seq (.seq (.ops [oo 11 (.mov (.t 0)), oo 12 (.len (.t 11)), oo 13 (.mov (.v (.int .i64 0)))]) (.block 0 (.loop (.seq (.ops [oo 14 (.bin .lss (.t 13) (.t 12))]) (.seq (.cond (.t 14) .skip (.exit 0)) (.seq (.block 1 (.seq (.ops [oo 15 (.mov (.t 13)), oo 5 (.mov (.t 15))]) (.seq (.ops [oo 26 (.mov (.t 0)), oo 27 (.mov (.t 5)), oo 28 (.iaddr 2 (.t 26) (.t 27)), oo 29 (.load true 2 (.t 28)), oo 30 (.mov (.t 1)), oo 31 (.mov (.t 5)), oo 32 (.iaddr 2 (.t 30) (.t 31)), oo 33 (.load true 2 (.t 32)), oo 34 (.eqa true [0, 0] (.t 29) (.t 33)), oo 16 (.mov (.t 26)), oo 17 (.mov (.t 27)), oo 18 (.mov (.t 28)), oo 19 (.mov (.t 29)), oo 20 (.mov (.t 30)), oo 21 (.mov (.t 31)), oo 22 (.mov (.t 32)), oo 23 (.mov (.t 33)), oo 24 (.mov (.t 34))]) (.cond (.t 24) (.seq (.ops [oo 4 (.mov (.v (.bool false)))]) .ret) .skip)))) (.ops [oo 25 (.bin .add (.t 13) (.v (.int .i64 1))), oo 13 (.mov (.t 25))]))))))) (.seq (.ops [oo 4 (.mov (.v (.bool true)))]) .ret))))⟩
theorem c95 : aD Try.prog 95 = some F95 := by kernel_rfl
instance : DecidableEq Tm := fun a b => decidable_of_iff (a.f0 = b.f0 ∧ a.f1 = b.f1) (by cases a; cases b; simp)
theorem KH (s t : Tm) : EE [0, 0] [.int .i64 s.f0, .int .i64 s.f1] [.int .i64 t.f0, .int .i64 t.f1] = some (decide (s = t)) := by
  obtain ⟨a, b⟩ := s
  obtain ⟨c, d⟩ := t
  by_cases h : a = c <;> by_cases h2 : b = d <;> simp [EE, LQ, h, h2]
theorem yT (x y : AV) (a b : List Tm) (H : AH) (hx : elems 2 x H = some (a.map aX)) (hy : elems 2 y H = some (b.map aX)) (ha : b.length < 1099511627776) : aC Try.prog 95 [x, y] H fun r H' => r = .bool (decide (a = b)) ∧ H' = H := by
  refine aI c95 (fun _ => rfl) (by simp [F95]) ?_
  unfold F95
  have la := aS hx
  have lb := aS hy
  rw [List.length_map] at la lb
  by_cases hab : a.length = b.length
  · have hz : ¬ ((a.length : Int) ≠ b.length) := by omega
    rw [hab] at la
    have hz : ¬ ((b.length : Int) ≠ b.length) := by omega
    simp only [push_cast, ↓reduceIte, Nat.reduceEqDiff, reduceCtorEq, Nat.reduceAdd, Nat.reduceLT, Nat.reduceLeDiff, la, lb]
    refine aJ (fun (i : Nat) f H' => H' = H ∧ i ≤ b.length ∧ f 13 = .int .i64 i ∧ f 12 = .int .i64 b.length ∧ f 0 = x ∧ f 1 = y ∧ (a = b ↔ a.drop i = b.drop i)) (fun i => b.length - i) 0 ⟨rfl, Nat.zero_le _, rfl, rfl, rfl, rfl, Iff.rfl⟩ ?_
    rintro i f H' ⟨rfl, h1, e13, e12, e0, e1, ho⟩
    by_cases hi : i < b.length
    · have hi' : (i : Int) < b.length := by omega
      have hi2 : i < a.length := by omega
      have ax : aF 2 x (.int .i64 (i : Int)) = some (ptk x i 0) := aO hx (by rw [List.length_map]; exact hi2) _
      have ay : aF 2 y (.int .i64 (i : Int)) = some (ptk y i 0) := aO hy (by rw [List.length_map]; exact hi) _
      have lx : (a.map aX)[i]? = some (aX a[i]) := by simp [hi2]
      have ly : (b.map aX)[i]? = some (aX b[i]) := by simp [hi]
      rw [List.drop_eq_getElem_cons hi2, List.drop_eq_getElem_cons hi] at ho
      generalize a[i] = s at lx ho
      generalize b[i] = t at ly ho
      simp only [push_cast, ↓reduceIte, Nat.reduceEqDiff, reduceCtorEq, Nat.reduceAdd, Nat.reduceLT, Nat.reduceLeDiff, aB, aA, e13, e12, e0, e1, hi', ax, ay, aW hx lx, aW hy ly, List.prefix_refl, aX]
      rw [KH]
      by_cases hst : s = t
      · rw [decide_eq_true hst]
        simp only [push_cast, ↓reduceIte, Nat.reduceEqDiff, reduceCtorEq, Nat.reduceAdd, Nat.reduceLT, Nat.reduceLeDiff, e13, e12, e0, e1]
        refine ⟨i + 1, ⟨hi, ?_, ?_⟩, by omega⟩
        · rw [aG (by omega) (by omega)]; simp
        · rw [ho, hst]; simp
      · rw [decide_eq_false hst]
        have hb : (false != true) = true := rfl
        simp only [push_cast, ↓reduceIte, Nat.reduceEqDiff, reduceCtorEq, Nat.reduceAdd, Nat.reduceLT, Nat.reduceLeDiff, e13, e12, e0, e1, hb]
        exact ⟨List.prefix_refl _, by rw [decide_eq_false (fun h => hst (List.cons.inj (ho.1 h)).1)]⟩
    · have hi' : ¬ (i : Int) < b.length := by omega
      simp only [push_cast, ↓reduceIte, Nat.reduceEqDiff, reduceCtorEq, Nat.reduceAdd, Nat.reduceLT, Nat.reduceLeDiff, e13, e12, hi']
      rw [List.drop_eq_nil_of_le (by omega : a.length ≤ i), List.drop_eq_nil_of_le (by omega : b.length ≤ i)] at ho
      exact ⟨List.prefix_refl _, by rw [decide_eq_true (ho.2 rfl)]⟩
  · have hz : ((a.length : Int) ≠ b.length) := by omega
    simp only [push_cast, ↓reduceIte, Nat.reduceEqDiff, reduceCtorEq, Nat.reduceAdd, Nat.reduceLT, Nat.reduceLeDiff, la, lb, hz]
    exact ⟨List.prefix_refl _, by rw [decide_eq_false (fun h => hab (by rw [h]))]⟩
def eM (l : List Tm) : Int := if l.length > 1024 then 3 else match l.find? (fun t => decide (okT t ≠ 0)) with | some t => okT t | none => if BW l = l then 0 else 6
def F62 : AFn := ⟨26, 1, [.t 2], (.seq (.ops [oo 2 (.mov (.v (.int .i64 0)))]) (.seq (.seq (.ops [oo 6 (.mov (.t 0)), oo 7 (.len (.t 6)), oo 8 (.bin .gtr (.t 7) (.v (.int .i64 1024)))]) (.cond (.t 8) (.seq (.ops [oo 2 (.mov (.v (.int .i64 3)))]) .ret) .skip)) (.seq (.seq (.ops [oo 9 (.mov (.t 0)), oo 10 (.len (.t 9)), oo 11 (.mov (.v (.int .i64 0)))]) (.block 0 (.loop (.seq (.ops [oo 12 (.bin .lss (.t 11) (.t 10))]) (.seq (.cond (.t 12) .skip (.exit 0)) (.seq (.block 1 (.seq (.ops [oo 13 (.iaddr 2 (.t 9) (.t 11)), oo 14 (.load true 2 (.t 13)), oo 4 (.alloc 2 (.agg [(.int .i64 0), (.int .i64 0)])), on (.store 2 (.t 4) (.t 14))]) (.seq (.ops [oo 15 (.load true 2 (.t 4)), oo 16 (.call 94 [(.t 15)]), oo 5 (.mov (.t 16))]) (.seq (.ops [oo 17 (.mov (.t 5)), oo 18 (.bin .neq (.t 17) (.v (.int .i64 0)))]) (.cond (.t 18) (.seq (.ops [oo 19 (.mov (.t 5)), oo 2 (.mov (.t 19))]) .ret) .skip))))) (.ops [oo 20 (.bin .add (.t 11) (.v (.int .i64 1))), oo 11 (.mov (.t 20))]))))))) (.seq (.seq (.ops [oo 21 (.mov (.t 0)), oo 22 (.call 67 [(.t 21)]), oo 23 (.mov (.t 0)), oo 24 (.call 95 [(.t 22), (.t 23)]), oo 25 (.un .not (.t 24))]) (.cond (.t 25) (.seq (.ops [oo 2 (.mov (.v (.int .i64 6)))]) .ret) .skip)) (.seq (.ops [oo 2 (.mov (.v (.int .i64 0)))]) .ret)))))⟩
theorem c62 : aD Try.prog 62 = some F62 := by kernel_rfl
theorem yU (x : AV) (l : List Tm) (H : AH) (hx : elems 2 x H = some (l.map aX)) (hl : l.length < 1099511627776) : aC Try.prog 62 [x] H fun r H' => r = .int .i64 (eM l) ∧ H' = H := by
  refine aI c62 (fun _ => rfl) (by simp [F62]) ?_
  unfold F62 eM
  have la := aS hx
  rw [List.length_map] at la
  by_cases h0 : l.length > 1024
  · have h0' : (l.length : Int) > 1024 := by omega
    rw [if_pos h0]
    simp only [push_cast, ↓reduceIte, Nat.reduceEqDiff, reduceCtorEq, Nat.reduceAdd, Nat.reduceLT, Nat.reduceLeDiff, la, h0']
    exact List.prefix_refl _
  · have h0' : ¬ (l.length : Int) > 1024 := by omega
    rw [if_neg h0]
    simp only [push_cast, ↓reduceIte, Nat.reduceEqDiff, reduceCtorEq, Nat.reduceAdd, Nat.reduceLT, Nat.reduceLeDiff, la, h0']
    refine aJ (fun (i : Nat) f H' => H <+: H' ∧ i ≤ l.length ∧ f 11 = .int .i64 i ∧ f 10 = .int .i64 l.length ∧ f 0 = x ∧ f 9 = x ∧ l.find? (fun t => decide (okT t ≠ 0)) = (l.drop i).find? (fun t => decide (okT t ≠ 0))) (fun i => l.length - i) 0 ⟨List.prefix_refl _, Nat.zero_le _, rfl, rfl, rfl, rfl, rfl⟩ ?_
    rintro i f H' ⟨hp, h1, e11, e10, e0, e9, ho⟩
    by_cases hi : i < l.length
    · have hi' : (i : Int) < l.length := by omega
      have ax : aF 2 x (.int .i64 (i : Int)) = some (ptk x i 0) := aO hx (by rw [List.length_map]; exact hi) _
      have lx : (l.map aX)[i]? = some (aX l[i]) := by simp [hi]
      rw [List.drop_eq_getElem_cons hi, List.find?_cons] at ho
      generalize l[i] = t at lx ho
      by_cases ht : okT t = 0
      · rw [show decide (okT t ≠ 0) = false by simp [ht]] at ho
        simp only [push_cast, ↓reduceIte, Nat.reduceEqDiff, reduceCtorEq, Nat.reduceAdd, Nat.reduceLT, Nat.reduceLeDiff, aB, aA, e11, e10, e0, e9, hi', ax, aW hx lx, hp, aX]
        (refine aC.look (yS t _) ?_; simp only [push_cast, ↓reduceIte, Nat.reduceEqDiff, reduceCtorEq, Nat.reduceAdd, Nat.reduceLT, Nat.reduceLeDiff, aB, aA, e11, e10, e0, e9, ht])
        refine ⟨i + 1, ⟨aQ hp, hi, ?_, ho⟩, by omega⟩
        rw [aG (by omega) (by omega)]; simp
      · rw [show decide (okT t ≠ 0) = true by simp [ht]] at ho
        simp only [push_cast, ↓reduceIte, Nat.reduceEqDiff, reduceCtorEq, Nat.reduceAdd, Nat.reduceLT, Nat.reduceLeDiff, aB, aA, e11, e10, e0, e9, hi', ax, aW hx lx, hp, aX]
        (refine aC.look (yS t _) ?_; simp only [push_cast, ↓reduceIte, Nat.reduceEqDiff, reduceCtorEq, Nat.reduceAdd, Nat.reduceLT, Nat.reduceLeDiff, aB, aA, e11, e10, e0, e9, ht])
        rw [ho]
        exact ⟨aQ hp, rfl⟩
    · have hi' : ¬ (i : Int) < l.length := by omega
      rw [List.drop_eq_nil_of_le (by omega : l.length ≤ i)] at ho
      rw [ho]
      dsimp only [List.find?_nil]
      simp only [push_cast, ↓reduceIte, Nat.reduceEqDiff, reduceCtorEq, Nat.reduceAdd, Nat.reduceLT, Nat.reduceLeDiff, e11, e10, e0, hi']
      (refine aC.look (NL x l _ (bA hx hp) hl) ?_; simp only [push_cast, ↓reduceIte, Nat.reduceEqDiff, reduceCtorEq, Nat.reduceAdd, Nat.reduceLT, Nat.reduceLeDiff, aB, aA, e0])
      by_cases hn : BW l = l
      · (refine aC.look (yT (fK (BW l)) x (BW l) l _ rfl (bA hx hp) hl) ?_; simp only [push_cast, ↓reduceIte, Nat.reduceEqDiff, reduceCtorEq, Nat.reduceAdd, Nat.reduceLT, Nat.reduceLeDiff, aB, aA, hn, decide_true])
        exact hp
      · (refine aC.look (yT (fK (BW l)) x (BW l) l _ rfl (bA hx hp) hl) ?_; simp only [push_cast, ↓reduceIte, Nat.reduceEqDiff, reduceCtorEq, Nat.reduceAdd, Nat.reduceLT, Nat.reduceLeDiff, aB, aA, hn, decide_false])
        exact hp
end Go.Eng
end
section
namespace Go.Eng
open Go
set_option linter.unusedVariables false
set_option linter.unusedSimpArgs false
theorem yV : ∀ (k : Nat) (l : List Upd), (∀ g ∈ hY k l, g ≠ [] ∧ ∀ x ∈ g, x ∈ l) ∧ (hY k l).length ≤ l.length
  | 0, l => ⟨fun g h => by simp [hY] at h, Nat.zero_le _⟩
  | k + 1, [] => ⟨fun g h => by simp [hY] at h, Nat.zero_le _⟩
  | k + 1, x :: r => by
    have hg : 1 ≤ eL (x :: r) := by simp [eL]
    obtain ⟨h1, h2⟩ := yV k ((x :: r).drop (eL (x :: r)))
    refine ⟨fun g h => ?_, ?_⟩
    · simp only [hY] at h
      rcases List.mem_cons.1 h with h | h
      · rw [h]
        refine ⟨fun e => ?_, fun y hy => List.mem_of_mem_take hy⟩
        have := congrArg List.length e
        rw [List.length_take, List.length_cons] at this
        simp at this
        omega
      · exact ⟨(h1 g h).1, fun y hy => List.mem_of_mem_drop ((h1 g h).2 y hy)⟩
    · simp only [hY, List.length_cons]
      rw [List.length_drop, List.length_cons] at h2
      omega
theorem uA {l x : List Upd} (hl : l ≠ []) (h : jM l = some x) : x.length ≤ 1 ∧ ∀ u ∈ x, ∃ v ∈ l, u.f0 = v.f0 ∧ u.f1 = v.f1 := by
  unfold jM at h
  cases hs : DU 0 l with
  | none => rw [hs] at h; cases h
  | some n =>
    rw [hs] at h
    dsimp only at h
    split at h
    · cases h; exact ⟨Nat.zero_le _, fun u hu => by simp at hu⟩
    · cases h
      refine ⟨Nat.le_refl _, fun u hu => ?_⟩
      cases l with
      | nil => exact absurd rfl hl
      | cons y r => rw [List.mem_singleton.1 hu]; exact ⟨y, List.mem_cons_self, rfl, rfl⟩
theorem nX : ∀ (ls : List (List Upd)) (out o : List Upd), dZ out ls = some o → (∀ l ∈ ls, l ≠ []) → o.length ≤ out.length + ls.length ∧ ∀ u ∈ o, u ∈ out ∨ ∃ l ∈ ls, ∃ v ∈ l, u.f0 = v.f0 ∧ u.f1 = v.f1
  | [], out, o, h, _ => by cases h; exact ⟨Nat.le_refl _, fun u hu => .inl hu⟩
  | l :: r, out, o, h, hne => by
    simp only [dZ] at h
    cases ho : jM l with
    | none => rw [ho] at h; cases h
    | some x =>
      rw [ho] at h
      obtain ⟨h1, h2⟩ := nX r _ o h (fun q hq => hne q (List.mem_cons_of_mem _ hq))
      obtain ⟨h3, h4⟩ := uA (hne l List.mem_cons_self) ho
      refine ⟨by rw [List.length_append] at h1; rw [List.length_cons]; omega, fun u hu => ?_⟩
      rcases h2 u hu with h5 | ⟨q, hq, v, hv, h5⟩
      · rcases List.mem_append.1 h5 with h5 | h5
        · exact .inl h5
        · obtain ⟨v, hv, e⟩ := h4 u h5
          exact .inr ⟨l, List.mem_cons_self, v, hv, e⟩
      · exact .inr ⟨q, List.mem_cons_of_mem _ hq, v, hv, h5⟩
theorem eN (l : List Upd) : (bV l).1.length ≤ l.length ∧ ∀ u ∈ (bV l).1, ∃ v ∈ l, u.f0 = v.f0 ∧ u.f1 = v.f1 := by
  unfold bV
  have hlen := Stab.sortS_len GA l
  cases h : dZ [] (hY l.length (Stab.sortS gB l)) with
  | none => exact ⟨Nat.zero_le _, fun u hu => by simp at hu⟩
  | some o =>
    obtain ⟨g1, g2⟩ := yV l.length (Stab.sortS gB l)
    obtain ⟨h1, h2⟩ := nX _ [] o h (fun q hq => (g1 q hq).1)
    refine ⟨by simp at h1; show o.length ≤ _; omega, fun u hu => ?_⟩
    rcases h2 u hu with h3 | ⟨q, hq, v, hv, e⟩
    · simp at h3
    · exact ⟨v, (Stab.sortS_mem l v).1 ((g1 q hq).2 v hv), e⟩
theorem yW (l : List Upd) (h : (bV l).2 ≠ 0) : (bV l).1 = [] := by
  unfold bV at h ⊢
  cases hc : dZ [] (hY l.length (Stab.sortS gB l)) with
  | none => rfl
  | some z => rw [hc] at h; exact absurd rfl h
end Go.Eng
end
section
set_option linter.unusedVariables false
set_option linter.unusedSimpArgs false
set_option maxRecDepth 10000
namespace Go.Eng
open Go Go.Proofs
def dK (since : List Tm) (l : List Upd) : List Upd := if since = [] then l else l.map (yL since)
def gE (key : Int) (l : List Upd) : Bool := l.any fun u => decide ((u.f0.length : Int) < key)
def eO (key : Int) (l : List Upd) (since : List Tm) : Int :=
  if key < 0 ∨ key > 16 then 1 else if gE key l = true then 9 else if eM since ≠ 0 then eM since else (bV (dK since l)).2
def fL (key : Int) (l : List Upd) (since : List Tm) : Bt := bK (Bt.none_ key l.length since) (bV (dK since l)).1
theorem iG (since : List Tm) (l : List Upd) : (dK since l).length = l.length := by unfold dK; split <;> simp
theorem sB {since : List Tm} {l : List Upd} {u : Upd} (h : u ∈ dK since l) : ∃ v ∈ l, u.f0 = v.f0 := by
  unfold dK at h
  split at h
  · exact ⟨u, h, rfl⟩
  · obtain ⟨v, hv, rfl⟩ := List.mem_map.1 h
    exact ⟨v, hv, rfl⟩
def yX : AC := (.block 2 (.loop (.seq (.ops [oo 64 (.bin .lss (.t 63) (.t 62))]) (.seq (.cond (.t 64) .skip (.exit 2)) (.seq (.block 3 (.seq (.ops [oo 65 (.iaddr 4 (.t 61) (.t 63)), oo 66 (.load true 4 (.t 65)), oo 15 (.alloc 4 (.agg [.nils, (.int .i64 0), (.int .i64 0), (.int .i64 0)])), on (.store 4 (.t 15) (.t 66))]) (.ops [oo 67 (.mov (.t 13)), oo 68 (.load true 4 (.t 15)), oo 69 (.call 66 [(.t 67), (.t 68)])]))) (.ops [oo 70 (.bin .add (.t 63) (.v (.int .i64 1))), oo 63 (.mov (.t 70))]))))))
def yY : AC := (.block 0 (.loop (.seq (.ops [oo 25 (.bin .lss (.t 24) (.t 23))]) (.seq (.cond (.t 25) .skip (.exit 0)) (.seq (.block 1 (.seq (.ops [oo 26 (.iaddr 4 (.t 22) (.t 24)), oo 27 (.load true 4 (.t 26)), oo 9 (.alloc 4 (.agg [.nils, (.int .i64 0), (.int .i64 0), (.int .i64 0)])), on (.store 4 (.t 9) (.t 27))]) (.seq (.ops [oo 28 (.faddr 0 (.t 9)), oo 29 (.load false 1 (.t 28)), oo 30 (.len (.t 29)), oo 31 (.mov (.t 0)), oo 32 (.bin .lss (.t 30) (.t 31))]) (.cond (.t 32) (.seq (.ops [oo 6 (.mov (.v .nilp)), oo 7 (.mov (.v (.int .i64 9)))]) .ret) .skip)))) (.ops [oo 33 (.bin .add (.t 24) (.v (.int .i64 1))), oo 24 (.mov (.t 33))]))))))
def qT : AC := (.cond (.t 42) (.ops [oo 43 (.mov (.t 1)), oo 44 (.mov (.t 2)), oo 45 (.call 63 [(.t 43), (.t 44)]), oo 11 (.mov (.t 45))]) .skip)
def qU : AC := (.seq (.ops [oo 47 (.mov (.t 11)), oo 48 (.call 64 [(.t 47)]), oo 46 (.mov (.t 48)), oo 49 (.ext (.t 46) 0), oo 50 (.ext (.t 46) 1), oo 11 (.mov (.t 49)), oo 12 (.mov (.t 50))]) (.seq (.seq (.ops [oo 51 (.mov (.t 12)), oo 52 (.bin .neq (.t 51) (.v (.int .i64 0)))]) (.cond (.t 52) (.seq (.ops [oo 53 (.mov (.t 12)), oo 6 (.mov (.v .nilp)), oo 7 (.mov (.t 53))]) .ret) .skip)) (.seq (.ops [oo 54 (.mov (.t 0)), oo 55 (.mov (.t 1)), oo 56 (.len (.t 55)), oo 57 (.mov (.t 2)), oo 58 (.call 65 [(.t 57)]), oo 59 (.build [(.int .i64 0), (.int .i64 0), .nils, .nils, .nils, .nils, .nils, .nils, .nils] [(0, 1, (.t 54)), (1, 1, (.t 56)), (2, 1, (.t 58))]), oo 60 (.box 9 (.t 59)), oo 13 (.mov (.t 60))]) (.seq (.seq (.ops [oo 61 (.mov (.t 11)), oo 62 (.len (.t 61)), oo 63 (.mov (.v (.int .i64 0)))]) (yX)) (.seq (.ops [oo 71 (.mov (.t 13)), oo 6 (.mov (.t 71)), oo 7 (.mov (.v (.int .i64 0)))]) .ret)))))
def F18 : AFn := ⟨72, 3, [.t 6, .t 7], (.seq (.ops [oo 6 (.mov (.v .nilp)), oo 7 (.mov (.v (.int .i64 0)))]) (.seq (.seq (.ops [oo 16 (.mov (.t 0)), oo 17 (.bin .lss (.t 16) (.v (.int .i64 0))), oo 18 (.mov (.t 17)), og 19 18 false (.mov (.t 0)), og 20 18 false (.bin .gtr (.t 19) (.v (.int .i64 16))), oo 21 (.pick (.t 18) (.v (.bool true)) (.t 20))]) (.cond (.t 21) (.seq (.ops [oo 6 (.mov (.v .nilp)), oo 7 (.mov (.v (.int .i64 1)))]) .ret) .skip)) (.seq (.seq (.ops [oo 22 (.mov (.t 1)), oo 23 (.len (.t 22)), oo 24 (.mov (.v (.int .i64 0)))]) (yY)) (.seq (.seq (.ops [oo 34 (.mov (.t 2)), oo 35 (.call 62 [(.t 34)]), oo 10 (.mov (.t 35))]) (.seq (.ops [oo 36 (.mov (.t 10)), oo 37 (.bin .neq (.t 36) (.v (.int .i64 0)))]) (.cond (.t 37) (.seq (.ops [oo 38 (.mov (.t 10)), oo 6 (.mov (.v .nilp)), oo 7 (.mov (.t 38))]) .ret) .skip))) (.seq (.ops [oo 39 (.mov (.t 1)), oo 11 (.mov (.t 39))]) (.seq (.seq (.ops [oo 40 (.mov (.t 2)), oo 41 (.len (.t 40)), oo 42 (.bin .gtr (.t 41) (.v (.int .i64 0)))]) (qT)) (qU)))))))⟩
theorem c18 : aD Try.prog 18 = some F18 := by kernel_rfl
theorem GW {x y : AV} {l : List Upd} {key : Int} {H H' : AH} {f : AF} {Q : AE → AF → AH → Prop} (hx : elems 4 x H = some (l.map upA)) (hp : H <+: H') (hl : l.length < 1099511627776) (e0 : f 0 = .int .i64 key) (e1 : f 1 = x) (e2 : f 2 = y) (e22 : f 22 = x) (e23 : f 23 = .int .i64 l.length) (e24 : f 24 = .int .i64 0)
    (h1 : gE key l = true → ∀ f H', H <+: H' → f 6 = .nilp → f 7 = .int .i64 9 → Q .ret f H')
    (h2 : gE key l = false → ∀ f H', H <+: H' → f 0 = .int .i64 key → f 1 = x → f 2 = y → Q .normal f H') : yY.wp Try.prog Q f H' := by
  unfold yY
  simp only [push_cast, ↓reduceIte, Nat.reduceEqDiff, reduceCtorEq, Nat.reduceAdd, Nat.reduceLT, Nat.reduceLeDiff]
  refine aJ (fun (i : Nat) f H' => H <+: H' ∧ i ≤ l.length ∧ f 0 = .int .i64 key ∧ f 1 = x ∧ f 2 = y ∧ f 22 = x ∧ f 23 = .int .i64 l.length ∧ f 24 = .int .i64 i ∧ gE key (l.take i) = false) (fun i => l.length - i) 0 ⟨hp, Nat.zero_le _, e0, e1, e2, e22, e23, e24, rfl⟩ ?_
  rintro i f H2 ⟨hp2, h3, e0, e1, e2, e22, e23, e24, hs⟩
  by_cases hi : i < l.length
  · have hi' : (i : Int) < l.length := by omega
    have ax : aF 4 x (.int .i64 (i : Int)) = some (ptk x i 0) := aO hx (by rw [List.length_map]; exact hi) _
    have lx : (l.map upA)[i]? = some (upA l[i]) := by simp [hi]
    have hs2 : gE key (l.take (i + 1)) = (gE key (l.take i) || decide ((l[i].f0.length : Int) < key)) := by
      unfold gE
      rw [List.take_succ_eq_append_getElem hi, List.any_append]
      simp
    have hmem : l[i] ∈ l := List.getElem_mem hi
    generalize l[i] = u at lx hs2 hmem
    have f1 : part true 4 0 (upA u) = some (upA u) := rfl
    have hlu : dE (bD u.f0) = some u.f0.length := by simp [bD, dE]
    have k0 : part false 1 0 (upA u) = some (bD u.f0) := rfl
    have pz : oI (.agg [.nils, .int .i64 0, .int .i64 0, .int .i64 0]) 0 [bD u.f0, .int .i64 u.f1.f0, .int .i64 u.f1.f1, .int .i64 u.f2] = upA u := rfl
    have cu : cells (upA u) = [bD u.f0, .int .i64 u.f1.f0, .int .i64 u.f1.f1, .int .i64 u.f2] := rfl
    by_cases hc : (u.f0.length : Int) < key
    · simp only [push_cast, ↓reduceIte, Nat.reduceEqDiff, reduceCtorEq, Nat.reduceAdd, Nat.reduceLT, Nat.reduceLeDiff, aB, aA, e0, e1, e2, e22, e23, e24, hi', ax, aW hx lx, hp2, f1, cu, GM, hlu, k0, pz, hc, decide_true]
      refine h1 ?_ _ _ (aQ hp2) rfl rfl
      exact List.any_eq_true.2 ⟨u, hmem, by simpa using hc⟩
    · simp only [push_cast, ↓reduceIte, Nat.reduceEqDiff, reduceCtorEq, Nat.reduceAdd, Nat.reduceLT, Nat.reduceLeDiff, aB, aA, e0, e1, e2, e22, e23, e24, hi', ax, aW hx lx, hp2, f1, cu, GM, hlu, k0, pz, hc, decide_false]
      refine ⟨i + 1, ⟨aQ hp2, hi, ?_, ?_⟩, by omega⟩
      · rw [aG (by omega) (by omega)]; simp
      · rw [hs2, hs]; simpa using hc
  · have hi' : ¬ (i : Int) < l.length := by omega
    simp only [push_cast, ↓reduceIte, Nat.reduceEqDiff, reduceCtorEq, Nat.reduceAdd, Nat.reduceLT, Nat.reduceLeDiff, e23, e24, hi']
    rw [List.take_of_length_le (by omega)] at hs
    exact h2 hs _ _ hp2 e0 e1 e2
structure Vd (N : Nat) (b : Bt) : Prop where
  wk : ∀ x ∈ b.keys, x.length < N
  wr : ∀ x ∈ b.rests, x.length < N
theorem GX {N : Nat} {b : Bt} {u : Upd} (hv : Vd N b) (hu : u.f0.length < N) : Vd N (jL b u) := by
  have h1 : (u.f0.take b.key.toNat).length < N := by rw [List.length_take]; omega
  have h2 : (u.f0.drop b.key.toNat).length < N := by rw [List.length_drop]; omega
  have k : Vd N (uE b (u.f0.take b.key.toNat)) := ⟨fun x hx => by
    rcases List.mem_append.1 hx with hx | hx
    · exact hv.wk x hx
    · rw [List.mem_singleton.1 hx]; exact h1, hv.wr⟩
  have r : ∀ b', Vd N b' → Vd N (lZ b' (u.f0.drop b.key.toNat)) := fun b' h => ⟨h.wk, fun x hx => by
    rcases List.mem_append.1 hx with hx | hx
    · exact h.wr x hx
    · rw [List.mem_singleton.1 hx]; exact h2⟩
  have t : ∀ b', Vd N b' → Vd N (iE b' u.f1 u.f2) := fun b' h => ⟨h.wk, h.wr⟩
  unfold jL
  split
  · exact t _ (r _ k)
  · split
    · exact t _ (r _ hv)
    · exact t _ hv
theorem jN {N : Nat} : ∀ (l : List Upd) (b : Bt), Vd N b → (∀ u ∈ l, u.f0.length < N) → Vd N (bK b l)
  | [], b, h, _ => h
  | u :: r, b, h, hl => jN r (jL b u) (GX h (hl u List.mem_cons_self)) fun v hv => hl v (List.mem_cons_of_mem _ hv)
theorem qW (b : Bt) (l : List Upd) (u : Upd) : bK b (l ++ [u]) = jL (bK b l) u := by simp [bK]
theorem GY {H0 H' : AH} {t : Nat} {b0 : Bt} {vs : List AV} {cl : List Upd} {f : AF} {Q : AE → AF → AH → Prop} (O : OBL H0 H' t (hdB b0) vs (lsB b0)) (G : Gs b0 []) (hv : Vd 1099511627776 b0) (hk0 : 0 ≤ b0.key) (hcl : cl.length < 1099511627776) (hs : ∀ u ∈ cl, u.f0.length < 1099511627776) (hk : ∀ u ∈ cl, b0.key ≤ u.f0.length)
    (e13 : f 13 = .ptr t 0 0) (e61 : f 61 = upsA cl) (e62 : f 62 = .int .i64 cl.length) (e63 : f 63 = .int .i64 0)
    (hQ : ∀ f H' vs, OBL H0 H' t (hdB (bK b0 cl)) vs (lsB (bK b0 cl)) → f 13 = .ptr t 0 0 → Q .normal f H') : yX.wp Try.prog Q f H' := by
  unfold yX
  simp only [push_cast, ↓reduceIte, Nat.reduceEqDiff, reduceCtorEq, Nat.reduceAdd, Nat.reduceLT, Nat.reduceLeDiff]
  refine aJ (fun (i : Nat) f H' => i ≤ cl.length ∧ f 13 = .ptr t 0 0 ∧ f 61 = upsA cl ∧ f 62 = .int .i64 cl.length ∧ f 63 = .int .i64 i ∧ ∃ vs, OBL H0 H' t (hdB (bK b0 (cl.take i))) vs (lsB (bK b0 (cl.take i)))) (fun i => cl.length - i) 0 ⟨Nat.zero_le _, e13, e61, e62, e63, vs, O⟩ ?_
  rintro i f H2 ⟨h3, e13, e61, e62, e63, vs, O⟩
  have hgs := nO (cl.take i) b0 [] G
  obtain ⟨k1, _, _, k4, _⟩ := kO (cl.take i) b0
  have hvd := jN (cl.take i) b0 hv (fun u hu => hs u (List.mem_of_mem_take hu))
  have htm : b0.times = [] := G.times
  by_cases hi : i < cl.length
  · have hi' : (i : Int) < cl.length := by omega
    have ax : aF 4 (upsA cl) (.int .i64 (i : Int)) = some (.lptr 4 (cl.map upA) i 0) := by simp [upsA, aF, nat?, hi]
    have lx : (cl.map upA)[i]? = some (upA cl[i]) := by simp [hi]
    have hsn : bK b0 (cl.take (i + 1)) = jL (bK b0 (cl.take i)) cl[i] := by rw [List.take_succ_eq_append_getElem hi, qW]
    have hmem : cl[i] ∈ cl := List.getElem_mem hi
    have hlt : (bK b0 (cl.take i)).times.length = i := by rw [k4, htm, List.nil_append, List.length_map, List.length_take]; omega
    generalize bK b0 (cl.take i) = b at hgs k1 hvd hsn O hlt
    generalize cl[i] = u at lx hsn hmem
    have f1 : part true 4 0 (upA u) = some (upA u) := rfl
    have pz : oI (.agg [.nils, .int .i64 0, .int .i64 0, .int .i64 0]) 0 [bD u.f0, .int .i64 u.f1.f0, .int .i64 u.f1.f1, .int .i64 u.f2] = upA u := rfl
    have cu : cells (upA u) = [bD u.f0, .int .i64 u.f1.f0, .int .i64 u.f1.f1, .int .i64 u.f2] := rfl
    simp only [push_cast, ↓reduceIte, Nat.reduceEqDiff, reduceCtorEq, Nat.reduceAdd, Nat.reduceLT, Nat.reduceLeDiff, aB, aA, e13, e61, e62, e63, hi', ax, lx, f1, cu, GM, pz]
    refine (NS u O.mono hgs (hs u hmem) (by rw [k1]; exact ⟨hk0, hk u hmem⟩) hvd.wk hvd.wr (by omega)).mono fun r H3 ⟨hr, vs', O3⟩ => ?_
    simp only [push_cast, ↓reduceIte, Nat.reduceEqDiff, reduceCtorEq, Nat.reduceAdd, Nat.reduceLT, Nat.reduceLeDiff, e13, e61, e62, e63]
    refine ⟨i + 1, ⟨hi, ?_, vs', ?_⟩, by omega⟩
    · rw [aG (by omega) (by omega)]; simp
    · rw [hsn]; exact O3
  · have hi' : ¬ (i : Int) < cl.length := by omega
    simp only [push_cast, ↓reduceIte, Nat.reduceEqDiff, reduceCtorEq, Nat.reduceAdd, Nat.reduceLT, Nat.reduceLeDiff, e13, e62, e63, hi']
    rw [List.take_of_length_le (by omega)] at O
    exact hQ _ _ _ O e13
theorem CI {H0 H : AH} {b : Bt} {s : AV} (hs : Own H0 H 2 s (b.since.map aX)) (hp : H0 <+: H) (h : lsB b = [(2, b.since.map aX), (1, []), (1, []), (1, []), (1, []), (2, []), (1, [])]) :
    OBL H0 (H ++ [.live 9 [.agg (hdB b ++ [s, .nils, .nils, .nils, .nils, .nils, .nils])]]) H.length (hdB b) [s, .nils, .nils, .nils, .nils, .nils, .nils] (lsB b) := by
  have low : ∀ (i : Nat) v u, [s, .nils, .nils, .nils, .nils, .nils, .nils][i]? = some v → idx v = some u → i = 0 ∧ v = s := fun i v u h1 h2 => by
    match i with
    | 0 => cases h1; exact ⟨rfl, rfl⟩
    | 1 | 2 | 3 | 4 | 5 | 6 => cases h1; cases h2
    | n + 7 => cases h1
  rw [h]
  refine ⟨aQ hp, hp.length_le, bC _ _ _, fun i v l h1 h2 => ?_, fun i j v w u hij h1 h2 hu hw => ?_, fun i v h1 hu => ?_, rfl⟩
  · match i with
    | 0 => cases h1; cases h2; exact hs.mono
    | 1 | 2 | 3 | 4 | 5 | 6 => cases h1; cases h2; exact .inl ⟨rfl, rfl⟩
    | n + 7 => cases h1
  · exact hij ((low i v u h1 hu).1.trans (low j w u h2 hw).1.symm)
  · obtain ⟨_, rfl⟩ := low i v _ h1 hu
    have := (hs.idx_lt hu).2
    omega
def NT (key : Int) (l : List Upd) (since : List Tm) (H : AH) (r : AV) (H' : AH) : Prop :=
  H <+: H' ∧ (eO key l since ≠ 0 → r = .tup [.nilp, .int .i64 (eO key l since)]) ∧ (eO key l since = 0 → ∃ t vs, r = .tup [.ptr t 0 0, .int .i64 0] ∧ OBL H H' t (hdB (fL key l since)) vs (lsB (fL key l since)))
theorem DW {key : Int} {x y z : AV} {l : List Upd} {since : List Tm} {H H' : AH} {f : AF} (hx : elems 4 x H = some (l.map upA)) (hl : l.length < 1099511627776) (hy : elems 2 y H = some (since.map aX)) (hsl : since.length < 1099511627776) (hz : elems 4 z H = some ((dK since l).map upA)) (hs : bB (dK since l))
    (hc : eO key l since = (bV (dK since l)).2) (hk : 0 ≤ key) (hsk : gE key l = false) (hp : H <+: H') (e0 : f 0 = .int .i64 key) (e1 : f 1 = x) (e2 : f 2 = y) (e11 : f 11 = z) : qU.wp Try.prog (EL [.t 6, .t 7] (NT key l since H)) f H' := by
  unfold qU
  have la := aS hx
  rw [List.length_map] at la
  have hadl := iG since l
  simp only [push_cast, ↓reduceIte, Nat.reduceEqDiff, reduceCtorEq, Nat.reduceAdd, Nat.reduceLT, Nat.reduceLeDiff, e11]
  (refine aC.look (DV z (dK since l) _ (bA hz hp) (by omega) hs) ?_; simp only [push_cast, ↓reduceIte, Nat.reduceEqDiff, reduceCtorEq, Nat.reduceAdd, Nat.reduceLT, Nat.reduceLeDiff, aB, aA, e0, e1, e2, tZ])
  by_cases h : (bV (dK since l)).2 = 0
  · have hb : fL key l since = bK (Bt.none_ key l.length since) (bV (dK since l)).1 := rfl
    obtain ⟨m1, m2⟩ := eN (dK since l)
    have m3 : ∀ u ∈ (bV (dK since l)).1, u.f0.length < 1099511627776 := fun u hu => by
      obtain ⟨v, hv, e, _⟩ := m2 u hu
      rw [e]; exact hs v hv
    have m4 : ∀ u ∈ (bV (dK since l)).1, key ≤ u.f0.length := fun u hu => by
      obtain ⟨v, hv, e, _⟩ := m2 u hu
      obtain ⟨w, hw, e2⟩ := sB hv
      rw [e, e2]
      have := List.any_eq_false.1 hsk w hw
      simpa using this
    rw [h] at hc
    generalize (bV (dK since l)).1 = cl at hb m1 m3 m4
    simp only [push_cast, ↓reduceIte, Nat.reduceEqDiff, reduceCtorEq, Nat.reduceAdd, Nat.reduceLT, Nat.reduceLeDiff, h, e1, e2, la]
    refine (yG y since H' (bA hy hp) hsl).mono fun r H2 ⟨ho, hp2⟩ => ?_
    have pr := dJ ho
    have hcl : dE (upsA cl) = some cl.length := by simp [upsA, dE]
    have ho2 : Own H H2 2 r (since.map aX) := by
      rcases ho with h | ⟨t, ex, ht, rfl, ho⟩
      · exact .inl h
      · exact .inr ⟨t, ex, Nat.le_trans hp.length_le ht, rfl, ho⟩
    have O := CI (b := Bt.none_ key l.length since) ho2 (hp.trans hp2) rfl
    have G := yI key l.length since
    have hbx : hdB (Bt.none_ key l.length since) ++ [r, AV.nils, AV.nils, AV.nils, AV.nils, AV.nils, AV.nils] = [.int .i64 key, .int .i64 l.length, r, AV.nils, AV.nils, AV.nils, AV.nils, AV.nils, AV.nils] := rfl
    rw [hbx] at O
    have hcc : cells (.agg [.int .i64 key, .int .i64 l.length, r, AV.nils, AV.nils, AV.nils, AV.nils, AV.nils, AV.nils]) = [.int .i64 key, .int .i64 l.length, r, AV.nils, AV.nils, AV.nils, AV.nils, AV.nils, AV.nils] := rfl
    have hcn : ∀ k : IntKind, ∀ n, cX (.int k n) = true := fun _ _ => rfl
    have hcz : cX .nils = true := rfl
    simp only [push_cast, ↓reduceIte, Nat.reduceEqDiff, reduceCtorEq, Nat.reduceAdd, Nat.reduceLT, Nat.reduceLeDiff, aB, aA, pr.1, pr.2.1, hcc, hcn, hcz, hcl]
    rw [if_pos (by rcases ho with ⟨rfl, _⟩ | ⟨t, ex, _, rfl, _⟩ <;> rfl)]
    simp only [push_cast, ↓reduceIte, Nat.reduceEqDiff, reduceCtorEq, Nat.reduceAdd, Nat.reduceLT, Nat.reduceLeDiff, aB, aA, pr.1, pr.2.1, hcc, hcn, hcz, hcl]
    refine GY O G ⟨fun x h => absurd h List.not_mem_nil, fun x h => absurd h List.not_mem_nil⟩ hk (by omega) m3 m4 (by rfl) (by rfl) (by rfl) (by rfl) fun f H' vs O' e13 => ?_
    simp only [push_cast, ↓reduceIte, Nat.reduceEqDiff, reduceCtorEq, Nat.reduceAdd, Nat.reduceLT, Nat.reduceLeDiff, e13]
    rw [← hb] at O'
    exact ⟨O'.pre, fun h => absurd hc h, fun _ => ⟨_, vs, rfl, O'⟩⟩
  · have := yW _ h
    simp only [push_cast, ↓reduceIte, Nat.reduceEqDiff, reduceCtorEq, Nat.reduceAdd, Nat.reduceLT, Nat.reduceLeDiff, h]
    exact ⟨hp, fun _ => by rw [hc], fun h0 => absurd (hc.symm.trans h0) h⟩
theorem KI (key : Int) (x y : AV) (l : List Upd) (since : List Tm) (H : AH) (hx : elems 4 x H = some (l.map upA)) (hl : l.length < 1099511627776) (hs : bB l) (hy : elems 2 y H = some (since.map aX)) (hsl : since.length < 1099511627776) (hy2 : since ≠ [] → y = fK since) :
    aC Try.prog 18 [.int .i64 key, x, y] H (NT key l since H) := by
  refine aN c18 (by simp [F18]) ?_
  unfold F18
  have err : ∀ c H', c ≠ 0 → eO key l since = c → H <+: H' → NT key l since H (.tup [.nilp, .int .i64 c]) H' := fun c H' h0 h1 hp => ⟨hp, fun _ => by rw [h1], fun h2 => absurd (h1.symm.trans h2) h0⟩
  have one : (key < 0 ∨ key > 16) → eO key l since = 1 := fun h => by rw [eO, if_pos h]
  have la := aS hx
  rw [List.length_map] at la
  have lb := aS hy
  rw [List.length_map] at lb
  by_cases h1 : key < 0
  · simp only [push_cast, ↓reduceIte, Nat.reduceEqDiff, reduceCtorEq, Nat.reduceAdd, Nat.reduceLT, Nat.reduceLeDiff, h1, decide_true]
    exact err 1 H (by decide) (one (.inl h1)) (List.prefix_refl _)
  by_cases h2 : key > 16
  · simp only [push_cast, ↓reduceIte, Nat.reduceEqDiff, reduceCtorEq, Nat.reduceAdd, Nat.reduceLT, Nat.reduceLeDiff, h1, h2, decide_true, decide_false]
    exact err 1 H (by decide) (one (.inr h2)) (List.prefix_refl _)
  have hc0 : eO key l since = if gE key l = true then 9 else if eM since ≠ 0 then eM since else (bV (dK since l)).2 := by rw [eO, if_neg (by omega)]
  simp only [push_cast, ↓reduceIte, Nat.reduceEqDiff, reduceCtorEq, Nat.reduceAdd, Nat.reduceLT, Nat.reduceLeDiff, h1, h2, decide_false, la]
  refine GW (x := x) (y := y) (l := l) (key := key) hx (List.prefix_refl _) hl rfl rfl rfl rfl rfl rfl (fun hk f H' hp e6 e7 => ?_) (fun hk f H' hp e0 e1 e2 => ?_)
  · simp only [push_cast, ↓reduceIte, Nat.reduceEqDiff, reduceCtorEq, Nat.reduceAdd, Nat.reduceLT, Nat.reduceLeDiff, e6, e7]
    exact err 9 _ (by decide) (by rw [hc0, if_pos hk]) hp
  rw [hk, if_neg (by decide)] at hc0
  simp only [push_cast, ↓reduceIte, Nat.reduceEqDiff, reduceCtorEq, Nat.reduceAdd, Nat.reduceLT, Nat.reduceLeDiff, e0, e1, e2]
  (refine aC.look (yU y since _ (bA hy hp) hsl) ?_; simp only [push_cast, ↓reduceIte, Nat.reduceEqDiff, reduceCtorEq, Nat.reduceAdd, Nat.reduceLT, Nat.reduceLeDiff, aB, aA, e0, e1, e2])
  by_cases h3 : eM since = 0
  · rw [if_neg (by simpa using h3)] at hc0
    by_cases h4 : since = []
    · have e : dK since l = l := by rw [dK, if_pos h4]
      have lb0 : ¬ ((since.length : Nat) : Int) > 0 := by rw [h4]; decide
      simp only [push_cast, ↓reduceIte, Nat.reduceEqDiff, reduceCtorEq, Nat.reduceAdd, Nat.reduceLT, Nat.reduceLeDiff, h3, lb, lb0, decide_false, e1]
      unfold qT
      simp only [push_cast, ↓reduceIte, Nat.reduceEqDiff, reduceCtorEq, Nat.reduceAdd, Nat.reduceLT, Nat.reduceLeDiff]
      exact DW hx hl hy hsl (z := x) (by rw [e]; exact hx) (by rw [e]; exact hs) hc0 (by omega) hk hp (by exact e0) (by exact e1) (by exact e2) (by rfl)
    · have e : dK since l = l.map (yL since) := by rw [dK, if_neg h4]
      have lb0 : ((since.length : Nat) : Int) > 0 := by have := List.length_pos_iff.2 h4; omega
      rw [hy2 h4] at e2
      have lb2 : dE (fK since) = some since.length := by simp [fK, dE]
      rw [hy2 h4]
      simp only [push_cast, ↓reduceIte, Nat.reduceEqDiff, reduceCtorEq, Nat.reduceAdd, Nat.reduceLT, Nat.reduceLeDiff, h3, lb2, lb0, decide_true, e1, e2]
      unfold qT
      simp only [push_cast, ↓reduceIte, Nat.reduceEqDiff, reduceCtorEq, Nat.reduceAdd, Nat.reduceLT, Nat.reduceLeDiff, e1, e2]
      (refine aC.look (nQ x l since _ (bA hx hp) hl hsl hs) ?_; simp only [push_cast, ↓reduceIte, Nat.reduceEqDiff, reduceCtorEq, Nat.reduceAdd, Nat.reduceLT, Nat.reduceLeDiff, aB, aA, e0, e1, e2])
      refine DW hx hl (hy2 h4 ▸ hy) hsl (z := upsA (l.map (yL since))) (by rw [e]; rfl) ?_ hc0 (by omega) hk hp (by exact e0) (by exact e1) (by exact e2) (by simp only [push_cast, ↓reduceIte, Nat.reduceEqDiff, reduceCtorEq, Nat.reduceAdd, Nat.reduceLT, Nat.reduceLeDiff])
      rw [e]
      intro u hu
      obtain ⟨v, hv, rfl⟩ := List.mem_map.1 hu
      exact hs v hv
  · rw [if_pos h3] at hc0
    simp only [push_cast, ↓reduceIte, Nat.reduceEqDiff, reduceCtorEq, Nat.reduceAdd, Nat.reduceLT, Nat.reduceLeDiff, h3]
    exact err _ _ h3 hc0 hp
theorem qX (n : Nat) (b : Bt) : cl n (dL b) = true := by
  have h1 : ∀ l, cl n (fK l) = true := fun l => tW (NG n) l
  have h2 : ∀ l, cl n (jI l) = true := fun l => tW (rY n) l
  have h3 : ∀ l, cl n (jZ l) = true := fun l => tW (fun _ => rfl) l
  simp [dL, tY, cl, cls, h1, h2, h3]
def qY (key : Int) (l : List Upd) (since : List Tm) : AV := if eO key l since = 0 then .tup [dL (fL key l since), .int .i64 0] else .tup [.nilp, .int .i64 (eO key l since)]
theorem OBL.batch {H0 H : AH} {t : Nat} {b : Bt} {vs : List AV} (O : OBL H0 H t (hdB b) vs (lsB b)) : ∃ H', cU H (.ptr t 0 0) H' (dL b) ∧ H0 <+: H' := by
  obtain ⟨H', h1, h2⟩ := O.frz
  have hl : (hdB b).length + vs.length = 9 := by rw [O.len]; rfl
  rw [hl] at h1
  exact ⟨H', h1, h2⟩
theorem yZ (key : Int) (x y : AV) (l : List Upd) (since : List Tm) (H : AH) (hx : elems 4 x H = some (l.map upA)) (hl : l.length < 1099511627776) (hs : bB l) (hy : elems 2 y H = some (since.map aX)) (hsl : since.length < 1099511627776) (hy2 : since ≠ [] → y = fK since) :
    aC Try.prog 18 [.int .i64 key, x, y] H fun r H' => r = qY key l since ∧ H' = H :=
  (aC.gc (R := fun x _ => x = qY key l since) (((KI key x y l since H hx hl hs hy hsl hy2).weak (R' := fun r H' => H <+: H' ∧ r = qY key l since) fun r H' ⟨hp, h1, h2⟩ => by
    unfold qY
    by_cases h : eO key l since = 0
    · obtain ⟨t, vs, rfl, O⟩ := h2 h
      obtain ⟨H2, w, hp2⟩ := O.batch
      rw [if_pos h]
      exact ⟨_, H2, cU.tup (i := 0) (vs := [.ptr t 0 0, .int .i64 0]) w rfl, hp2, rfl⟩
    · rw [if_neg h]
      exact ⟨_, H', cU.refl _ _, hp, h1 h⟩).mono fun x H' ⟨hp, e⟩ => ⟨hp, by
        rw [e]; unfold qY
        have := qX H.length (fL key l since)
        split <;> simp [cl, cls, this], e⟩)).mono fun x H' ⟨e, _, e2⟩ => ⟨e2, e⟩
end Go.Eng
end
section
set_option linter.unusedVariables false
set_option linter.unusedSimpArgs false
set_option maxRecDepth 10000
namespace Go.Eng
open Go Go.Proofs
theorem nY {H : AH} {sz t : Nat} {e e' : AV} {ex : Bool} (h : t = H.length) : elems sz (.ref sz t 0 2 2 ex) (H ++ [.live sz [e, e']]) = some [e, e'] := by
  subst h
  simp [elems, bC]
theorem gF {sz i : Nat} {l : List AV} (h : i < l.length) (κ : IntKind) : aF sz (.list sz l false) (.int κ (i : Int)) = some (.lptr sz l i 0) := by simp [aF, nat?, h]
def kA (r : List Val) (ts : List (Tm × Int)) : List Upd := ts.map fun q => ⟨r, q.1, q.2⟩
theorem nZ (r : List Val) (ts : List (Tm × Int)) : (kA r ts).length = ts.length := by simp [kA]
def zA : AC := (.block 2 (.loop (.seq (.seq (.ops [oo 41 (.mov (.t 11)), oo 42 (.mov (.t 10)), oo 43 (.bin .lss (.t 41) (.t 42))]) (.cond (.t 43) .skip (.exit 2))) (.seq (.block 3 (.ops [oo 81 (.mov (.t 5)), oo 82 (.mov (.t 0)), oo 83 (.nilc (.t 82)), oo 84 (.faddr 3 (.t 83)), oo 85 (.load false 1 (.t 84)), oo 86 (.mov (.t 1)), oo 87 (.iaddr 1 (.t 85) (.t 86)), oo 88 (.load false 1 (.t 87)), oo 89 (.mov (.t 0)), oo 90 (.nilc (.t 89)), oo 91 (.faddr 5 (.t 90)), oo 92 (.load false 1 (.t 91)), oo 93 (.mov (.t 8)), oo 94 (.iaddr 1 (.t 92) (.t 93)), oo 95 (.load false 1 (.t 94)), oo 96 (.bsl 1 2 .nils [(0, (.t 88)), (1, (.t 95))]), oo 98 (.mov (.t 0)), oo 99 (.nilc (.t 98)), oo 100 (.faddr 7 (.t 99)), oo 101 (.load false 1 (.t 100)), oo 102 (.mov (.t 11)), oo 103 (.iaddr 2 (.t 101) (.t 102)), oo 104 (.load true 2 (.t 103)), oo 105 (.mov (.t 0)), oo 106 (.nilc (.t 105)), oo 107 (.faddr 8 (.t 106)), oo 108 (.load false 1 (.t 107)), oo 109 (.mov (.t 11)), oo 110 (.iaddr 1 (.t 108) (.t 109)), oo 111 (.load false 1 (.t 110)), oq 97 (.call 76 [(.t 96)]), oo 112 (.build [.nils, (.int .i64 0), (.int .i64 0), (.int .i64 0)] [(0, 1, (.t 97)), (1, 2, (.t 104)), (3, 1, (.t 111))]), oo 113 (.bsl 4 1 (.agg [.nils, (.int .i64 0), (.int .i64 0), (.int .i64 0)]) [(0, (.t 112))]), oo 114 (.app 4 48 (.t 81) (.t 113)), oo 115 (.mov (.t 114)), oo 46 (.mov (.t 81)), oo 47 (.mov (.t 82)), oo 48 (.mov (.t 83)), oo 49 (.mov (.t 84)), oo 50 (.mov (.t 85)), oo 51 (.mov (.t 86)), oo 52 (.mov (.t 87)), oo 53 (.mov (.t 88)), oo 54 (.mov (.t 89)), oo 55 (.mov (.t 90)), oo 56 (.mov (.t 91)), oo 57 (.mov (.t 92)), oo 58 (.mov (.t 93)), oo 59 (.mov (.t 94)), oo 60 (.mov (.t 95)), oo 61 (.mov (.t 96)), oo 63 (.mov (.t 98)), oo 64 (.mov (.t 99)), oo 65 (.mov (.t 100)), oo 66 (.mov (.t 101)), oo 67 (.mov (.t 102)), oo 68 (.mov (.t 103)), oo 69 (.mov (.t 104)), oo 70 (.mov (.t 105)), oo 71 (.mov (.t 106)), oo 72 (.mov (.t 107)), oo 73 (.mov (.t 108)), oo 74 (.mov (.t 109)), oo 75 (.mov (.t 110)), oo 76 (.mov (.t 111)), oo 62 (.mov (.t 97)), oo 77 (.mov (.t 112)), oo 78 (.mov (.t 113)), oo 79 (.mov (.t 114)), oo 5 (.mov (.t 115))])) (.ops [oo 44 (.mov (.t 11)), oo 45 (.bin .add (.t 44) (.v (.int .i64 1))), oo 11 (.mov (.t 45))])))))
def zB : AC := (.block 0 (.loop (.seq (.seq (.ops [oo 26 (.mov (.t 8)), oo 27 (.mov (.t 7)), oo 28 (.bin .lss (.t 26) (.t 27))]) (.cond (.t 28) .skip (.exit 0))) (.seq (.block 1 (.seq (.ops [oo 32 (.mov (.t 0)), oo 33 (.nilc (.t 32)), oo 34 (.faddr 6 (.t 33)), oo 35 (.load false 1 (.t 34)), oo 36 (.mov (.t 8)), oo 37 (.call 75 [(.t 35), (.t 36)]), oo 31 (.mov (.t 37)), oo 38 (.ext (.t 31) 0), oo 39 (.ext (.t 31) 1), oo 9 (.mov (.t 38)), oo 10 (.mov (.t 39))]) (.seq (.ops [oo 40 (.mov (.t 9)), oo 11 (.mov (.t 40))]) (zA)))) (.ops [oo 29 (.mov (.t 8)), oo 30 (.bin .add (.t 29) (.v (.int .i64 1))), oo 8 (.mov (.t 30))])))))
def F31 : AFn := ⟨81, 2, [.t 4], (.seq (.ops [oo 4 (.mov (.v .nils))]) (.seq (.seq (.ops [oo 12 (.mov (.t 0)), oo 13 (.mov (.t 1)), oo 14 (.call 74 [(.t 12), (.t 13)]), oo 15 (.un .not (.t 14))]) (.cond (.t 15) (.seq (.ops [oo 4 (.mov (.v .nils))]) .ret) .skip)) (.seq (.ops [oo 5 (.mov (.v .nils))]) (.seq (.ops [oo 17 (.mov (.t 0)), oo 18 (.nilc (.t 17)), oo 19 (.faddr 4 (.t 18)), oo 20 (.load false 1 (.t 19)), oo 21 (.mov (.t 1)), oo 22 (.call 75 [(.t 20), (.t 21)]), oo 16 (.mov (.t 22)), oo 23 (.ext (.t 16) 0), oo 24 (.ext (.t 16) 1), oo 6 (.mov (.t 23)), oo 7 (.mov (.t 24))]) (.seq (.seq (.ops [oo 25 (.mov (.t 6)), oo 8 (.mov (.t 25))]) (zB)) (.seq (.ops [oo 80 (.mov (.t 5)), oo 4 (.mov (.t 80))]) .ret))))))⟩
theorem c31 : aD Try.prog 31 = some F31 := by kernel_rfl
theorem KJ {H H' : AH} {b : Bt} {i k lo hi : Nat} {key rest : List Val} {ts : List (Tm × Int)} {out : List Upd} {f : AF} {Q : AE → AF → AH → Prop} (hp : H <+: H') (hk : b.keys[i]? = some key) (hr : b.rests[k]? = some rest) (hkl : key.length + rest.length < 1099511627776)
    (ht : ∀ m (h : m < ts.length), b.times[lo + m]? = some ts[m].1 ∧ b.ws[lo + m]? = some ts[m].2) (hb : out.length + ts.length < 1099511627776) (hhi : hi = lo + ts.length) (hlo : hi < 1099511627776) (e0 : f 0 = dL b) (e1 : f 1 = .int .i64 i) (e8 : f 8 = .int .i64 k) (e10 : f 10 = .int .i64 hi) (e11 : f 11 = .int .i64 lo) (ho : Own H H' 4 (f 5) (out.map upA))
    (hQ : ∀ f2 H', H <+: H' → f2 0 = dL b → f2 1 = .int .i64 i → f2 7 = f 7 → f2 8 = .int .i64 k → Own H H' 4 (f2 5) ((out ++ kA (key ++ rest) ts).map upA) → Q .normal f2 H') : zA.wp Try.prog Q f H' := by
  unfold zA
  simp only [push_cast, ↓reduceIte, Nat.reduceEqDiff, reduceCtorEq, Nat.reduceAdd, Nat.reduceLT, Nat.reduceLeDiff]
  generalize h7 : f 7 = z7 at hQ
  refine aJ (fun (j : Nat) f H' => H <+: H' ∧ lo ≤ j ∧ j ≤ hi ∧ f 0 = dL b ∧ f 1 = .int .i64 i ∧ f 7 = z7 ∧ f 8 = .int .i64 k ∧ f 10 = .int .i64 hi ∧ f 11 = .int .i64 j ∧ Own H H' 4 (f 5) ((out ++ kA (key ++ rest) (ts.take (j - lo))).map upA)) (fun j => hi - j) lo ⟨hp, Nat.le_refl _, by omega, e0, e1, h7, e8, e10, e11, by simpa [kA] using ho⟩ ?_
  clear e0 e1 e8 e10 e11 ho h7 hp
  rintro j f H2 ⟨hp, h2, h3, e0, e1, e7, e8, e10, e11, ho⟩
  generalize hv : f 5 = v at ho
  obtain ⟨m, hm⟩ : ∃ m, j = lo + m := ⟨j - lo, by omega⟩
  have hm2 : j - lo = m := by omega
  have hm3 : j + 1 - lo = m + 1 := by omega
  rw [hm2] at ho
  by_cases hj : j < hi
  · have hml : m < ts.length := by omega
    obtain ⟨t1, t2⟩ := ht m hml
    rw [← hm] at t1 t2
    have hts : kA (key ++ rest) (ts.take (m + 1)) = kA (key ++ rest) (ts.take m) ++ [⟨key ++ rest, ts[m].1, ts[m].2⟩] := by rw [List.take_succ_eq_append_getElem hml]; unfold kA; rw [List.map_append]; rfl
    generalize ts[m] = q at t1 t2 hts
    have hi' : (j : Int) < (hi : Int) := by omega
    have hlen : ((out ++ kA (key ++ rest) (ts.take m)).map upA).length = out.length + m := by rw [List.length_map, List.length_append, nZ, List.length_take]; omega
    have a1 : aF 1 (jI b.keys) (.int .i64 (i : Int)) = some (.lptr 1 (b.keys.map bD) i 0) := gF (by rw [List.length_map]; exact (List.getElem?_eq_some_iff.1 hk).1) _
    have a2 : aF 1 (jI b.rests) (.int .i64 (k : Int)) = some (.lptr 1 (b.rests.map bD) k 0) := gF (by rw [List.length_map]; exact (List.getElem?_eq_some_iff.1 hr).1) _
    have a3 : aF 2 (fK b.times) (.int .i64 (j : Int)) = some (.lptr 2 (b.times.map aX) j 0) := gF (by rw [List.length_map]; exact (List.getElem?_eq_some_iff.1 t1).1) _
    have a4 : aF 1 (jZ b.ws) (.int .i64 (j : Int)) = some (.lptr 1 (b.ws.map gW) j 0) := gF (by rw [List.length_map]; exact (List.getElem?_eq_some_iff.1 t2).1) _
    have l1 : (b.keys.map bD)[i]? = some (bD key) := by rw [List.getElem?_map, hk]; rfl
    have l2 : (b.rests.map bD)[k]? = some (bD rest) := by rw [List.getElem?_map, hr]; rfl
    have l3 : (b.times.map aX)[j]? = some (aX q.1) := by rw [List.getElem?_map, t1]; rfl
    have l4 : (b.ws.map gW)[j]? = some (.int .i64 q.2) := by rw [List.getElem?_map, t2]; rfl
    have hfl : [key, rest].flatten = key ++ rest := by simp
    have pt : part true 2 0 (aX q.1) = some (aX q.1) := rfl
    have k1 : cells (aX q.1) = [.int .i64 q.1.f0, .int .i64 q.1.f1] := rfl
    simp only [push_cast, ↓reduceIte, Nat.reduceEqDiff, reduceCtorEq, Nat.reduceAdd, Nat.reduceLT, Nat.reduceLeDiff, aB, aA, e0, e1, e7, e8, e10, e11, hi', a1, a2, a3, a4, l1, l2, l3, l4, mI, mH, pt, k1, GM, dL, tY, hv]
    (refine aC.look (KF _ [key, rest] _ (nY rfl) (by simp) (by simpa using hkl)) ?_; simp only [push_cast, ↓reduceIte, Nat.reduceEqDiff, reduceCtorEq, Nat.reduceAdd, Nat.reduceLT, Nat.reduceLeDiff, aB, aA, e0, e1, e7, e8, e10, e11, hv, aX, bD, hfl])
    refine ho.mono.mono.xapp (aQ (aQ hp)) (xs := [upA ⟨key ++ rest, q.1, q.2⟩]) (dQ (by simp)) (by rw [hlen]; simp only [List.length_cons, List.length_nil]; omega) fun v' H4 ho' hp' => ?_
    simp only [push_cast, ↓reduceIte, Nat.reduceEqDiff, reduceCtorEq, Nat.reduceAdd, Nat.reduceLT, Nat.reduceLeDiff, e0, e1, e7, e8, e10, e11]
    refine ⟨j + 1, ⟨hp', by omega, hj, rfl, ?_, ?_⟩, by omega⟩
    · rw [aG (by omega) (by omega)]; simp
    · rw [hm3, hts, ← List.append_assoc, List.map_append]; exact ho'
  · have hi' : ¬ (j : Int) < (hi : Int) := by omega
    simp only [push_cast, ↓reduceIte, Nat.reduceEqDiff, reduceCtorEq, Nat.reduceAdd, Nat.reduceLT, Nat.reduceLeDiff, e10, e11, hi']
    rw [List.take_of_length_le (by omega)] at ho
    exact hQ _ _ hp e0 e1 e7 e8 (by rw [← hv] at ho; exact ho)
theorem KL {H H' : AH} {b : Bt} {i lo hi : Nat} {key : List Val} {rs : List Rst} {f : AF} {Q : AE → AF → AH → Prop} (hp : H <+: H') (hk : b.keys[i]? = some key) (hrl : b.rends.length < 1099511627776) (hr : ∀ m (h : m < rs.length), b.rests[lo + m]? = some rs[m].1 ∧ lo + m < b.rends.length ∧ key.length + rs[m].1.length < 1099511627776)
    (hts : ∀ m (h : m < rs.length), ∃ l2 : Nat, nN b.rends (lo + m) = ((l2 : Int), ((l2 + rs[m].2.length : Nat) : Int)) ∧ l2 + rs[m].2.length < 1099511627776 ∧ ∀ j (h2 : j < rs[m].2.length), b.times[l2 + j]? = some rs[m].2[j].1 ∧ b.ws[l2 + j]? = some rs[m].2[j].2)
    (hb : (rs.flatMap (rZ key)).length < 1099511627776) (hhi : hi = lo + rs.length) (hlo : hi < 1099511627776) (e0 : f 0 = dL b) (e1 : f 1 = .int .i64 i) (e7 : f 7 = .int .i64 hi) (e8 : f 8 = .int .i64 lo) (ho : Own H H' 4 (f 5) [])
    (hQ : ∀ f2 H', H <+: H' → Own H H' 4 (f2 5) ((rs.flatMap (rZ key)).map upA) → Q .normal f2 H') : zB.wp Try.prog Q f H' := by
  unfold zB
  simp only [push_cast, ↓reduceIte, Nat.reduceEqDiff, reduceCtorEq, Nat.reduceAdd, Nat.reduceLT, Nat.reduceLeDiff]
  refine aJ (fun (j : Nat) f H' => H <+: H' ∧ lo ≤ j ∧ j ≤ hi ∧ f 0 = dL b ∧ f 1 = .int .i64 i ∧ f 7 = .int .i64 hi ∧ f 8 = .int .i64 j ∧ Own H H' 4 (f 5) (((rs.take (j - lo)).flatMap (rZ key)).map upA)) (fun j => hi - j) lo ⟨hp, Nat.le_refl _, by omega, e0, e1, e7, e8, by simpa using ho⟩ ?_
  clear e0 e1 e8 e7 ho hp
  rintro j f H2 ⟨hp, h2, h3, e0, e1, e7, e8, ho⟩
  obtain ⟨m, hm⟩ : ∃ m, j = lo + m := ⟨j - lo, by omega⟩
  have hm2 : j - lo = m := by omega
  have hm3 : j + 1 - lo = m + 1 := by omega
  rw [hm2] at ho
  by_cases hj : j < hi
  · have hml : m < rs.length := by omega
    obtain ⟨r1, r2, r3⟩ := hr m hml
    obtain ⟨l2, s1, s2, s3⟩ := hts m hml
    rw [← hm] at r1 r2 s1
    have htk : (rs.take (m + 1)).flatMap (rZ key) = (rs.take m).flatMap (rZ key) ++ kA (key ++ rs[m].1) rs[m].2 := by
      rw [List.take_succ_eq_append_getElem hml, List.flatMap_append, List.flatMap_cons, List.flatMap_nil, List.append_nil]
      rfl
    have hle : ((rs.take (m + 1)).flatMap (rZ key)).length ≤ (rs.flatMap (rZ key)).length := by
      have : (rs.take (m + 1) ++ rs.drop (m + 1)).flatMap (rZ key) = rs.flatMap (rZ key) := by rw [List.take_append_drop]
      rw [← this, List.flatMap_append, List.length_append]
      omega
    rw [htk, List.length_append, nZ] at hle
    generalize rs[m] = y at r1 r3 s1 s2 s3 htk hle
    have hi' : (j : Int) < (hi : Int) := by omega
    obtain ⟨h2i, hh2⟩ : ∃ h2i, h2i = l2 + y.2.length := ⟨_, rfl⟩
    rw [← hh2] at s1 s2
    simp only [push_cast, ↓reduceIte, Nat.reduceEqDiff, reduceCtorEq, Nat.reduceAdd, Nat.reduceLT, Nat.reduceLeDiff, aB, aA, e0, e1, e7, e8, hi', dL, tY]
    (refine aC.look (DS b.rends j r2 hrl _) ?_; simp only [push_cast, ↓reduceIte, Nat.reduceEqDiff, reduceCtorEq, Nat.reduceAdd, Nat.reduceLT, Nat.reduceLeDiff, aB, aA, e0, e1, e7, e8, s1, dL, tY])
    refine KJ (b := b) (i := i) (k := j) (lo := l2) (hi := h2i) (key := key) (rest := y.1) (ts := y.2) (out := (rs.take m).flatMap (rZ key)) hp hk r1 r3 s3 (by omega) hh2 s2 (by exact e0) (by exact e1) (by exact e8) (by rfl) (by rfl) (by exact ho) fun f2 H3 hp3 g0 g1 g7 g8 ho3 => ?_
    simp only [push_cast, ↓reduceIte, Nat.reduceEqDiff, reduceCtorEq, Nat.reduceAdd, Nat.reduceLT, Nat.reduceLeDiff, g0, g1, g7, g8, e7]
    refine ⟨j + 1, ⟨hp3, by omega, hj, rfl, ?_, ?_⟩, by omega⟩
    · rw [aG (by omega) (by omega)]; simp
    · rw [hm3, htk]; exact ho3
  · have hi' : ¬ (j : Int) < (hi : Int) := by omega
    simp only [push_cast, ↓reduceIte, Nat.reduceEqDiff, reduceCtorEq, Nat.reduceAdd, Nat.reduceLT, Nat.reduceLeDiff, e7, e8, hi']
    rw [List.take_of_length_le (by omega)] at ho
    exact hQ _ _ hp ho
theorem sC {b : Bt} {g : Gr} (G : Gs b g) : b.keys.length = g.length ∧ b.kends.length = g.length := by
  rw [G.kends, G.keys, mB, List.length_map, List.length_map]; exact ⟨rfl, rfl⟩
theorem KM {b : Bt} {g : Gr} (G : Gs b g) {i : Nat} (hi : i < g.length) : ∃ lo hi2 : Nat, nN b.kends i = ((lo : Int), (hi2 : Int)) ∧ hi2 = lo + g[i].2.length ∧ hi2 ≤ b.rests.length ∧ b.keys[i]? = some g[i].1 ∧
    ∀ m (h : m < g[i].2.length), b.rests[lo + m]? = some g[i].2[m].1 ∧ ∃ l2 : Nat, nN b.rends (lo + m) = ((l2 : Int), ((l2 + g[i].2[m].2.length : Nat) : Int)) ∧ l2 + g[i].2[m].2.length ≤ b.times.length ∧ ∀ j (h2 : j < g[i].2[m].2.length), b.times[l2 + j]? = some g[i].2[m].2[j].1 ∧ b.ws[l2 + j]? = some g[i].2[m].2[j].2 := by
  have hs := nP (g.map (·.2.length)) i (by rw [List.length_map]; exact hi)
  rw [← G.kends] at hs
  have hle := mF (fun x : List Val × List Rst => x.2) g i hi
  have hgm : (g.map (·.2.length))[i]'(by rw [List.length_map]; exact hi) = g[i].2.length := by rw [List.getElem_map]
  rw [hgm, ← List.map_take] at hs
  generalize hlo : ((g.take i).map (·.2.length)).sum = lo at hs hle
  refine ⟨lo, lo + g[i].2.length, hs, rfl, by rw [G.rests, List.length_map]; exact hle, by rw [G.keys, List.getElem?_map, List.getElem?_eq_getElem hi]; rfl, fun m hm => ?_⟩
  have hfg := mE (fun x : List Val × List Rst => x.2) g i m hi hm
  rw [hlo, List.getElem?_eq_getElem hm] at hfg
  have hml : lo + m < (g.flatMap (·.2)).length := (List.getElem?_eq_some_iff.1 hfg).1
  have hmg : (g.flatMap (·.2))[lo + m] = g[i].2[m] := (List.getElem?_eq_some_iff.1 hfg).2
  refine ⟨by rw [G.rests, List.getElem?_map, hfg]; rfl, ?_⟩
  have hs2 := nP ((g.flatMap (·.2)).map (·.2.length)) (lo + m) (by rw [List.length_map]; exact hml)
  rw [← G.rends] at hs2
  have hle2 := mF (fun y : Rst => y.2) (g.flatMap (·.2)) (lo + m) hml
  have hgm2 : ((g.flatMap (·.2)).map (·.2.length))[lo + m]'(by rw [List.length_map]; exact hml) = g[i].2[m].2.length := by rw [List.getElem_map, hmg]
  rw [hgm2, ← List.map_take] at hs2
  rw [hmg] at hle2
  have hfg2 := fun j hj => mE (fun y : Rst => y.2) (g.flatMap (·.2)) (lo + m) j hml hj
  simp only [hmg] at hfg2
  generalize (((g.flatMap (·.2)).take (lo + m)).map (·.2.length)).sum = l2 at hs2 hle2 hfg2
  refine ⟨l2, hs2, by rw [G.times, List.length_map]; exact hle2, fun j hj => ?_⟩
  have := hfg2 j hj
  rw [List.getElem?_eq_getElem hj] at this
  exact ⟨by rw [G.times, List.getElem?_map, this]; rfl, by rw [G.ws, List.getElem?_map, this]; rfl⟩
theorem sD (k : List Val) : ∀ rs : List Rst, (rs.flatMap (rZ k)).length = (rs.flatMap (·.2)).length
  | [] => rfl
  | y :: r => by
    have := sD k r
    simp only [List.flatMap_cons, List.length_append, this]
    simp [rZ]
theorem sE : ∀ g : Gr, (hP g).length = ((g.flatMap (·.2)).flatMap (·.2)).length
  | [] => rfl
  | x :: r => by
    have h1 := sE r
    have h2 := sD x.1 x.2
    unfold hP at h1 ⊢
    simp only [List.flatMap_cons, List.length_append, List.flatMap_append] at h1 ⊢
    rw [h1]
    show (x.2.flatMap (rZ x.1)).length + _ = _
    rw [h2]
theorem kP {b : Bt} {g : Gr} (G : Gs b g) : (hP g).length = b.times.length := by rw [sE, G.times, List.length_map]
theorem NU {b : Bt} {g : Gr} (G : Gs b g) (hv : Vd 549755813888 b) (ht : b.times.length < 1099511627776) (i : Nat) (hi : i < g.length) (H : AH) : aC Try.prog 31 [dL b, .int .i64 i] H fun r H' => r = upsA (GJ g[i]) ∧ H' = H := by
  refine bH c31 (v := upsA (GJ g[i])) (fun n => tW (tX n) _) (by simp [F31]) ?_
  unfold F31
  obtain ⟨l1, l2, l3, l4, l5⟩ := qS G
  obtain ⟨q1, q2⟩ := sC G
  obtain ⟨lo, hi2, s1, s2, s3, s4, s5⟩ := KM G hi
  have hle := mF GJ g i hi
  have hul := kP G
  unfold hP at hul
  have hh : LN b i = true := by simp [LN]; omega
  simp only [push_cast, ↓reduceIte, Nat.reduceEqDiff, reduceCtorEq, Nat.reduceAdd, Nat.reduceLT, Nat.reduceLeDiff]
  (refine aC.look (NN b i _) ?_; simp only [push_cast, ↓reduceIte, Nat.reduceEqDiff, reduceCtorEq, Nat.reduceAdd, Nat.reduceLT, Nat.reduceLeDiff, aB, aA, hh])
  simp only [push_cast, ↓reduceIte, Nat.reduceEqDiff, reduceCtorEq, Nat.reduceAdd, Nat.reduceLT, Nat.reduceLeDiff, aB, aA, dL, tY]
  (refine aC.look (DS b.kends i (by omega) (by omega) _) ?_; simp only [push_cast, ↓reduceIte, Nat.reduceEqDiff, reduceCtorEq, Nat.reduceAdd, Nat.reduceLT, Nat.reduceLeDiff, aB, aA, s1])
  refine KL (b := b) (i := i) (lo := lo) (hi := hi2) (key := g[i].1) (rs := g[i].2) (List.prefix_refl _) s4 (by omega) (fun m hm => ?_) (fun m hm => ?_) (by show (GJ g[i]).length < _; omega) s2 (by omega) rfl rfl rfl rfl (.inl ⟨rfl, rfl⟩) fun f2 H' hp ho => ?_
  · obtain ⟨r1, _⟩ := s5 m hm
    refine ⟨r1, by omega, ?_⟩
    have := hv.wk _ (List.mem_of_getElem? s4)
    have := hv.wr _ (List.mem_of_getElem? r1)
    omega
  · obtain ⟨_, l2, r1, r2, r3⟩ := s5 m hm
    exact ⟨l2, r1, by omega, r3⟩
  simp only [push_cast, ↓reduceIte, Nat.reduceEqDiff, reduceCtorEq, Nat.reduceAdd, Nat.reduceLT, Nat.reduceLeDiff]
  exact ho.weak hp
def F20 : AFn := ⟨22, 1, [.t 2], (.seq (.ops [oo 2 (.mov (.v .nils))]) (.seq (.seq (.ops [oo 5 (.mov (.t 0)), oo 6 (.eqn 0 false (.t 5))]) (.cond (.t 6) (.seq (.ops [oo 2 (.mov (.v .nils))]) .ret) .skip)) (.seq (.ops [oo 3 (.mov (.v .nils))]) (.seq (.seq (.ops [oo 7 (.mov (.t 0)), oo 8 (.nilc (.t 7)), oo 9 (.faddr 3 (.t 8)), oo 10 (.load false 1 (.t 9)), oo 11 (.len (.t 10)), oo 12 (.mov (.v (.int .i64 0)))]) (.block 0 (.loop (.seq (.ops [oo 13 (.bin .lss (.t 12) (.t 11))]) (.seq (.cond (.t 13) .skip (.exit 0)) (.seq (.block 1 (.seq (.ops [oo 14 (.mov (.t 12)), oo 4 (.mov (.t 14))]) (.ops [oo 15 (.mov (.t 3)), oo 16 (.mov (.t 0)), oo 17 (.mov (.t 4)), oo 18 (.call 31 [(.t 16), (.t 17)]), oo 19 (.app 4 48 (.t 15) (.t 18)), oo 3 (.mov (.t 19))]))) (.ops [oo 20 (.bin .add (.t 12) (.v (.int .i64 1))), oo 12 (.mov (.t 20))]))))))) (.seq (.ops [oo 21 (.mov (.t 3)), oo 2 (.mov (.t 21))]) .ret)))))⟩
theorem c20 : aD Try.prog 20 = some F20 := by kernel_rfl
theorem KN {b : Bt} {g : Gr} (G : Gs b g) (hv : Vd 549755813888 b) (ht : b.times.length < 1099511627776) (H : AH) : aC Try.prog 20 [dL b] H fun r H' => r = upsA (hP g) ∧ H' = H := by
  refine bH c20 (v := upsA (hP g)) (fun n => tW (tX n) _) (by simp [F20]) ?_
  unfold F20
  obtain ⟨l1, l2, l3, l4, l5⟩ := qS G
  obtain ⟨q1, q2⟩ := sC G
  have hul := kP G
  have hal : dE (jI b.keys) = some g.length := by simp [jI, dE, q1]
  simp only [push_cast, ↓reduceIte, Nat.reduceEqDiff, reduceCtorEq, Nat.reduceAdd, Nat.reduceLT, Nat.reduceLeDiff, aB, aA, dL, tY, hal]
  refine aJ (fun (i : Nat) f H' => H <+: H' ∧ i ≤ g.length ∧ f 0 = dL b ∧ f 11 = .int .i64 g.length ∧ f 12 = .int .i64 i ∧ Own H H' 4 (f 3) ((hP (g.take i)).map upA)) (fun i => g.length - i) 0 ⟨List.prefix_refl _, Nat.zero_le _, rfl, rfl, rfl, .inl ⟨rfl, rfl⟩⟩ ?_
  rintro i f H' ⟨hp, h1, e0, e11, e12, ho⟩
  generalize hv3 : f 3 = v at ho
  by_cases hi : i < g.length
  · have hi' : (i : Int) < g.length := by omega
    have htk : hP (g.take (i + 1)) = hP (g.take i) ++ GJ g[i] := by
      rw [List.take_succ_eq_append_getElem hi]
      unfold hP
      rw [List.flatMap_append, List.flatMap_cons, List.flatMap_nil, List.append_nil]
    have hle : (hP (g.take (i + 1))).length ≤ (hP g).length := by
      have : hP (g.take (i + 1) ++ g.drop (i + 1)) = hP g := by rw [List.take_append_drop]
      rw [← this]
      unfold hP
      rw [List.flatMap_append, List.length_append]
      omega
    rw [htk, List.length_append] at hle
    simp only [push_cast, ↓reduceIte, Nat.reduceEqDiff, reduceCtorEq, Nat.reduceAdd, Nat.reduceLT, Nat.reduceLeDiff, e0, e11, e12, hi', hv3]
    (refine aC.look (NU G hv ht i hi _) ?_; simp only [push_cast, ↓reduceIte, Nat.reduceEqDiff, reduceCtorEq, Nat.reduceAdd, Nat.reduceLT, Nat.reduceLeDiff, aB, aA, e0, e11, e12, hv3])
    refine ho.xapp hp (xs := (GJ g[i]).map upA) rfl (by simp only [List.length_map]; omega) fun v' H4 ho' hp' => ?_
    simp only [push_cast, ↓reduceIte, Nat.reduceEqDiff, reduceCtorEq, Nat.reduceAdd, Nat.reduceLT, Nat.reduceLeDiff, e0, e11, e12]
    refine ⟨i + 1, ⟨hp', hi, ?_, ?_⟩, by omega⟩
    · rw [aG (by omega) (by omega)]; simp
    · rw [htk, List.map_append]; exact ho'
  · have hi' : ¬ (i : Int) < g.length := by omega
    simp only [push_cast, ↓reduceIte, Nat.reduceEqDiff, reduceCtorEq, Nat.reduceAdd, Nat.reduceLT, Nat.reduceLeDiff, e11, e12, hi', hv3]
    rw [List.take_of_length_le (by omega)] at ho
    exact ho.weak hp
end Go.Eng
end
section
set_option linter.unusedVariables false
set_option linter.unusedSimpArgs false
set_option maxRecDepth 10000
namespace Go.Eng
open Go Go.Proofs
def NV : AFn := ⟨27, 2, [.t 4], (.seq (.ops [oo 4 (.mov (.v .nils))]) (.seq (.seq (.ops [oo 5 (.mov (.t 1)), oo 6 (.bin .lss (.t 5) (.v (.int .i64 0)))]) (.cond (.t 6) (.ops [oo 7 (.mki 9 (.v (.str ⟨#[99, 97, 110, 110, 111, 116, 32, 98, 101, 32, 110, 101, 103, 97, 116, 105, 118, 101]⟩))), on .bad]) .skip)) (.seq (.seq (.ops [oo 8 (.mov (.t 1)), oo 9 (.mov (.t 0)), oo 10 (.cap (.t 9)), oo 11 (.mov (.t 0)), oo 12 (.len (.t 11)), oo 13 (.bin .sub (.t 10) (.t 12)), oo 14 (.bin .sub (.t 8) (.t 13)), oo 1 (.mov (.t 14))]) (.seq (.ops [oo 15 (.mov (.t 1)), oo 16 (.bin .gtr (.t 15) (.v (.int .i64 0)))]) (.cond (.t 16) (.ops [oo 17 (.mov (.t 0)), oo 18 (.mov (.t 0)), oo 19 (.cap (.t 18)), oo 20 (.slice 4 (.t 17) none (some (.t 19)) none), oo 21 (.mov (.t 1)), oo 22 (.appz 4 48 (.agg [.nils, (.int .i64 0), (.int .i64 0), (.int .i64 0)]) (.t 20) (.t 21)), oo 23 (.mov (.t 0)), oo 24 (.len (.t 23)), oo 25 (.slice 4 (.t 22) none (some (.t 24)) none), oo 0 (.mov (.t 25))]) .skip))) (.seq (.ops [oo 26 (.mov (.t 0)), oo 4 (.mov (.t 26))]) .ret))))⟩
theorem PH : aD Try.prog 145 = some NV := by kernel_rfl
def zU : AV := .agg [.nils, .int .i64 0, .int .i64 0, .int .i64 0]
def KO (H0 H : AH) (n : Nat) (v : AV) (l : List AV) : Prop :=
  H0 <+: H ∧ l.length ≤ n ∧ ((n = 0 ∧ v = .nils) ∨ ∃ t ex, H0.length ≤ t ∧ v = .ref 4 t 0 l.length n ex ∧ obj? H t = some (4, l ++ List.replicate (n - l.length) zU))
theorem uB {f : AF} {sz : Nat} {x : X} (h : ev f x = .int .i64 0) : cE f sz .nils none (some x) none = some .nils := by
  simp [cE, gP, h, nat?]
theorem CJ {f : AF} {sz t n : Nat} {x : X} (h : ev f x = .int .i64 0) : cE f sz (.ref sz t 0 n n false) none (some x) none = some (.ref sz t 0 0 n false) := by
  simp [cE, gP, h, nat?]
theorem KP (n : Nat) (hn : n < 1099511627776) (H : AH) : aC Try.prog 145 [.nils, .int .i64 n] H fun r H' => KO H H' n r [] := by
  refine aN PH (by simp [NV]) ?_
  unfold NV
  have h0 : ¬ (n : Int) < 0 := by omega
  have c0 : HM .nils = some 0 := rfl
  have w0 : IntKind.i64.wrap (0 - 0) = 0 := by decide
  have w1 : IntKind.i64.wrap ((n : Int) - 0) = n := by rw [aG (by omega) (by omega)]; omega
  by_cases hz : n = 0
  · subst hz
    have h1 : ¬ ((0 : Nat) : Int) > 0 := by decide
    have h1' : ¬ (0 : Int) > 0 := by decide
    have h0' : ¬ (0 : Int) < 0 := by decide
    simp only [push_cast, ↓reduceIte, Nat.reduceEqDiff, reduceCtorEq, Nat.reduceAdd, Nat.reduceLT, Nat.reduceLeDiff, h0', c0, w0, h1']
    exact ⟨List.prefix_refl _, Nat.le_refl _, .inl ⟨rfl, rfl⟩⟩
  · have h1 : (n : Int) > 0 := by omega
    have hn1 : n ≤ 140737488355328 := by omega
    have hn2 : n * 48 ≤ 140737488355328 := by omega
    have nn : nat? (.int .i64 (n : Int)) = some n := by simp [nat?]
    simp only [push_cast, ↓reduceIte, Nat.reduceEqDiff, reduceCtorEq, Nat.reduceAdd, Nat.reduceLT, Nat.reduceLeDiff, h0, c0, w0, w1, h1]
    rw [uB (by rfl)]
    simp only [push_cast, ↓reduceIte, Nat.reduceEqDiff, reduceCtorEq, Nat.reduceAdd, Nat.reduceLT, Nat.reduceLeDiff, nn, hn1, hn2, hz]
    have hzl : (bU n (AV.agg [AV.nils, AV.int IntKind.i64 0, AV.int IntKind.i64 0, AV.int IntKind.i64 0])).length = n := by simp [bU]
    rw [hzl, CJ (by rfl)]
    simp only [push_cast, ↓reduceIte, Nat.reduceEqDiff, reduceCtorEq, Nat.reduceAdd, Nat.reduceLT, Nat.reduceLeDiff]
    refine ⟨List.prefix_append _ _, Nat.zero_le _, .inr ⟨H.length, false, Nat.le_refl _, rfl, ?_⟩⟩
    rw [bC]
    rfl
theorem KO.more {H0 H : AH} {n : Nat} {v x : AV} {l xs : List AV} (F : KO H0 H n v l) (hx : elems 4 x H = some xs) (hn : l.length + xs.length ≤ n) (hb : n < 1099511627776) : ∃ v' H', iA 4 48 v x H = some (v', H') ∧ KO H0 H' n v' (l ++ xs) := by
  obtain ⟨hp, hl, h⟩ := F
  rcases h with ⟨h0, rfl⟩ | ⟨t, ex, ht, rfl, ho⟩
  · have hxs : xs = [] := List.eq_nil_of_length_eq_zero (by omega)
    subst hxs
    refine ⟨.nils, H, ?_, hp, by simpa using hl, .inl ⟨h0, rfl⟩⟩
    unfold iA
    rw [hx]
    rfl
  · have he : elems 4 (.ref 4 t 0 l.length n ex) H = some l := by
      simp only [elems, ho, Option.bind_some]
      rw [if_pos (by simp [hl])]
      simp
    by_cases hxs : xs = []
    · subst hxs
      refine ⟨_, H, ?_, hp, by simpa using hl, .inr ⟨t, ex, ht, by rw [List.append_nil], by rw [List.append_nil]; exact ho⟩⟩
      unfold iA
      rw [hx, he]
      rfl
    · refine ⟨.ref 4 t 0 (l.length + xs.length) n ex, List.set H t (.live 4 (l ++ xs ++ List.replicate (n - (l.length + xs.length)) zU)), ?_, bQ hp ht _, by rw [List.length_append]; exact hn, .inr ⟨t, ex, ht, by rw [List.length_append], ?_⟩⟩
      · simp only [iA, hx, he, Option.bind_some]
        rw [if_neg hxs, if_pos (by omega), if_pos (by omega)]
        simp only [ho, Option.bind_some]
        rw [if_pos (by simp; omega)]
        simp only [Nat.zero_add]
        have e1 : (l ++ List.replicate (n - l.length) zU).take l.length = l := List.take_left' rfl
        have e2 : (l ++ List.replicate (n - l.length) zU).drop (l.length + xs.length) = List.replicate (n - (l.length + xs.length)) zU := by
          rw [← List.drop_drop, List.drop_left' rfl, List.drop_replicate]
          congr 1
          omega
        rw [e1, e2]
      · rw [bP (bG ho), List.length_append]
theorem kQ {sz : Nat} {y : AV} {H : AH} {l : List AV} (h : elems sz y H = some l) : part false 1 0 y = some y := by
  cases y <;> first | rfl | (simp [elems] at h)
def NW : AFn := ⟨36, 1, [.t 2], (.seq (.ops [oo 2 (.mov (.v .nils))]) (.seq (.ops [oo 3 (.mov (.v (.int .i64 0)))]) (.seq (.seq (.ops [oo 9 (.mov (.t 0)), oo 10 (.len (.t 9)), oo 11 (.mov (.v (.int .i64 0)))]) (.block 0 (.loop (.seq (.ops [oo 12 (.bin .lss (.t 11) (.t 10))]) (.seq (.cond (.t 12) .skip (.exit 0)) (.seq (.block 1 (.seq (.ops [oo 13 (.iaddr 1 (.t 9) (.t 11)), oo 14 (.load false 1 (.t 13)), oo 5 (.mov (.t 14))]) (.seq (.ops [oo 15 (.mov (.t 3)), oo 16 (.mov (.t 5)), oo 17 (.len (.t 16)), oo 18 (.bin .add (.t 15) (.t 17)), oo 3 (.mov (.t 18))]) (.seq (.ops [oo 19 (.mov (.t 3)), oo 20 (.bin .lss (.t 19) (.v (.int .i64 0)))]) (.cond (.t 20) (.ops [oo 21 (.mki 9 (.v (.str ⟨#[108, 101, 110, 32, 111, 117, 116, 32, 111, 102, 32, 114, 97, 110, 103, 101]⟩))), on .bad]) .skip))))) (.ops [oo 22 (.bin .add (.t 11) (.v (.int .i64 1))), oo 11 (.mov (.t 22))]))))))) (.seq (.ops [oo 23 (.mov (.t 3)), oo 24 (.call 145 [(.v .nils), (.t 23)]), oo 6 (.mov (.t 24))]) (.seq (.seq (.ops [oo 25 (.mov (.t 0)), oo 26 (.len (.t 25)), oo 27 (.mov (.v (.int .i64 0)))]) (.block 2 (.loop (.seq (.ops [oo 28 (.bin .lss (.t 27) (.t 26))]) (.seq (.cond (.t 28) .skip (.exit 2)) (.seq (.block 3 (.seq (.ops [oo 29 (.iaddr 1 (.t 25) (.t 27)), oo 30 (.load false 1 (.t 29)), oo 8 (.mov (.t 30))]) (.ops [oo 31 (.mov (.t 6)), oo 32 (.mov (.t 8)), oo 33 (.app 4 48 (.t 31) (.t 32)), oo 6 (.mov (.t 33))]))) (.ops [oo 34 (.bin .add (.t 27) (.v (.int .i64 1))), oo 27 (.mov (.t 34))]))))))) (.seq (.ops [oo 35 (.mov (.t 6)), oo 2 (.mov (.t 35))]) .ret))))))⟩
theorem PI : aD Try.prog 124 = some NW := by kernel_rfl
theorem gY {α : Type} (ls : List (List α)) (i : Nat) : (ls.take i).flatten.length ≤ ls.flatten.length := by
  have : (ls.take i ++ ls.drop i).flatten = ls.flatten := by rw [List.take_append_drop]
  rw [← this, List.flatten_append, List.length_append]
  omega
theorem CK (x : AV) (xs : List AV) (ls : List (List Upd)) (H : AH) (hx : elems 1 x H = some xs) (hlen : xs.length = ls.length) (hel : ∀ (i : Nat) y l, xs[i]? = some y → ls[i]? = some l → elems 4 y H = some (l.map upA)) (hb : ls.flatten.length < 1099511627776) (hbl : ls.length < 1099511627776) :
    aC Try.prog 124 [x] H fun r H' => r = upsA ls.flatten ∧ H' = H := by
  refine bH PI (v := upsA ls.flatten) (fun n => tW (tX n) _) (by simp [NW]) ?_
  unfold NW
  have la := aS hx
  rw [hlen] at la
  simp only [push_cast, ↓reduceIte, Nat.reduceEqDiff, reduceCtorEq, Nat.reduceAdd, Nat.reduceLT, Nat.reduceLeDiff, la]
  have geti : ∀ i, i < ls.length → ∃ y l, xs[i]? = some y ∧ ls[i]? = some l ∧ elems 4 y H = some (l.map upA) ∧ (ls.take (i + 1)).flatten = (ls.take i).flatten ++ l := fun i hi => by
    refine ⟨xs[i]'(by omega), ls[i], List.getElem?_eq_getElem _, List.getElem?_eq_getElem hi, hel i _ _ (List.getElem?_eq_getElem _) (List.getElem?_eq_getElem hi), ?_⟩
    rw [List.take_succ_eq_append_getElem hi, List.flatten_append]
    simp
  refine aJ (fun (i : Nat) f H' => H' = H ∧ i ≤ ls.length ∧ f 0 = x ∧ f 9 = x ∧ f 10 = .int .i64 ls.length ∧ f 11 = .int .i64 i ∧ f 3 = .int .i64 (ls.take i).flatten.length) (fun i => ls.length - i) 0 ⟨rfl, Nat.zero_le _, rfl, rfl, rfl, rfl, rfl⟩ ?_
  rintro i f H' ⟨hh, h1, e0, e9, e10, e11, e3⟩
  subst hh
  by_cases hi : i < ls.length
  · have hi' : (i : Int) < ls.length := by omega
    obtain ⟨y, l, y1, y2, y3, y4⟩ := geti i hi
    have hle := gY ls (i + 1)
    rw [y4, List.length_append] at hle
    have ax : aF 1 x (.int .i64 (i : Int)) = some (ptk x i 0) := aO hx (by omega) _
    have ly := aS y3
    rw [List.length_map] at ly
    have py := kQ y3
    have w1 : IntKind.i64.wrap (((ls.take i).flatten.length : Int) + l.length) = (((ls.take i).flatten.length + l.length : Nat) : Int) := by rw [aG (by omega) (by omega)]; omega
    have hn : ¬ (((ls.take i).flatten.length + l.length : Nat) : Int) < 0 := by omega
    have hlt : (ls.take (i + 1)).flatten.length = (ls.take i).flatten.length + l.length := by rw [y4, List.length_append]
    have le := aW hx y1 (List.prefix_refl H')
    generalize hm : (ls.take i).flatten.length + l.length = m at w1 hn hlt
    simp only [push_cast, ↓reduceIte, Nat.reduceEqDiff, reduceCtorEq, Nat.reduceAdd, Nat.reduceLT, Nat.reduceLeDiff, aB, aA, e0, e3, e9, e10, e11, hi', ax, le, py, ly, w1, hn, decide_false]
    refine ⟨i + 1, ⟨hi, ?_, by rw [hlt]⟩, by omega⟩
    rw [aG (by omega) (by omega)]; simp
  · have hi' : ¬ (i : Int) < ls.length := by omega
    have hit : ls.take i = ls := List.take_of_length_le (by omega)
    rw [hit] at e3
    simp only [push_cast, ↓reduceIte, Nat.reduceEqDiff, reduceCtorEq, Nat.reduceAdd, Nat.reduceLT, Nat.reduceLeDiff, e0, e3, e9, e10, e11, hi']
    refine (KP ls.flatten.length hb H').mono fun r H2 F => ?_
    simp only [push_cast, ↓reduceIte, Nat.reduceEqDiff, reduceCtorEq, Nat.reduceAdd, Nat.reduceLT, Nat.reduceLeDiff, e0, la]
    refine aJ (fun (i : Nat) f H2 => i ≤ ls.length ∧ f 25 = x ∧ f 26 = .int .i64 ls.length ∧ f 27 = .int .i64 i ∧ KO H' H2 ls.flatten.length (f 6) ((ls.take i).flatten.map upA)) (fun i => ls.length - i) 0 ⟨Nat.zero_le _, rfl, rfl, rfl, F⟩ ?_
    clear e0 e3 e9 e10 e11 F hi hi' hit
    rintro i f H3 ⟨h1, e25, e26, e27, F⟩
    generalize hv : f 6 = v at F
    by_cases hi : i < ls.length
    · have hi' : (i : Int) < ls.length := by omega
      obtain ⟨y, l, y1, y2, y3, y4⟩ := geti i hi
      have hle := gY ls (i + 1)
      rw [y4, List.length_append] at hle
      have ax : aF 1 x (.int .i64 (i : Int)) = some (ptk x i 0) := aO hx (by omega) _
      have py := kQ y3
      have le := aW hx y1 F.1
      obtain ⟨v', H4, q1, F2⟩ := F.more (bA y3 F.1) (by rw [List.length_map, List.length_map]; exact hle) hb
      simp only [push_cast, ↓reduceIte, Nat.reduceEqDiff, reduceCtorEq, Nat.reduceAdd, Nat.reduceLT, Nat.reduceLeDiff, aB, aA, e25, e26, e27, hv, hi', ax, le, py, q1]
      refine ⟨i + 1, ⟨hi, ?_, by rw [y4, List.map_append]; exact F2⟩, by omega⟩
      rw [aG (by omega) (by omega)]; simp
    · have hi' : ¬ (i : Int) < ls.length := by omega
      have hit : ls.take i = ls := List.take_of_length_le (by omega)
      rw [hit] at F
      simp only [push_cast, ↓reduceIte, Nat.reduceEqDiff, reduceCtorEq, Nat.reduceAdd, Nat.reduceLT, Nat.reduceLeDiff, e25, e26, e27, hv, hi']
      obtain ⟨hp, _, h⟩ := F
      have ho : Own H' H3 4 v (ls.flatten.map upA) := by
        rcases h with ⟨h0, rfl⟩ | ⟨t, ex, ht, rfl, ho⟩
        · refine .inl ⟨rfl, ?_⟩
          rw [List.eq_nil_of_length_eq_zero h0]; rfl
        · refine .inr ⟨t, ex, ht, ?_, ?_⟩
          · rw [List.length_map]
          · rw [ho, List.length_map, Nat.sub_self]; simp
      exact ho.weak hp
end Go.Eng
end
section
set_option linter.unusedVariables false
set_option linter.unusedSimpArgs false
namespace Go.Eng
open Go
def NX (key : Int) (l : List Upd) (since : List Tm) : Gr := PF key.toNat (bV (dK since l)).1
theorem mJ (key : Int) (l : List Upd) (since : List Tm) : Gs (fL key l since) (NX key l since) := nO _ (Bt.none_ key l.length since) [] (yI _ _ _)
theorem sF {since : List Tm} {l : List Upd} {u : Upd} (h : u ∈ (bV (dK since l)).1) : ∃ v ∈ l, u.f0 = v.f0 := by
  obtain ⟨v, hv, e, _⟩ := (eN (dK since l)).2 u h
  obtain ⟨w, hw, e2⟩ := sB hv
  exact ⟨w, hw, e.trans e2⟩
theorem mK {N : Nat} (key : Int) (l : List Upd) (since : List Tm) (h : ∀ u ∈ l, u.f0.length < N) : Vd N (fL key l since) :=
  jN _ _ ⟨fun x h => absurd h List.not_mem_nil, fun x h => absurd h List.not_mem_nil⟩ fun u hu => by
    obtain ⟨v, hv, e⟩ := sF hu
    rw [e]; exact h v hv
theorem mL (key : Int) (l : List Upd) (since : List Tm) : (fL key l since).key = key ∧ (fL key l since).weight = l.length ∧ (fL key l since).since = since ∧ (fL key l since).times = (bV (dK since l)).1.map (·.f1) := by
  obtain ⟨h1, h2, h3, h4, _⟩ := kO (bV (dK since l)).1 (Bt.none_ key l.length since)
  exact ⟨h1, h2, h3, h4⟩
theorem uC (key : Int) (l : List Upd) (since : List Tm) : (fL key l since).times.length ≤ l.length := by
  rw [(mL key l since).2.2.2, List.length_map]
  have := (eN (dK since l)).1
  rw [iG] at this
  exact this
end Go.Eng
end
section
set_option linter.unusedVariables false
set_option linter.unusedSimpArgs false
set_option maxRecDepth 10000
namespace Go.Eng
open Go Go.Proofs
def KQ (key : Int) (l : List Upd) (since : List Tm) (w : Int) : Bt := { fL key l since with weight := w }
def fC (key : Int) (l : List Upd) (since : List Tm) (w : Int) : AV :=
  if w < 0 then .tup [.nilp, .int .i64 1] else if eO key l since = 0 then .tup [dL (KQ key l since w), .int .i64 0] else .tup [.nilp, .int .i64 (eO key l since)]
def F90 : AFn := ⟨29, 4, [.t 8, .t 9], (.seq (.ops [oo 8 (.mov (.v .nilp)), oo 9 (.mov (.v (.int .i64 0)))]) (.seq (.seq (.ops [oo 12 (.mov (.t 3)), oo 13 (.bin .lss (.t 12) (.v (.int .i64 0)))]) (.cond (.t 13) (.seq (.ops [oo 8 (.mov (.v .nilp)), oo 9 (.mov (.v (.int .i64 1)))]) .ret) .skip)) (.seq (.ops [oo 15 (.mov (.t 0)), oo 16 (.mov (.t 1)), oo 17 (.mov (.t 2)), oo 18 (.call 18 [(.t 15), (.t 16), (.t 17)]), oo 14 (.mov (.t 18)), oo 19 (.ext (.t 14) 0), oo 20 (.ext (.t 14) 1), oo 10 (.mov (.t 19)), oo 11 (.mov (.t 20))]) (.seq (.seq (.ops [oo 21 (.mov (.t 10)), oo 22 (.eqn 0 true (.t 21))]) (.cond (.t 22) (.ops [oo 23 (.mov (.t 10)), oo 24 (.mov (.t 3)), oo 25 (.nilc (.t 23)), oo 26 (.faddr 1 (.t 25)), on (.store 1 (.t 26) (.t 24))]) .skip)) (.seq (.ops [oo 27 (.mov (.t 10)), oo 28 (.mov (.t 11)), oo 8 (.mov (.t 27)), oo 9 (.mov (.t 28))]) .ret)))))⟩
theorem c90 : aD Try.prog 90 = some F90 := by kernel_rfl
theorem zD (key : Int) (x y : AV) (l : List Upd) (since : List Tm) (w : Int) (H : AH) (hx : elems 4 x H = some (l.map upA)) (hl : l.length < 1099511627776) (hs : bB l) (hy : elems 2 y H = some (since.map aX)) (hsl : since.length < 1099511627776) (hy2 : since ≠ [] → y = fK since) :
    aC Try.prog 90 [.int .i64 key, x, y, .int .i64 w] H fun r H' => r = fC key l since w ∧ H' = H := by
  refine bH c90 (v := fC key l since w) (fun n => ?_) (by simp [F90]) ?_
  · unfold fC
    have := qX n (KQ key l since w)
    split
    · rfl
    · split <;> simp [cl, cls, this]
  unfold F90 fC
  by_cases h0 : w < 0
  · rw [if_pos h0]
    simp only [push_cast, ↓reduceIte, Nat.reduceEqDiff, reduceCtorEq, Nat.reduceAdd, Nat.reduceLT, Nat.reduceLeDiff, h0, decide_true]
    exact ⟨H, cU.refl _ _, List.prefix_refl _⟩
  · rw [if_neg h0]
    simp only [push_cast, ↓reduceIte, Nat.reduceEqDiff, reduceCtorEq, Nat.reduceAdd, Nat.reduceLT, Nat.reduceLeDiff, h0, decide_false]
    refine (KI key x y l since H hx hl hs hy hsl hy2).mono fun r H' ⟨hp, h1, h2⟩ => ?_
    by_cases hc : eO key l since = 0
    · rw [if_pos hc]
      obtain ⟨t, vs, rfl, O⟩ := h2 hc
      obtain ⟨v0, v1, v2, v3, v4, v5, v6, rfl⟩ := GN (l := vs) O.len
      have ob := O.ob
      have O2 := O.hd (hd' := [.int .i64 (fL key l since).key, .int .i64 w]) rfl
      simp only [hdB, List.cons_append, List.nil_append, List.length_cons, List.length_nil, List.set_cons_zero, List.set_cons_succ, Nat.reduceAdd, List.length_set] at ob O2
      simp only [push_cast, ↓reduceIte, Nat.reduceEqDiff, reduceCtorEq, Nat.reduceAdd, Nat.reduceLT, Nat.reduceLeDiff, aB, aA, ob]
      obtain ⟨H2, a1, a2⟩ := OBL.batch (b := KQ key l since w) O2
      exact ⟨H2, cU.tup (i := 0) (vs := [.ptr t 0 0, .int .i64 0]) a1 rfl, a2⟩
    · rw [if_neg hc]
      have := h1 hc
      subst this
      simp only [push_cast, ↓reduceIte, Nat.reduceEqDiff, reduceCtorEq, Nat.reduceAdd, Nat.reduceLT, Nat.reduceLeDiff]
      exact ⟨_, cU.refl _ _, hp⟩
end Go.Eng
end
section
namespace Go.Eng
open Go
set_option linter.unusedVariables false
set_option linter.unusedSimpArgs false
def ahB (l : List (List Val)) (r : List Val) (i : Nat) : Bool := decide (eT (l.getD i []) r < 0)
def bin (l : List (List Val)) (r : List Val) : Nat → Nat → Nat → Nat → Nat × Nat
  | 0, low, _, p => (low, p)
  | k + 1, low, high, p => if low < high then (if ahB l r (low + (high - low) / 2) = true then bin l r k (low + (high - low) / 2 + 1) high (p + 1) else bin l r k low (low + (high - low) / 2) (p + 1)) else (low, p)
end Go.Eng
end
section
set_option linter.unusedVariables false
set_option linter.unusedSimpArgs false
set_option maxRecDepth 10000
namespace Go.Eng
open Go Go.Proofs
def F60 : AFn := ⟨15, 1, [.t 5], (.seq (.ops [oo 5 (.mov (.v (.bool false)))]) (.seq (.ops [oo 6 (.load false 1 (.t 1)), oo 7 (.bin .add (.t 6) (.v (.int .i64 1))), on (.store 1 (.t 1) (.t 7))]) (.seq (.ops [oo 15 (.load false 1 (.t 2)), oo 16 (.mov (.t 0)), oo 17 (.iaddr 1 (.t 15) (.t 16)), oo 18 (.load false 1 (.t 17)), oo 19 (.load false 1 (.t 3)), oo 20 (.call 61 [(.t 18), (.t 19)]), oo 21 (.bin .lss (.t 20) (.v (.int .i64 0))), oo 22 (.mov (.t 21)), oo 8 (.mov (.t 15)), oo 9 (.mov (.t 16)), oo 10 (.mov (.t 17)), oo 11 (.mov (.t 18)), oo 12 (.mov (.t 19)), oo 13 (.mov (.t 20)), oo 14 (.mov (.t 21)), oo 5 (.mov (.t 22))]) .ret)))⟩
theorem c60 : aD Try.prog 60 = some F60 := by kernel_rfl
end Go.Eng
end
section
set_option linter.unusedVariables false
set_option linter.unusedSimpArgs false
set_option maxRecDepth 10000
namespace Go.Eng
open Go Go.Proofs
structure Pl where
  b : Bt
  at_ : Nat
def plC (p : Pl) : AV := .agg [dL p.b, jI p.b.keys, .int .i64 p.at_]
def NY (t : Nat) : AV := .ptr t 0 0
structure Cur (H0 H : AH) (c : Nat) (v : AV) (ts : List Nat) (ps : List Pl) : Prop where
  o : OBL H0 H c [] [v] [(1, ts.map NY)]
  len : ts.length = ps.length
  pl : ∀ (i : Nat) t p, ts[i]? = some t → ps[i]? = some p → obj? H t = some (3, [plC p])
  ap : ∀ t ∈ ts, t ≠ c ∧ idx v ≠ some t ∧ H0.length ≤ t
  nd : ts.Nodup
theorem OBX.appk {H0 H : AH} {t sz B : Nat} {bx : Nat × List AV} {hd vs : List AV} {ls : List (Nat × List AV)} {v : AV} {l : List AV} (O : OBX H0 H t hd vs ls B bx) (j bytes : Nat) (x : AV) (hj : vs[j]? = some v) (hl : ls[j]? = some (sz, l)) (hb : (l.length + 1) * bytes ≤ 140737488355328) :
    ∃ v' Hm H2, iA sz bytes v (.ref sz H.length 0 1 1 true) (H ++ [.live sz [x]]) = some (v', Hm) ∧ obj? Hm t = some (hd.length + vs.length, [.agg (hd ++ vs)]) ∧ cells v' = [v'] ∧ cX v' = true ∧ List.set Hm t (.live (hd.length + vs.length) [.agg (hd ++ vs.set j v')]) = H2 ∧ OBX H0 H2 t hd (vs.set j v') (ls.set j (sz, l ++ [x])) B bx ∧ ∀ u o, obj? H u = some o → idx v ≠ some u → u ≠ t → obj? H2 u = some o ∧ idx v' ≠ some u := by
  have O1 := O.mono (J := [.live sz [x]])
  have ow := O1.o.own j v _ hj hl
  refine ⟨_, _, _, ow.app_eq (xs := [x]) (dQ (by simp)) (by simp) (by simpa using hb), O1.mid hj, rfl, rfl, rfl, O1.app hj hl, fun u o ho hv hu => ⟨?_, fun e => ?_⟩⟩
  · rw [cB (fun e => hu e.symm)]
    refine bM (List.prefix_append _ _) ?_
    rw [gD hv]
    exact bM (List.prefix_append _ _) ho
  · cases e
    have := bG ho
    rw [List.length_append] at this
    omega
theorem Cur.more {H0 H : AH} {c : Nat} {v : AV} {ts : List Nat} {ps : List Pl} (C : Cur H0 H c v ts ps) (p : Pl) (hb : ts.length < 1099511627776) :
    ∃ v' Hm H2, iA 1 8 v (.ref 1 (H.length + 1) 0 1 1 true) (H ++ [.live 3 [plC p]] ++ [.live 1 [NY H.length]]) = some (v', Hm) ∧ obj? Hm c = some (1, [.agg [v]]) ∧ cells v' = [v'] ∧ cX v' = true ∧ List.set Hm c (.live 1 [.agg [v']]) = H2 ∧ Cur H0 H2 c v' (ts ++ [H.length]) (ps ++ [p]) := by
  have X := C.o.box 3 [plC p]
  obtain ⟨v', Hm, H2, h1, h2, h3, h4, h5, h6, h7⟩ := X.appk 0 8 (NY H.length) rfl rfl (by simp only [List.length_map]; omega)
  rw [show (H ++ [aM.live 3 [plC p]]).length = H.length + 1 by simp] at h1
  have hlow : ∀ u, idx v = some u → u < H.length := fun u hu => (C.o.low (i := 0) rfl hu).2
  have hnew := h7 H.length (3, [plC p]) (bC _ _ _) (fun e => by have := hlow _ e; omega) X.bt
  have hold : ∀ t ∈ ts, ∀ o, obj? H t = some o → obj? H2 t = some o ∧ idx v' ≠ some t := fun t ht o ho => h7 t o (bM (List.prefix_append _ _) ho) (C.ap t ht).2.1 (C.ap t ht).1
  have hlt : ∀ t ∈ ts, ∃ o, obj? H t = some o := fun t ht => by
    obtain ⟨i, hi, rfl⟩ := List.mem_iff_getElem.1 ht
    exact ⟨_, C.pl i _ _ (List.getElem?_eq_getElem hi) (List.getElem?_eq_getElem (show i < ps.length by rw [← C.len]; exact hi))⟩
  refine ⟨v', Hm, H2, h1, h2, h3, h4, h5, ⟨by rw [List.map_append]; exact h6.o, by simp [C.len], fun i t q hi hq => ?_, fun t ht => ?_, ?_⟩⟩
  · rw [List.getElem?_append] at hi hq
    split at hi
    · rename_i hlt2
      rw [if_pos (by rw [← C.len]; exact hlt2)] at hq
      exact (hold t (List.mem_of_getElem? hi) _ (C.pl i t q hi hq)).1
    · rename_i hge
      rw [if_neg (by rw [← C.len]; exact hge)] at hq
      have hle := C.len
      obtain ⟨i', rfl⟩ : ∃ j, i = ts.length + j := ⟨i - ts.length, by omega⟩
      rw [Nat.add_sub_cancel_left] at hi
      rw [← hle, Nat.add_sub_cancel_left] at hq
      cases i' with
      | zero => simp at hi hq; subst hi hq; exact hnew.1
      | succ k => simp at hi
  · rcases List.mem_append.1 ht with ht | ht
    · obtain ⟨o, ho⟩ := hlt t ht
      exact ⟨(C.ap t ht).1, (hold t ht o ho).2, (C.ap t ht).2.2⟩
    · rw [List.mem_singleton.1 ht]
      exact ⟨X.bt, hnew.2, C.o.pre.length_le⟩
  · rw [List.nodup_append]
    refine ⟨C.nd, by simp, fun a ha b hb e => ?_⟩
    rw [List.mem_singleton] at hb
    subst e
    obtain ⟨o, ho⟩ := hlt a ha
    have := bG ho
    omega
theorem Cur.mono {H0 H J : AH} {c : Nat} {v : AV} {ts : List Nat} {ps : List Pl} (C : Cur H0 H c v ts ps) : Cur H0 (H ++ J) c v ts ps :=
  ⟨C.o.mono, C.len, fun i t p h1 h2 => bM (List.prefix_append _ _) (C.pl i t p h1 h2), C.ap, C.nd⟩
def Pl.key (p : Pl) : Option (List Val) := p.b.keys[p.at_]?
def GZ : Option (List Val) → AV
  | none => .nils
  | some k => bD k
end Go.Eng
end
