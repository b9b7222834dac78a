/- KMom, KFront, KNil, KNew, KApp, KJoin, KBat, KAddB, KFrz, KOB, KOBL, KOBF, PGrp, KAdv, KSorted, KRuns, KCons, KAdd, KCheck, PCons, KNewB, KRun, PFind, KFind. -/
import Derived.Test.YtpflmgbpjhbmnaaGreatQSa2
import Derived.Test.YtpflmgbpjhbmnaaGreatQSa1
section
set_option linter.unusedSimpArgs false
set_option linter.unusedVariables false
namespace Go.Eng
open Go Go.Proofs
theorem WO {n : Nat} : n < n + 1 + 1 := by omega
theorem WP {n : Nat} : n < n + 1 + 1 + 1 := by omega
theorem WQ {n : Nat} : n < n + 1 + 1 + 1 + 1 := by omega
theorem BV {k : IntKind} {z : Int} : cells (.int k z) = [.int k z] := Eq.trans rfl rfl
theorem BW {x : ByteArray} : cells (.str x) = [.str x] := Eq.trans rfl rfl
theorem xI {x : Bool} : cells (.bool x) = [.bool x] := Eq.trans rfl rfl
theorem xJ {n : Nat} {l : List AV} {x : Bool} : cells (.list n l x) = [.list n l x] := Eq.trans rfl rfl
theorem BZ {a b c d e : Nat} {x : Bool} : cells (.ref a b c d e x) = [.ref a b c d e x] := Eq.trans rfl rfl
theorem xK : cells .nils = [.nils] := Eq.trans rfl rfl
theorem bP {H : AH} {t sz : Nat} {es : List AV} (h : t < H.length) : obj? (List.set H t (.live sz es)) t = some (sz, es) := by
  unfold obj?; rw [List.getElem?_set_self h]
theorem bF {H : AH} {t u : Nat} {o : aR} (h : t ≠ u) : obj? (List.set H t o) u = obj? H u := by
  unfold obj?; rw [List.getElem?_set_ne h]
theorem exJ {H : AH} : (∃ J, H = H ++ J) = True := eq_true ⟨[], by simp⟩
attribute [push_cast] exJ WO WP WQ BV BW xI xJ BZ xK
def lK (a b : Int) : Int × Int := if (0 < b ∧ a > IntKind.i64.wrap (9223372036854775807 - b)) ∨ (b < 0 ∧ a < IntKind.i64.wrap (-9223372036854775808 - b)) then (0, 60) else (IntKind.i64.wrap (a + b), 0)
def F81 : AFn := ⟨27, 2, [.t 4, .t 5], (.seq (.ops [oo 4 (.mov (.v (.int .i64 0))), oo 5 (.mov (.v (.int .i64 0)))]) (.seq (.seq (.ops [oo 6 (.mov (.t 1)), oo 7 (.bin .gtr (.t 6) (.v (.int .i64 0))), oo 8 (.mov (.t 7)), og 9 8 true (.mov (.t 0)), og 10 8 true (.mov (.t 1)), og 11 8 true (.bin .sub (.v (.int .i64 9223372036854775807)) (.t 10)), og 12 8 true (.bin .gtr (.t 9) (.t 11)), oo 13 (.pick (.t 8) (.t 12) (.v (.bool false))), oo 14 (.mov (.t 13)), og 15 14 false (.mov (.t 1)), og 16 14 false (.bin .lss (.t 15) (.v (.int .i64 0))), og 17 14 false (.mov (.t 16)), og 18 17 true (.mov (.t 0)), og 19 17 true (.mov (.t 1)), og 20 17 true (.bin .sub (.v (.int .i64 (-9223372036854775808))) (.t 19)), og 21 17 true (.bin .lss (.t 18) (.t 20)), og 22 14 false (.pick (.t 17) (.t 21) (.v (.bool false))), oo 23 (.pick (.t 14) (.v (.bool true)) (.t 22))]) (.cond (.t 23) (.seq (.ops [oo 4 (.mov (.v (.int .i64 0))), oo 5 (.mov (.v (.int .i64 60)))]) .ret) .skip)) (.seq (.ops [oo 24 (.mov (.t 0)), oo 25 (.mov (.t 1)), oo 26 (.bin .add (.t 24) (.t 25)), oo 4 (.mov (.t 26)), oo 5 (.mov (.v (.int .i64 0)))]) .ret)))⟩
theorem c81 : aD Tryz.prog 81 = some F81 := by kernel_rfl
theorem RD (a b : Int) (H : AH) : aC Tryz.prog 81 [.int .i64 a, .int .i64 b] H fun r H' => r = .tup [.int .i64 (lK a b).1, .int .i64 (lK a b).2] ∧ H' = H := by
  refine aU c81 (by simp [F81]) ?_
  unfold F81
  by_cases h1 : b > 0
  · have h3 : ¬ b < 0 := by omega
    by_cases h2 : a > IntKind.i64.wrap (9223372036854775807 - b)
    · simp only [push_cast, ↓reduceIte, Nat.reduceEqDiff, reduceCtorEq, Nat.reduceAdd, Nat.reduceLT, Nat.reduceLeDiff, h1, h2, h3, decide_true, decide_false]
      simp [lK, h1, h2, h3]
    · simp only [push_cast, ↓reduceIte, Nat.reduceEqDiff, reduceCtorEq, Nat.reduceAdd, Nat.reduceLT, Nat.reduceLeDiff, h1, h2, h3, decide_true, decide_false]
      simp [lK, h1, h2, h3]
  · by_cases h3 : b < 0
    · by_cases h2 : a < IntKind.i64.wrap (-9223372036854775808 - b)
      · simp only [push_cast, ↓reduceIte, Nat.reduceEqDiff, reduceCtorEq, Nat.reduceAdd, Nat.reduceLT, Nat.reduceLeDiff, h1, h2, h3, decide_true, decide_false]
        simp [lK, h1, h2, h3]
      · simp only [push_cast, ↓reduceIte, Nat.reduceEqDiff, reduceCtorEq, Nat.reduceAdd, Nat.reduceLT, Nat.reduceLeDiff, h1, h2, h3, decide_true, decide_false]
        simp [lK, h1, h2, h3]
    · simp only [push_cast, ↓reduceIte, Nat.reduceEqDiff, reduceCtorEq, Nat.reduceAdd, Nat.reduceLT, Nat.reduceLeDiff, h1, h3, decide_true, decide_false]
      simp [lK, h1, h3]
def fR (a b : Tm) : Tm := ⟨if b.f0 > a.f0 then b.f0 else a.f0, if b.f1 > a.f1 then b.f1 else a.f1⟩
def jV (a b : Tm) : Tm := ⟨if b.f0 < a.f0 then b.f0 else a.f0, if b.f1 < a.f1 then b.f1 else a.f1⟩
def UP : AFn := ⟨16, 2, [.cell 4 true 2], (.seq (.ops [oo 2 (.box 2 (.t 0)), oo 3 (.box 2 (.t 1)), oo 4 (.alloc 2 (.agg [(.int .i64 0), (.int .i64 0)]))]) (.seq (.ops [oo 5 (.faddr 0 (.t 2)), oo 6 (.load false 1 (.t 5)), oo 7 (.faddr 0 (.t 3)), oo 8 (.load false 1 (.t 7)), oo 9 (.mx (.t 6) [(.t 8)]), oo 10 (.faddr 1 (.t 2)), oo 11 (.load false 1 (.t 10)), oo 12 (.faddr 1 (.t 3)), oo 13 (.load false 1 (.t 12)), oo 14 (.mx (.t 11) [(.t 13)]), oo 15 (.build [(.int .i64 0), (.int .i64 0)] [(0, 1, (.t 9)), (1, 1, (.t 14))]), on (.store 2 (.t 4) (.t 15))]) .ret))⟩
theorem WR : aD Tryz.prog 101 = some UP := by kernel_rfl
theorem JM (a b : Tm) (H : AH) : aC Tryz.prog 101 [aQ a, aQ b] H fun r H' => r = aQ (fR a b) ∧ H' = H := by
  refine aG WR (fun _ => rfl) (by simp [UP]) ?_
  unfold UP aQ fR
  simp only [push_cast, ↓reduceIte, Nat.reduceEqDiff, reduceCtorEq, Nat.reduceAdd, Nat.reduceLT, Nat.reduceLeDiff, aB, aA]
  (repeat (first | exact List.prefix_refl _ | refine List.IsPrefix.trans ?_ (List.prefix_append _ _)))
def UQ : AFn := ⟨16, 2, [.cell 4 true 2], (.seq (.ops [oo 2 (.box 2 (.t 0)), oo 3 (.box 2 (.t 1)), oo 4 (.alloc 2 (.agg [(.int .i64 0), (.int .i64 0)]))]) (.seq (.ops [oo 5 (.faddr 0 (.t 2)), oo 6 (.load false 1 (.t 5)), oo 7 (.faddr 0 (.t 3)), oo 8 (.load false 1 (.t 7)), oo 9 (.mn (.t 6) [(.t 8)]), oo 10 (.faddr 1 (.t 2)), oo 11 (.load false 1 (.t 10)), oo 12 (.faddr 1 (.t 3)), oo 13 (.load false 1 (.t 12)), oo 14 (.mn (.t 11) [(.t 13)]), oo 15 (.build [(.int .i64 0), (.int .i64 0)] [(0, 1, (.t 9)), (1, 1, (.t 14))]), on (.store 2 (.t 4) (.t 15))]) .ret))⟩
theorem WS : aD Tryz.prog 102 = some UQ := by kernel_rfl
theorem RE (a b : Tm) (H : AH) : aC Tryz.prog 102 [aQ a, aQ b] H fun r H' => r = aQ (jV a b) ∧ H' = H := by
  refine aG WS (fun _ => rfl) (by simp [UQ]) ?_
  unfold UQ aQ jV
  simp only [push_cast, ↓reduceIte, Nat.reduceEqDiff, reduceCtorEq, Nat.reduceAdd, Nat.reduceLT, Nat.reduceLeDiff, aB, aA]
  (repeat (first | exact List.prefix_refl _ | refine List.IsPrefix.trans ?_ (List.prefix_append _ _)))
def F83 : AFn := ⟨9, 2, [.t 4], (.seq (.ops [oo 4 (.mov (.v (.bool false)))]) (.seq (.ops [oo 5 (.mov (.t 0)), oo 6 (.mov (.t 1)), oo 7 (.call 90 [(.t 5), (.t 6)]), oo 8 (.bin .eql (.t 7) (.v (.int .i64 0))), oo 4 (.mov (.t 8))]) .ret))⟩
theorem c83 : aD Tryz.prog 83 = some F83 := by kernel_rfl
theorem CA (x y : AV) (a b : List Val) (H : AH) (hx : elems 3 x H = some (a.map eC)) (hy : elems 3 y H = some (b.map eC)) (ha : a.length < 1099511627776) (hb : b.length < 1099511627776) : aC Tryz.prog 83 [x, y] H fun r H' => r = .bool (decide (bG a b = 0)) ∧ H' = H := by
  refine aG c83 (fun _ => rfl) (by simp [F83]) ?_
  unfold F83
  simp only [push_cast, ↓reduceIte, Nat.reduceEqDiff, reduceCtorEq, Nat.reduceAdd, Nat.reduceLT, Nat.reduceLeDiff]
  (refine aC.look (iM x y a b H hx hy ha hb) ?_; try simp only [push_cast, ↓reduceIte, Nat.reduceEqDiff, reduceCtorEq, Nat.reduceAdd, Nat.reduceLT, Nat.reduceLeDiff, aB, aA])
  (repeat (first | exact List.prefix_refl _ | refine List.IsPrefix.trans ?_ (List.prefix_append _ _)))
theorem mG {β : Type} {enc : β → AV} {n : Nat} (h : ∀ x, cl n (enc x) = true) (l : List β) : cls n (l.map enc) = true := lA.2 fun x hx => by
  obtain ⟨y, _, rfl⟩ := List.mem_map.1 hx
  exact h y
theorem VZ (n : Nat) (x : Val) : cl n (eC x) = true := by simp [eC, cl, cls]
theorem SX (n : Nat) (x : Tm) : cl n (aQ x) = true := by simp [aQ, cl, cls]
theorem lL (n : Nat) (l : List Val) : cl n (aS l) = true := by
  unfold aS
  exact mG (VZ n) l
theorem oR (n : Nat) (u : Upd) : cl n (upA u) = true := by
  have := lL n u.f0
  simp [upA, cl, cls, this]
theorem eD (x : AV) (l : List Val) (H : AH) (hx : elems 3 x H = some (l.map eC)) (hl : l.length < 1099511627776) : aC Tryz.prog 68 [x] H fun r H' => r = aS l ∧ H' = H :=
  xH (bytes := 32) (z := .agg [.int .i64 0, .int .i64 0, .str ⟨#[]⟩]) (by kernel_rfl) x (l.map eC) H hx (by rw [List.length_map]; omega) (fun n => mG (VZ n) l)
def GY (l : List Val) (k : Int) : AV := if k < 0 ∨ k > l.length then .tup [aS [], aS [], .int .i64 9] else .tup [aS (l.take k.toNat), aS (l.drop k.toNat), .int .i64 0]
theorem fS {f : AF} {sz : Nat} {l : List AV} {x : X} {k : Nat} (h : ev f x = .int .i64 (k : Int)) (hk : k ≤ l.length) : dT f sz (.list sz l false) none (some x) none = some (.list sz (l.take k) false) := by
  simp [dT, jR, h, nat?, hk]
theorem fT {f : AF} {sz : Nat} {l : List AV} {x : X} {k : Nat} (h : ev f x = .int .i64 (k : Int)) (hk : k ≤ l.length) : dT f sz (.list sz l false) (some x) none none = some (.list sz (l.drop k) false) := by
  simp [dT, jR, h, nat?, hk]
theorem CC (H : AH) {sz sz' : Nat} {x : AV} : bZ H (.tup [.nils, .nils, x]) H (.tup [.list sz [] false, .list sz' [] false, x]) :=
  (bZ.tup (i := 0) (bZ.nils H sz) (vs := [.nils, .nils, x]) rfl).trans (bZ.tup (i := 1) (bZ.nils H sz') (vs := [.list sz [] false, .nils, x]) rfl)
def F82 : AFn := ⟨23, 2, [.t 4, .t 5, .t 6], (.seq (.ops [oo 4 (.mov (.v .nils)), oo 5 (.mov (.v .nils)), oo 6 (.mov (.v (.int .i64 0)))]) (.seq (.seq (.ops [oo 7 (.mov (.t 1)), oo 8 (.bin .lss (.t 7) (.v (.int .i64 0))), oo 9 (.mov (.t 8)), og 10 9 false (.mov (.t 1)), og 11 9 false (.mov (.t 0)), og 12 9 false (.len (.t 11)), og 13 9 false (.bin .gtr (.t 10) (.t 12)), oo 14 (.pick (.t 9) (.v (.bool true)) (.t 13))]) (.cond (.t 14) (.seq (.ops [oo 4 (.mov (.v .nils)), oo 5 (.mov (.v .nils)), oo 6 (.mov (.v (.int .i64 9)))]) .ret) .skip)) (.seq (.ops [oo 23 (.mov (.t 0)), oo 24 (.mov (.t 1)), oo 25 (.slice 3 (.t 23) none (some (.t 24)) none), oo 27 (.mov (.t 0)), oo 28 (.mov (.t 1)), oo 29 (.slice 3 (.t 27) (some (.t 28)) none none), oo 26 (.call 68 [(.t 25)]), oo 30 (.call 68 [(.t 29)]), oo 31 (.mov (.t 26)), oo 32 (.mov (.t 30)), oo 33 (.mov (.v (.int .i64 0))), oo 15 (.mov (.t 23)), oo 16 (.mov (.t 24)), oo 17 (.mov (.t 25)), oo 19 (.mov (.t 27)), oo 20 (.mov (.t 28)), oo 21 (.mov (.t 29)), oo 18 (.mov (.t 26)), oo 22 (.mov (.t 30)), oo 4 (.mov (.t 31)), oo 5 (.mov (.t 32)), oo 6 (.mov (.t 33))]) .ret)))⟩
theorem c82 : aD Tryz.prog 82 = some F82 := by kernel_rfl
theorem UR (l : List Val) (k : Int) (H : AH) (hl : l.length < 1099511627776) : aC Tryz.prog 82 [aS l, .int .i64 k] H fun r H' => r = GY l k ∧ H' = H := by
  refine aW c82 (v := GY l k) (fun n => ?_) (by simp [F82]) ?_
  · unfold GY
    split <;> simp [cl, cls, lL]
  unfold F82
  have hl2 : cZ (aS l) = some l.length := by simp [aS, cZ]
  by_cases h1 : k < 0
  · simp only [push_cast, ↓reduceIte, Nat.reduceEqDiff, reduceCtorEq, Nat.reduceAdd, Nat.reduceLT, Nat.reduceLeDiff, h1, decide_true]
    exact ⟨H, by rw [GY, if_pos (.inl h1)]; exact CC H, List.prefix_refl _⟩
  · by_cases h2 : k > l.length
    · simp only [push_cast, ↓reduceIte, Nat.reduceEqDiff, reduceCtorEq, Nat.reduceAdd, Nat.reduceLT, Nat.reduceLeDiff, h1, h2, hl2, decide_true, decide_false]
      exact ⟨H, by rw [GY, if_pos (.inr h2)]; exact CC H, List.prefix_refl _⟩
    · obtain ⟨j, rfl⟩ : ∃ j : Nat, k = j := ⟨k.toNat, by omega⟩
      have e : GY l j = .tup [aS (l.take j), aS (l.drop j), .int .i64 0] := by
        rw [GY, if_neg (by omega)]
        rfl
      rw [e]
      simp only [push_cast, ↓reduceIte, Nat.reduceEqDiff, reduceCtorEq, Nat.reduceAdd, Nat.reduceLT, Nat.reduceLeDiff, h1, h2, hl2, decide_true, decide_false]
      unfold aS
      rw [fS (k := j) (by rfl) (by rw [List.length_map]; omega)]
      simp only [push_cast, ↓reduceIte, Nat.reduceEqDiff, reduceCtorEq, Nat.reduceAdd, Nat.reduceLT, Nat.reduceLeDiff, ]
      rw [fT (k := j) (by rfl) (by rw [List.length_map]; omega)]
      simp only [push_cast, ↓reduceIte, Nat.reduceEqDiff, reduceCtorEq, Nat.reduceAdd, Nat.reduceLT, Nat.reduceLeDiff, ← List.map_take, ← List.map_drop]
      (refine aC.look (eD _ (l.take j) _ (by simp [elems]) (by simp only [List.length_take]; omega)) ?_; try simp only [push_cast, ↓reduceIte, Nat.reduceEqDiff, reduceCtorEq, Nat.reduceAdd, Nat.reduceLT, Nat.reduceLeDiff, aB, aA])
      (refine aC.look (eD _ (l.drop j) _ (by simp [elems]) (by simp only [List.length_drop]; omega)) ?_; try simp only [push_cast, ↓reduceIte, Nat.reduceEqDiff, reduceCtorEq, Nat.reduceAdd, Nat.reduceLT, Nat.reduceLeDiff, aB, aA])
      exact ⟨_, bZ.refl _ _, by (repeat (first | exact List.prefix_refl _ | refine List.IsPrefix.trans ?_ (List.prefix_append _ _)))⟩
end Go.Eng
end
section
set_option linter.unusedSimpArgs false
set_option linter.unusedVariables false
namespace Go.Eng
open Go Go.Proofs
def cC : List Tm → Tm → Bool
  | [], _ => false
  | p :: r, t => if p.f0 > t.f0 then false else if p.f1 ≤ t.f1 then true else cC r t
def eJ (l : List Tm) : AV := .list 2 (l.map aQ) false
def US : AFn := ⟨24, 2, [.t 4], (.seq (.ops [oo 3 (.box 2 (.t 1)), oo 4 (.mov (.v (.bool false)))]) (.seq (.seq (.ops [oo 7 (.mov (.t 0)), oo 8 (.len (.t 7)), oo 9 (.mov (.v (.int .i64 0)))]) (.block 0 (.loop (.seq (.ops [oo 10 (.bin .lss (.t 9) (.t 8))]) (.seq (.cond (.t 10) .skip (.exit 0)) (.seq (.block 1 (.seq (.ops [oo 11 (.iaddr 2 (.t 7) (.t 9)), oo 12 (.load true 2 (.t 11)), oo 6 (.alloc 2 (.agg [(.int .i64 0), (.int .i64 0)])), on (.store 2 (.t 6) (.t 12))]) (.seq (.seq (.ops [oo 13 (.faddr 0 (.t 6)), oo 14 (.load false 1 (.t 13)), oo 15 (.faddr 0 (.t 3)), oo 16 (.load false 1 (.t 15)), oo 17 (.bin .gtr (.t 14) (.t 16))]) (.cond (.t 17) (.seq (.ops [oo 4 (.mov (.v (.bool false)))]) .ret) .skip)) (.seq (.ops [oo 18 (.faddr 1 (.t 6)), oo 19 (.load false 1 (.t 18)), oo 20 (.faddr 1 (.t 3)), oo 21 (.load false 1 (.t 20)), oo 22 (.bin .leq (.t 19) (.t 21))]) (.cond (.t 22) (.seq (.ops [oo 4 (.mov (.v (.bool true)))]) .ret) .skip))))) (.ops [oo 23 (.bin .add (.t 9) (.v (.int .i64 1))), oo 9 (.mov (.t 23))]))))))) (.seq (.ops [oo 4 (.mov (.v (.bool false)))]) .ret)))⟩
theorem WT : aD Tryz.prog 100 = some US := by kernel_rfl
theorem CD (x : AV) (l : List Tm) (t : Tm) (H : AH) (hx : elems 2 x H = some (l.map aQ)) (hl : l.length < 1099511627776) : aC Tryz.prog 100 [x, aQ t] H fun r H' => r = .bool (cC l t) ∧ H' = H := by
  refine aG WT (fun _ => rfl) (by simp [US]) ?_
  unfold US
  have hlx := aL hx
  simp only [push_cast, ↓reduceIte, Nat.reduceEqDiff, reduceCtorEq, Nat.reduceAdd, Nat.reduceLT, Nat.reduceLeDiff, aB, aA, hlx, aQ]
  refine aI (fun (i : Nat) f H' => (H ++ [aR.live 2 [.agg [.int .i64 t.f0, .int .i64 t.f1]]]) <+: H' ∧ i ≤ l.length ∧ f 9 = .int .i64 i ∧ f 7 = x ∧ f 8 = .int .i64 l.length ∧ f 3 = .ptr H.length 0 0 ∧ cC l t = cC (l.drop i) t) (fun i => l.length - i) 0 ?_ ?_
  · simp [zQ]
  · rintro i f H' ⟨hp, h1, e9, e7, e8, e3, ho⟩
    have hb : obj? H' H.length = some (2, [.agg [.int .i64 t.f0, .int .i64 t.f1]]) := bB hp (bA _ _ _)
    have hlt := aY hb
    have hp0 : H <+: H' := (List.prefix_append _ _).trans hp
    by_cases hi : i < l.length
    · have hi' : (i : Int) < l.length := by omega
      have ax : aF 2 x (.int .i64 (i : Int)) = some (ptk x i 0) := aK hx (by simpa using hi) _
      have lx : (l.map aQ)[i]? = some (aQ l[i]) := by simp [hi]
      have hd : cC l t = cC (l[i] :: l.drop (i + 1)) t := by rw [ho, List.drop_eq_getElem_cons hi]
      simp only [push_cast, ↓reduceIte, Nat.reduceEqDiff, reduceCtorEq, Nat.reduceAdd, Nat.reduceLT, Nat.reduceLeDiff, aB, aA, e9, e7, e8, e3, hlx, List.length_map, hi', ax, aO hx lx, aN, hp0, aQ, hb, hlt]
      refine pS (fun h2 => ?_) fun h2 => pS (fun h3 => ?_) fun h3 => ⟨i + 1, ⟨by (repeat (first | exact List.prefix_refl _ | refine List.IsPrefix.trans ?_ (List.prefix_append _ _))); exact hp, hi, ?_, ?_⟩, by omega⟩
      · rw [hd, cC, if_pos h2]
      · rw [hd, cC, if_neg h2, if_pos h3]
      · rw [aE (by omega) (by omega)]; simp
      · rw [hd, cC, if_neg h2, if_neg h3]
    · have hi' : ¬ (i : Int) < l.length := by omega
      simp only [push_cast, ↓reduceIte, Nat.reduceEqDiff, reduceCtorEq, Nat.reduceAdd, Nat.reduceLT, Nat.reduceLeDiff, e9, e7, e8, hlx, List.length_map, hi', hp0]
      rw [ho, List.drop_eq_nil_of_le (by omega : l.length ≤ i), cC]
def yA : List Tm → Tm → Tm
  | [], _ => ⟨0, 0⟩
  | p :: r, t => r.foldl (fun b q => jV b (fR t q)) (fR t p)
def F77 : AFn := ⟨31, 2, [.cell 4 true 2], (.seq (.ops [oo 3 (.box 2 (.t 1)), oo 4 (.alloc 2 (.agg [(.int .i64 0), (.int .i64 0)]))]) (.seq (.seq (.ops [oo 8 (.mov (.t 0)), oo 9 (.len (.t 8)), oo 10 (.bin .eql (.t 9) (.v (.int .i64 0)))]) (.cond (.t 10) (.seq (.ops [oo 11 (.build [(.int .i64 0), (.int .i64 0)] []), on (.store 2 (.t 4) (.t 11))]) .ret) .skip)) (.seq (.ops [oo 31 (.load true 2 (.t 3)), oo 32 (.mov (.t 0)), oo 33 (.iaddr 2 (.t 32) (.v (.int .i64 0))), oo 34 (.load true 2 (.t 33)), oo 36 (.alloc 2 (.agg [(.int .i64 0), (.int .i64 0)])), oo 35 (.call 101 [(.t 31), (.t 34)]), oo 37 (.store 2 (.t 36) (.t 35)), oo 12 (.mov (.t 31)), oo 13 (.mov (.t 32)), oo 14 (.mov (.t 33)), oo 15 (.mov (.t 34)), oo 5 (.mov (.t 36)), oo 16 (.mov (.t 35))]) (.seq (.seq (.ops [oo 17 (.mov (.t 0)), oo 18 (.slice 2 (.t 17) (some (.v (.int .i64 1))) none none), oo 19 (.len (.t 18)), oo 20 (.mov (.v (.int .i64 0)))]) (.block 0 (.loop (.seq (.ops [oo 21 (.bin .lss (.t 20) (.t 19))]) (.seq (.cond (.t 21) .skip (.exit 0)) (.seq (.block 1 (.seq (.ops [oo 22 (.iaddr 2 (.t 18) (.t 20)), oo 23 (.load true 2 (.t 22)), oo 7 (.alloc 2 (.agg [(.int .i64 0), (.int .i64 0)])), on (.store 2 (.t 7) (.t 23))]) (.ops [oo 31 (.load true 2 (.t 5)), oo 32 (.load true 2 (.t 3)), oo 33 (.load true 2 (.t 7)), oq 34 (.call 101 [(.t 32), (.t 33)]), oo 35 (.call 102 [(.t 31), (.t 34)]), oo 36 (.store 2 (.t 5) (.t 35)), oo 24 (.mov (.t 31)), oo 25 (.mov (.t 32)), oo 26 (.mov (.t 33)), oo 27 (.mov (.t 34)), oo 28 (.mov (.t 35))]))) (.ops [oo 29 (.bin .add (.t 20) (.v (.int .i64 1))), oo 20 (.mov (.t 29))]))))))) (.seq (.ops [oo 30 (.load true 2 (.t 5)), on (.store 2 (.t 4) (.t 30))]) .ret)))))⟩
theorem c77 : aD Tryz.prog 77 = some F77 := by kernel_rfl
theorem UT (l : List Tm) (t : Tm) (H : AH) (hl : l.length < 1099511627776) : aC Tryz.prog 77 [eJ l, aQ t] H fun r H' => r = aQ (yA l t) ∧ H' = H := by
  refine aG c77 (fun _ => rfl) (by simp [F77]) ?_
  unfold F77
  have hlx : cZ (eJ l) = some l.length := by simp [eJ, cZ]
  cases l with
  | nil =>
    simp only [push_cast, ↓reduceIte, Nat.reduceEqDiff, reduceCtorEq, Nat.reduceAdd, Nat.reduceLT, Nat.reduceLeDiff, aB, aA, hlx, aQ, List.length_nil]
    exact ⟨by (repeat (first | exact List.prefix_refl _ | refine List.IsPrefix.trans ?_ (List.prefix_append _ _))), rfl⟩
  | cons p l =>
    have hz : ¬ (((p :: l).length : Nat) : Int) = 0 := by rw [List.length_cons]; omega
    have ax0 : aF 2 (eJ (p :: l)) (.int .i64 0) = some (.lptr 2 ((p :: l).map aQ) 0 0) := by simp [eJ, aF, nat?]
    have lx : ((p :: l).map aQ)[0]? = some (aQ p) := rfl
    have hl' : l.length < 1099511627775 := by rw [List.length_cons] at hl; omega
    generalize hm : (p :: l).length = m at hz hlx
    simp only [push_cast, ↓reduceIte, Nat.reduceEqDiff, reduceCtorEq, Nat.reduceAdd, Nat.reduceLT, Nat.reduceLeDiff, aB, aA, hlx, aQ, hz, ax0, lx]
    (refine aC.look (JM t p _) ?_; simp only [push_cast, ↓reduceIte, Nat.reduceEqDiff, reduceCtorEq, Nat.reduceAdd, Nat.reduceLT, Nat.reduceLeDiff, aB, aA, aQ, hlx])
    rw [eJ, fT (k := 1) (by rfl) (by simp)]
    simp only [List.map_cons, List.drop_succ_cons, List.drop_zero]
    simp only [push_cast, ↓reduceIte, Nat.reduceEqDiff, reduceCtorEq, Nat.reduceAdd, Nat.reduceLT, Nat.reduceLeDiff, aB, aA, aQ, List.length_map]
    refine aI (fun (s : Nat × Tm) f H' => (H ++ [aR.live 2 [.agg [.int .i64 t.f0, .int .i64 t.f1]]]) <+: H' ∧ s.1 ≤ l.length ∧ f 20 = .int .i64 s.1 ∧ f 18 = .list 2 (l.map aQ) false ∧ f 19 = .int .i64 l.length ∧ f 3 = .ptr H.length 0 0 ∧ f 4 = .ptr (H.length + 1) 0 0 ∧ f 5 = .ptr (H.length + 1 + 1) 0 0 ∧ obj? H' (H.length + 1) = some (2, [.agg [.int .i64 0, .int .i64 0]]) ∧ obj? H' (H.length + 1 + 1) = some (2, [.agg [.int .i64 s.2.f0, .int .i64 s.2.f1]]) ∧ yA (p :: l) t = (l.drop s.1).foldl (fun b q => jV b (fR t q)) s.2) (fun s => l.length - s.1) (0, fR t p) ?_ ?_
    · exact ⟨by (repeat (first | exact List.prefix_refl _ | refine List.IsPrefix.trans ?_ (List.prefix_append _ _))), Nat.zero_le _, rfl, rfl, rfl, rfl, rfl, rfl, (gT (by simp)).trans (fO (by simp)), fO (by simp), rfl⟩
    · rintro ⟨i, b⟩ f H' ⟨hp, h1, e20, e18, e19, e3, e4, e5, o4, o5, ho⟩
      dsimp only at h1 e20 o5 ho
      have hb : obj? H' H.length = some (2, [.agg [.int .i64 t.f0, .int .i64 t.f1]]) := bB hp (bA _ _ _)
      have hlt := aY hb
      have hlt4 := aY o4
      have hlt5 := aY o5
      have hp0 : H <+: H' := (List.prefix_append _ _).trans hp
      by_cases hi : i < l.length
      · have hi' : (i : Int) < l.length := by omega
        have ax : aF 2 (.list 2 (l.map aQ) false) (.int .i64 (i : Int)) = some (.lptr 2 (l.map aQ) i 0) := by simp [aF, nat?, hi]
        have lx : (l.map aQ)[i]? = some (aQ l[i]) := by simp [hi]
        simp only [push_cast, ↓reduceIte, Nat.reduceEqDiff, reduceCtorEq, Nat.reduceAdd, Nat.reduceLT, Nat.reduceLeDiff, aB, aA, e20, e18, e19, e3, e4, e5, hi', ax, lx, aQ, hb, hlt, o5, hlt5]
        (refine aC.look (JM t l[i] _) ?_; simp only [push_cast, ↓reduceIte, Nat.reduceEqDiff, reduceCtorEq, Nat.reduceAdd, Nat.reduceLT, Nat.reduceLeDiff, aB, aA, aQ, e5, hlt5, o5])
        (refine aC.look (RE b (fR t l[i]) _) ?_; simp only [push_cast, ↓reduceIte, Nat.reduceEqDiff, reduceCtorEq, Nat.reduceAdd, Nat.reduceLT, Nat.reduceLeDiff, aB, aA, aQ, e5, hlt5, o5, e20, e18, e19, e3, e4])
        have hd : yA (p :: l) t = (l.drop (i + 1)).foldl (fun b q => jV b (fR t q)) (jV b (fR t l[i])) := by rw [ho, List.drop_eq_getElem_cons hi]; rfl
        refine ⟨(i + 1, jV b (fR t l[i])), ⟨?_, hi, ?_, ?_, ?_, hd⟩, by dsimp only; omega⟩
        · exact aN (bM hp (by simp) _)
        · dsimp only; rw [aE (by omega) (by omega)]; simp
        · rw [gT (by simpa using hlt4), bF (by omega)]; exact o4
        · rw [gT (by simpa using hlt5), bP hlt5]
      · have hi' : ¬ (i : Int) < l.length := by omega
        simp only [push_cast, ↓reduceIte, Nat.reduceEqDiff, reduceCtorEq, Nat.reduceAdd, Nat.reduceLT, Nat.reduceLeDiff, aB, aA, e20, e18, e19, e3, e4, e5, hi', aQ, hb, hlt, o5, hlt5, o4, hlt4, bP hlt4]
        rw [List.drop_eq_nil_of_le (by omega : l.length ≤ i)] at ho
        rw [ho]
        exact ⟨bM hp0 (by omega) _, rfl⟩
end Go.Eng
end
section
set_option linter.unusedSimpArgs false
set_option linter.unusedVariables false
set_option maxRecDepth 10000
namespace Go.Eng
open Go Go.Sort
theorem CE {P : Program} {n : FuncId} {sz : Nat} {ag : Bool} (hc : aD P n = some (JH sz ag)) (x k : AV) (H : AH) : aC P n [x, .int .i64 0, .int .i64 0, k] H fun _ H' => H' = H := by
  refine aU hc (by simp [JH]) ?_
  unfold JH
  have w1 : IntKind.i64.wrap 1 = 1 := by decide
  have c1 : ¬ (1 : Int) < 0 := by decide
  simp only [push_cast, ↓reduceIte, Nat.reduceEqDiff, reduceCtorEq, Nat.reduceAdd, Nat.reduceLT, Nat.reduceLeDiff, w1]
  refine aI (fun (s : Unit) f H' => H' = H ∧ f 2 = .int .i64 0 ∧ f 8 = .int .i64 1) (fun _ => 0) () ⟨rfl, rfl, rfl⟩ ?_
  rintro ⟨⟩ f H' ⟨rfl, e2, e8⟩
  simp only [push_cast, ↓reduceIte, Nat.reduceEqDiff, reduceCtorEq, Nat.reduceAdd, Nat.reduceLT, Nat.reduceLeDiff, e2, e8, c1]
theorem LY {P : Program} {sz : Nat} {ag : Bool} {ki kh kb kc kr kp ke kq kz kl : FuncId} (D : Pdq P sz ag ki kh kb kc kr kp ke kq kz kl) (x k : AV) (z : Int) (H : AH) : aC P kz [x, .int .i64 0, .int .i64 0, .int .i64 z, k] H fun _ H' => H' = H := by
  refine aU D.pdq (by simp [QY]) ?_
  unfold QY tO
  have w1 : IntKind.i64.wrap 0 = 0 := by decide
  have c1 : (0 : Int) ≤ 12 := by decide
  simp only [push_cast, ↓reduceIte, Nat.reduceEqDiff, reduceCtorEq, Nat.reduceAdd, Nat.reduceLT, Nat.reduceLeDiff]
  refine aI (fun (s : Unit) f H' => H' = H ∧ f 0 = x ∧ f 1 = .int .i64 0 ∧ f 2 = .int .i64 0 ∧ f 4 = k) (fun _ => 0) () ⟨rfl, rfl, rfl, rfl, rfl⟩ ?_
  rintro ⟨⟩ f H' ⟨rfl, e0, e1, e2, e4⟩
  simp only [push_cast, ↓reduceIte, Nat.reduceEqDiff, reduceCtorEq, Nat.reduceAdd, Nat.reduceLT, Nat.reduceLeDiff, e0, e1, e2, e4, w1, c1, Int.sub_self, decide_true]
  refine (CE D.ins x k _).mono fun r H' e => ?_
  subst e
  simp only [push_cast, ↓reduceIte, Nat.reduceEqDiff, reduceCtorEq, Nat.reduceAdd, Nat.reduceLT, Nat.reduceLeDiff]
theorem CF {P : Program} {n : FuncId} {sz : Nat} {ag : Bool} {ki kh kb kc kr kp ke kq kz kl : FuncId} (hc : aD P n = some (lG sz ag kz kl)) (D : Pdq P sz ag ki kh kb kc kr kp ke kq kz kl) (x k : AV) (H : AH) (hx : cZ x = some 0) : aC P n [x, k] H fun _ H' => H' = H := by
  refine aU hc (by simp [lG]) ?_
  unfold lG
  obtain ⟨k4, k8, l1, l2⟩ := D.len
  have w1 : IntKind.u64.wrap 0 = 0 := by decide
  simp only [push_cast, ↓reduceIte, Nat.reduceEqDiff, reduceCtorEq, Nat.reduceAdd, Nat.reduceLT, Nat.reduceLeDiff, hx, w1]
  have h := oD l1 l2 0 (by omega) H
  refine aC.look h ?_
  simp only [push_cast, ↓reduceIte, Nat.reduceEqDiff, reduceCtorEq, Nat.reduceAdd, Nat.reduceLT, Nat.reduceLeDiff, w1]
  refine (LY D x k _ _).mono fun r H' e => ?_
  subst e
  simp only [push_cast, ↓reduceIte, Nat.reduceEqDiff, reduceCtorEq, Nat.reduceAdd, Nat.reduceLT, Nat.reduceLeDiff]
theorem LZ {P : Program} {n : FuncId} {sz : Nat} {ag : Bool} {ki kr kw kz : FuncId} (hc : aD P n = some (JK sz ag ki kz)) (D : Sta P sz ag ki kr kw kz) (x k : AV) (H : AH) : aC P n [x, .int .i64 0, k] H fun _ H' => H' = H := by
  refine aU hc (by simp [JK]) ?_
  unfold JK oK
  have c1 : ¬ (20 : Int) ≤ 0 := by decide
  simp only [push_cast, ↓reduceIte, Nat.reduceEqDiff, reduceCtorEq, Nat.reduceAdd, Nat.reduceLT, Nat.reduceLeDiff]
  refine aI (fun (s : Unit) f H' => H' = H ∧ f 0 = x ∧ f 1 = .int .i64 0 ∧ f 2 = k ∧ f 6 = .int .i64 20 ∧ f 7 = .int .i64 0 ∧ f 8 = .int .i64 20) (fun _ => 0) () ⟨rfl, rfl, rfl, rfl, rfl, rfl, rfl⟩ ?_
  rintro ⟨⟩ f H' ⟨rfl, e0, e1, e2, e6, e7, e8⟩
  simp only [push_cast, ↓reduceIte, Nat.reduceEqDiff, reduceCtorEq, Nat.reduceAdd, Nat.reduceLT, Nat.reduceLeDiff, e0, e1, e2, e6, e7, e8, c1]
  refine (CE D.ins x k _).mono fun r H' e => ?_
  subst e
  unfold tQ
  simp only [push_cast, ↓reduceIte, Nat.reduceEqDiff, reduceCtorEq, Nat.reduceAdd, Nat.reduceLT, Nat.reduceLeDiff, e0, e1, e2, e6]
  refine aI (fun (s : Unit) f H2 => H2 = H' ∧ f 1 = .int .i64 0 ∧ f 6 = .int .i64 20) (fun _ => 0) () ?_ ?_
  · simp only [push_cast, ↓reduceIte, Nat.reduceEqDiff, reduceCtorEq, Nat.reduceAdd, Nat.reduceLT, Nat.reduceLeDiff, e1, e6]
  rintro ⟨⟩ f H2 ⟨rfl, e1, e6⟩
  have c2 : ¬ (20 : Int) < 0 := by decide
  simp only [push_cast, ↓reduceIte, Nat.reduceEqDiff, reduceCtorEq, Nat.reduceAdd, Nat.reduceLT, Nat.reduceLeDiff, e1, e6, c2]
theorem MA {P : Program} {n kt : FuncId} {sz : Nat} {ag : Bool} {ki kr kw kz : FuncId} (hc : aD P n = some (OE sz ag kt)) (ht : aD P kt = some (JK sz ag ki kz)) (D : Sta P sz ag ki kr kw kz) (x k : AV) (H : AH) (hx : cZ x = some 0) : aC P n [x, k] H fun _ H' => H' = H := by
  refine aU hc (by simp [OE]) ?_
  unfold OE
  simp only [push_cast, ↓reduceIte, Nat.reduceEqDiff, reduceCtorEq, Nat.reduceAdd, Nat.reduceLT, Nat.reduceLeDiff, hx]
  refine (LZ ht D x k _).mono fun r H' e => ?_
  subst e
  simp only [push_cast, ↓reduceIte, Nat.reduceEqDiff, reduceCtorEq, Nat.reduceAdd, Nat.reduceLT, Nat.reduceLeDiff]
end Go.Eng
end
section
set_option linter.unusedSimpArgs false
set_option linter.unusedVariables false
set_option maxRecDepth 10000
namespace Go.Eng
open Go Go.Proofs
theorem dM {H0 H : AH} {sz : Nat} {v : AV} {l : List AV} (h : Own H0 H sz v l) : elems sz v H = some l := by
  rcases h with ⟨rfl, rfl⟩ | ⟨t, ex, _, rfl, ho⟩
  · rfl
  · simp [elems, ho]
theorem GZ {H0 H : AH} {r : AV} {l : List Tm} (h : Own H0 H 2 r (l.map aQ)) (hp : H0 <+: H) (hs : l.length < 1099511627776) :
    aC Tryz.prog 98 [r, .fn 99 [] []] H fun _ H' => Own H0 H' 2 r ((Stab.sortS cP l).map aQ) ∧ H0 <+: H' := by
  have hlen := Stab.sortS_len GX l
  rcases h with ⟨rfl, e⟩ | ⟨t, ex, ht, rfl, ho⟩
  · have : l = [] := by simpa using e
    subst this
    exact (CF (by kernel_rfl) VX .nils _ H rfl).mono fun _ H' e => by rw [e]; exact ⟨.inl ⟨rfl, rfl⟩, hp⟩
  · have hlt := aY ho
    rw [List.length_map]
    refine (RB ho hs).mono fun _ H' ⟨J, e⟩ => ?_
    subst e
    refine ⟨.inr ⟨t, ex, ht, by rw [List.length_map, hlen], bB (List.prefix_append _ _) (bP hlt)⟩, aN (bM hp ht _)⟩
theorem HA {H0 H : AH} {r : AV} {l : List Upd} (h : Own H0 H 4 r (l.map upA)) (hp : H0 <+: H) (hs : l.length < 1099511627776) (hl : cI l) :
    aC Tryz.prog 105 [r, .fn 80 [] []] H fun _ H' => Own H0 H' 4 r ((Stab.sortS bL l).map upA) ∧ H0 <+: H' := by
  have hlen := Stab.sortS_len iP l
  rcases h with ⟨rfl, e⟩ | ⟨t, ex, ht, rfl, ho⟩
  · have : l = [] := by simpa using e
    subst this
    exact (MA (n := 105) (kt := 119) (by kernel_rfl) (by kernel_rfl) VY .nils _ H rfl).mono fun _ H' e => by rw [e]; exact ⟨.inl ⟨rfl, rfl⟩, hp⟩
  · have hlt := aY ho
    rw [List.length_map]
    refine (RC hl ho hs).mono fun _ H' e => ?_
    subst e
    exact ⟨.inr ⟨t, ex, ht, by rw [List.length_map, hlen], bP hlt⟩, bM hp ht _⟩
theorem CG (x : AV) (l : List Tm) (H : AH) (hx : elems 2 x H = some (l.map aQ)) (hl : l.length < 1099511627776) : aC Tryz.prog 55 [x] H fun r H' => Own H H' 2 r (l.map aQ) ∧ H <+: H' :=
  gB (bytes := 16) (z := .agg [.int .i64 0, .int .i64 0]) (by kernel_rfl) x (l.map aQ) H hx (by rw [List.length_map]; omega)
theorem MB (x : AV) (l : List Upd) (H : AH) (hx : elems 4 x H = some (l.map upA)) (hl : l.length < 1099511627776) : aC Tryz.prog 104 [x] H fun r H' => Own H H' 4 r (l.map upA) ∧ H <+: H' :=
  gB (bytes := 48) (z := .agg [.nils, .int .i64 0, .int .i64 0, .int .i64 0]) (by kernel_rfl) x (l.map upA) H hx (by rw [List.length_map]; omega)
theorem bT {H : AH} {sz t : Nat} {e : AV} {ex : Bool} (h : t = H.length) : elems sz (.ref sz t 0 1 1 ex) (H ++ [.live sz [e]]) = some [e] := by
  simp only [elems, fO h, Option.bind_some]
  simp
def mV (l : List Tm) : List Tm := (Stab.sortS cP l).foldl (fun out t => if cC out t = true then out else out ++ [t]) []
def F74 : AFn := ⟨29, 1, [.t 2], (.seq (.ops [oo 2 (.mov (.v .nils))]) (.seq (.ops [oo 3 (.mov (.v .nils))]) (.seq (.ops [oo 7 (.mov (.t 0)), oo 8 (.call 55 [(.t 7)]), oo 0 (.mov (.t 8))]) (.seq (.ops [oo 9 (.mov (.t 0)), oo 10 (.call 98 [(.t 9), (.v (.fn 99 [] []))])]) (.seq (.seq (.ops [oo 11 (.mov (.t 0)), oo 12 (.len (.t 11)), oo 13 (.mov (.v (.int .i64 0)))]) (.block 0 (.loop (.seq (.ops [oo 14 (.bin .lss (.t 13) (.t 12))]) (.seq (.cond (.t 14) .skip (.exit 0)) (.seq (.block 1 (.seq (.ops [oo 15 (.iaddr 2 (.t 11) (.t 13)), oo 16 (.load true 2 (.t 15)), oo 5 (.alloc 2 (.agg [(.int .i64 0), (.int .i64 0)])), on (.store 2 (.t 5) (.t 16))]) (.seq (.ops [oo 17 (.mov (.t 3)), oo 18 (.mkf 100 [(.t 17)] []), oo 6 (.mov (.t 18))]) (.seq (.ops [oo 19 (.mov (.t 6)), oo 20 (.load true 2 (.t 5)), oo 21 (.callv (.t 19) [(.t 20)]), oo 22 (.un .not (.t 21))]) (.cond (.t 22) (.ops [oo 23 (.mov (.t 3)), oo 24 (.load true 2 (.t 5)), oo 25 (.bsl 2 1 (.agg [(.int .i64 0), (.int .i64 0)]) [(0, (.t 24))]), oo 26 (.app 2 16 (.t 23) (.t 25)), oo 3 (.mov (.t 26))]) .skip))))) (.ops [oo 27 (.bin .add (.t 13) (.v (.int .i64 1))), oo 13 (.mov (.t 27))]))))))) (.seq (.ops [oo 28 (.mov (.t 3)), oo 2 (.mov (.t 28))]) .ret))))))⟩
theorem c74 : aD Tryz.prog 74 = some F74 := by kernel_rfl
theorem UU (x : AV) (l : List Tm) (H : AH) (hx : elems 2 x H = some (l.map aQ)) (hl : l.length < 1099511627776) : aC Tryz.prog 74 [x] H fun r H' => r = eJ (mV l) ∧ H' = H := by
  refine aW c74 (v := eJ (mV l)) (fun n => mG (SX n) _) (by simp [F74]) ?_
  unfold F74
  have hlen := Stab.sortS_len GX l
  simp only [push_cast, ↓reduceIte, Nat.reduceEqDiff, reduceCtorEq, Nat.reduceAdd, Nat.reduceLT, Nat.reduceLeDiff]
  refine (CG x l H hx hl).mono fun r H1 ⟨h1, p1⟩ => ?_
  simp only [push_cast, ↓reduceIte, Nat.reduceEqDiff, reduceCtorEq, Nat.reduceAdd, Nat.reduceLT, Nat.reduceLeDiff]
  refine (GZ h1 p1 hl).mono fun _ H2 ⟨h2, p2⟩ => ?_
  have hr := aL (dM h2)
  have he := dM h2
  unfold mV
  generalize Stab.sortS cP l = S at hr he hlen
  generalize l.length = n at hl hlen
  simp only [push_cast, ↓reduceIte, Nat.reduceEqDiff, reduceCtorEq, Nat.reduceAdd, Nat.reduceLT, Nat.reduceLeDiff, hr, List.length_map, hlen]
  refine aI (fun (s : Nat × List Tm) f H' => H2 <+: H' ∧ s.1 ≤ n ∧ f 13 = .int .i64 s.1 ∧ f 11 = r ∧ f 12 = .int .i64 n ∧ Own H2 H' 2 (f 3) (s.2.map aQ) ∧ s.2.length ≤ s.1 ∧ S.foldl (fun out t => if cC out t = true then out else out ++ [t]) [] = (S.drop s.1).foldl (fun out t => if cC out t = true then out else out ++ [t]) s.2) (fun s => n - s.1) (0, []) ?_ ?_
  · exact ⟨List.prefix_refl _, Nat.zero_le _, rfl, rfl, rfl, .inl ⟨rfl, rfl⟩, Nat.le_refl _, rfl⟩
  · rintro ⟨i, out⟩ f H' ⟨hp, h1, e13, e11, e12, ho, hlo, hd⟩
    dsimp only at h1 e13 ho hlo hd
    generalize hv : f 3 = v at ho
    by_cases hi : i < n
    · have hi' : (i : Int) < n := by omega
      have hi2 : i < S.length := by omega
      have ax : aF 2 r (.int .i64 (i : Int)) = some (ptk r i 0) := aK he (by rw [List.length_map]; exact hi2) _
      have lx : (S.map aQ)[i]? = some (aQ S[i]) := by simp [hi2]
      rw [List.drop_eq_getElem_cons hi2, List.foldl_cons] at hd
      by_cases ha : cC out S[i] = true
      · rw [if_pos ha] at hd
        simp only [push_cast, ↓reduceIte, Nat.reduceEqDiff, reduceCtorEq, Nat.reduceAdd, Nat.reduceLT, Nat.reduceLeDiff, aB, aA, e13, e11, e12, hi', ax, aO he lx, aN, hp, aQ, hv]
        (refine aC.look (CD v out S[i] _ (bJ (dM ho) (List.prefix_append _ _)) (by omega)) ?_; simp only [push_cast, ↓reduceIte, Nat.reduceEqDiff, reduceCtorEq, Nat.reduceAdd, Nat.reduceLT, Nat.reduceLeDiff, aB, aA, ha, e13, e11, e12, hv])
        refine ⟨(i + 1, out), ⟨aN hp, hi, ?_, ho.mono, by dsimp only; omega, hd⟩, by dsimp only; omega⟩
        dsimp only; rw [aE (by omega) (by omega)]; simp
      · rw [if_neg ha] at hd
        rw [Bool.not_eq_true] at ha
        simp only [push_cast, ↓reduceIte, Nat.reduceEqDiff, reduceCtorEq, Nat.reduceAdd, Nat.reduceLT, Nat.reduceLeDiff, aB, aA, e13, e11, e12, hi', ax, aO he lx, aN, hp, aQ, hv]
        (refine aC.look (CD v out S[i] _ (bJ (dM ho) (List.prefix_append _ _)) (by omega)) ?_; simp only [push_cast, ↓reduceIte, Nat.reduceEqDiff, reduceCtorEq, Nat.reduceAdd, Nat.reduceLT, Nat.reduceLeDiff, aB, aA, ha, e13, e11, e12, hv])
        refine ho.mono.mono.xapp (aN (aN hp)) (xs := [aQ S[i]]) (bT (by simp)) (by simp only [List.length_map, List.length_cons, List.length_nil]; omega) fun v' H4 ho' hp' => ?_
        simp only [push_cast, ↓reduceIte, Nat.reduceEqDiff, reduceCtorEq, Nat.reduceAdd, Nat.reduceLT, Nat.reduceLeDiff, e13, e11, e12]
        refine ⟨(i + 1, out ++ [S[i]]), ⟨hp', hi, ?_, ?_, ?_, hd⟩, by dsimp only; omega⟩
        · dsimp only; rw [aE (by omega) (by omega)]; simp
        · rw [List.map_append]; exact ho'
        · dsimp only; rw [List.length_append]; simp only [List.length_cons, List.length_nil]; omega
    · have hi' : ¬ (i : Int) < n := by omega
      simp only [push_cast, ↓reduceIte, Nat.reduceEqDiff, reduceCtorEq, Nat.reduceAdd, Nat.reduceLT, Nat.reduceLeDiff, e13, e11, e12, hi', hv]
      rw [List.drop_eq_nil_of_le (by omega : S.length ≤ i)] at hd
      obtain ⟨H3, w1, w2⟩ := ho.weak hp
      exact ⟨H3, by rw [hd]; exact w1, (p2.trans w2)⟩
end Go.Eng
end
section
set_option linter.unusedSimpArgs false
set_option linter.unusedVariables false
namespace Go.Eng
open Go
def idx : AV → Option Nat
  | .ref _ t _ _ _ _ => some t
  | _ => none
def kill (v : AV) (H : AH) : AH :=
  match v with
  | .ref _ t _ _ _ false => List.set H t .dead
  | _ => H
theorem vE {v : AV} {H : AH} : (kill v H).length = H.length := by
  unfold kill; split <;> simp
theorem iQ {v : AV} {H : AH} {t : Nat} (h : idx v ≠ some t) : obj? (kill v H) t = obj? H t := by
  unfold kill
  split
  · rename_i sz u a b c
    exact bF (fun e => h (by rw [idx, e]))
  · rfl
theorem Own.app_eq {H0 H : AH} {sz bytes : Nat} {v x : AV} {l xs : List AV} (h : Own H0 H sz v l) (hx : elems sz x H = some xs) (hne : xs ≠ []) (hb : (l.length + xs.length) * bytes ≤ 140737488355328) :
    mM sz bytes v x H = some (.ref sz H.length 0 (l ++ xs).length (l ++ xs).length false, kill v H ++ [aR.live sz (l ++ xs)]) := by
  have hpos := List.length_pos_iff.2 hne
  rcases h with ⟨rfl, rfl⟩ | ⟨t, ex, ht, rfl, ho⟩
  · have he0 : elems sz .nils H = some [] := rfl
    unfold mM
    simp only [hx, he0, Option.bind_some]
    rw [if_neg hne, if_pos hb]
    rfl
  · have he : elems sz (.ref sz t 0 l.length l.length ex) H = some l := by
      simp [elems, ho]
    cases ex with
    | true =>
      unfold mM
      simp only [hx, he, Option.bind_some]
      rw [if_neg hne, if_pos hb, if_neg (by omega)]
      rfl
    | false =>
      unfold mM
      simp only [hx, he, Option.bind_some]
      rw [if_neg hne, if_pos hb, if_neg (by omega)]
      simp [fresh, kill]
theorem Own.kept {H0 H J : AH} {sz : Nat} {v w : AV} {l : List AV} (h : Own H0 H sz w l) (hne : ∀ t, idx w = some t → idx v ≠ some t) : Own H0 (kill v H ++ J) sz w l := by
  rcases h with h | ⟨t, ex, ht, rfl, ho⟩
  · exact .inl h
  · refine .inr ⟨t, ex, ht, rfl, ?_⟩
    rw [← iQ (hne t rfl)] at ho
    exact bB (List.prefix_append _ _) ho
theorem Own.fresh {H0 H : AH} {sz : Nat} {v : AV} {l : List AV} (hp : H0 <+: H) : Own H0 (kill v H ++ [aR.live sz l]) sz (.ref sz H.length 0 l.length l.length false) l :=
  .inr ⟨H.length, false, hp.length_le, rfl, by rw [← vE (v := v)]; exact bA _ _ _⟩
theorem Own.killed {H0 H J : AH} {sz : Nat} {v : AV} {l : List AV} (h : Own H0 H sz v l) (hp : H0 <+: H) : H0 <+: kill v H ++ J := by
  refine aN ?_
  rcases h with ⟨rfl, _⟩ | ⟨t, ex, ht, rfl, _⟩
  · exact hp
  · cases ex with
    | true => exact hp
    | false => exact bM hp ht _
theorem Own.idx_lt {H0 H : AH} {sz : Nat} {v : AV} {l : List AV} (h : Own H0 H sz v l) {t : Nat} (ht : idx v = some t) : H0.length ≤ t ∧ t < H.length := by
  rcases h with ⟨rfl, _⟩ | ⟨u, ex, hu, rfl, ho⟩
  · cases ht
  · cases ht; exact ⟨hu, aY ho⟩
end Go.Eng
end
section
set_option linter.unusedSimpArgs false
set_option linter.unusedVariables false
set_option maxRecDepth 10000
namespace Go.Eng
open Go Go.Proofs
def bO (l : List (List Val)) : AV := .list 1 (l.map aS) false
def F65 : AFn := ⟨17, 1, [.t 2], (.seq (.ops [oo 2 (.mov (.v .nils))]) (.seq (.ops [oo 3 (.mov (.v .nils))]) (.seq (.seq (.ops [oo 6 (.mov (.t 0)), oo 7 (.len (.t 6)), oo 8 (.mov (.v (.int .i64 0)))]) (.block 0 (.loop (.seq (.ops [oo 9 (.bin .lss (.t 8) (.t 7))]) (.seq (.cond (.t 9) .skip (.exit 0)) (.seq (.block 1 (.seq (.ops [oo 10 (.iaddr 1 (.t 6) (.t 8)), oo 11 (.load false 1 (.t 10)), oo 5 (.mov (.t 11))]) (.ops [oo 12 (.mov (.t 3)), oo 13 (.mov (.t 5)), oo 14 (.app 3 32 (.t 12) (.t 13)), oo 3 (.mov (.t 14))]))) (.ops [oo 15 (.bin .add (.t 8) (.v (.int .i64 1))), oo 8 (.mov (.t 15))]))))))) (.seq (.ops [oo 16 (.mov (.t 3)), oo 2 (.mov (.t 16))]) .ret))))⟩
theorem c65 : aD Tryz.prog 65 = some F65 := by kernel_rfl
theorem RF (x : AV) (l : List (List Val)) (H : AH) (hx : elems 1 x H = some (l.map aS)) (hl : l.length < 1099511627776) (hf : l.flatten.length < 1099511627776) : aC Tryz.prog 65 [x] H fun r H' => r = aS l.flatten ∧ H' = H := by
  refine aW c65 (v := aS l.flatten) (fun n => lL n _) (by simp [F65]) ?_
  unfold F65
  have hr := aL hx
  simp only [push_cast, ↓reduceIte, Nat.reduceEqDiff, reduceCtorEq, Nat.reduceAdd, Nat.reduceLT, Nat.reduceLeDiff, hr, List.length_map]
  refine aI (fun (s : Nat × List Val) f H' => H <+: H' ∧ s.1 ≤ l.length ∧ f 8 = .int .i64 s.1 ∧ f 6 = x ∧ f 7 = .int .i64 l.length ∧ Own H H' 3 (f 3) (s.2.map eC) ∧ l.flatten = s.2 ++ (l.drop s.1).flatten) (fun s => l.length - s.1) (0, []) ?_ ?_
  · exact ⟨List.prefix_refl _, Nat.zero_le _, rfl, rfl, rfl, .inl ⟨rfl, rfl⟩, rfl⟩
  · rintro ⟨i, out⟩ f H' ⟨hp, h1, e8, e6, e7, ho, hd⟩
    dsimp only at h1 e8 ho hd
    generalize hv : f 3 = v at ho
    by_cases hi : i < l.length
    · have hi' : (i : Int) < l.length := by omega
      have ax : aF 1 x (.int .i64 (i : Int)) = some (ptk x i 0) := aK hx (by rw [List.length_map]; exact hi) _
      have lx : (l.map aS)[i]? = some (aS l[i]) := by simp [hi]
      rw [List.drop_eq_getElem_cons hi, List.flatten_cons] at hd
      have hb : out.length + l[i].length < 1099511627776 := by
        have := congrArg List.length hd
        simp only [List.length_append] at this
        omega
      generalize l[i] = r at lx hd hb
      have pr : part false 1 0 (aS r) = some (aS r) := rfl
      simp only [push_cast, ↓reduceIte, Nat.reduceEqDiff, reduceCtorEq, Nat.reduceAdd, Nat.reduceLT, Nat.reduceLeDiff, aB, aA, e8, e6, e7, hi', ax, aO hx lx, hp, hv, pr]
      refine ho.xapp hp (xs := r.map eC) rfl (by simp only [List.length_map]; omega) fun v' H4 ho' hp' => ?_
      simp only [push_cast, ↓reduceIte, Nat.reduceEqDiff, reduceCtorEq, Nat.reduceAdd, Nat.reduceLT, Nat.reduceLeDiff, e8, e6, e7]
      refine ⟨(i + 1, out ++ r), ⟨hp', hi, ?_, ?_, ?_⟩, by dsimp only; omega⟩
      · dsimp only; rw [aE (by omega) (by omega)]; simp
      · rw [List.map_append]; exact ho'
      · dsimp only; rw [hd, List.append_assoc]
    · have hi' : ¬ (i : Int) < l.length := by omega
      simp only [push_cast, ↓reduceIte, Nat.reduceEqDiff, reduceCtorEq, Nat.reduceAdd, Nat.reduceLT, Nat.reduceLeDiff, e8, e6, e7, hi', hv]
      rw [List.drop_eq_nil_of_le (by omega : l.length ≤ i)] at hd
      obtain ⟨H3, w1, w2⟩ := ho.weak hp
      exact ⟨H3, by rw [hd, List.flatten_nil, List.append_nil]; exact w1, w2⟩
def F62 : AFn := ⟨19, 1, [.t 2], (.seq (.ops [oo 2 (.mov (.v .nils))]) (.seq (.ops [oo 3 (.mov (.v .nils))]) (.seq (.seq (.ops [oo 6 (.mov (.t 0)), oo 7 (.len (.t 6)), oo 8 (.mov (.v (.int .i64 0)))]) (.block 0 (.loop (.seq (.ops [oo 9 (.bin .lss (.t 8) (.t 7))]) (.seq (.cond (.t 9) .skip (.exit 0)) (.seq (.block 1 (.seq (.ops [oo 10 (.iaddr 1 (.t 6) (.t 8)), oo 11 (.load false 1 (.t 10)), oo 5 (.mov (.t 11))]) (.ops [oo 12 (.mov (.t 3)), oo 13 (.mov (.t 5)), oo 14 (.call 68 [(.t 13)]), oo 15 (.bsl 1 1 .nils [(0, (.t 14))]), oo 16 (.app 1 24 (.t 12) (.t 15)), oo 3 (.mov (.t 16))]))) (.ops [oo 17 (.bin .add (.t 8) (.v (.int .i64 1))), oo 8 (.mov (.t 17))]))))))) (.seq (.ops [oo 18 (.mov (.t 3)), oo 2 (.mov (.t 18))]) .ret))))⟩
theorem c62 : aD Tryz.prog 62 = some F62 := by kernel_rfl
theorem HB (x : AV) (l : List (List Val)) (H : AH) (hx : elems 1 x H = some (l.map aS)) (hl : l.length < 1099511627776) (hs : ∀ r ∈ l, r.length < 1099511627776) : aC Tryz.prog 62 [x] H fun r H' => r = bO l ∧ H' = H := by
  refine aW c62 (v := bO l) (fun n => mG (lL n) _) (by simp [F62]) ?_
  unfold F62
  have hr := aL hx
  simp only [push_cast, ↓reduceIte, Nat.reduceEqDiff, reduceCtorEq, Nat.reduceAdd, Nat.reduceLT, Nat.reduceLeDiff, hr, List.length_map]
  refine aI (fun (i : Nat) f H' => H <+: H' ∧ i ≤ l.length ∧ f 8 = .int .i64 i ∧ f 6 = x ∧ f 7 = .int .i64 l.length ∧ Own H H' 1 (f 3) ((l.take i).map aS)) (fun i => l.length - i) 0 ?_ ?_
  · exact ⟨List.prefix_refl _, Nat.zero_le _, rfl, rfl, rfl, .inl ⟨rfl, rfl⟩⟩
  · rintro i f H' ⟨hp, h1, e8, e6, e7, ho⟩
    generalize hv : f 3 = v at ho
    by_cases hi : i < l.length
    · have hi' : (i : Int) < l.length := by omega
      have ax : aF 1 x (.int .i64 (i : Int)) = some (ptk x i 0) := aK hx (by rw [List.length_map]; exact hi) _
      have lx : (l.map aS)[i]? = some (aS l[i]) := by simp [hi]
      have ht : l.take (i + 1) = l.take i ++ [l[i]] := (List.take_append_getElem hi).symm
      have hsr := hs _ (List.getElem_mem hi)
      generalize l[i] = r at lx ht hsr
      have pr : part false 1 0 (aS r) = some (aS r) := rfl
      have sr : dH (aS r) = true := rfl
      have cr : cells (aS r) = [aS r] := rfl
      simp only [push_cast, ↓reduceIte, Nat.reduceEqDiff, reduceCtorEq, Nat.reduceAdd, Nat.reduceLT, Nat.reduceLeDiff, aB, aA, e8, e6, e7, hi', ax, aO hx lx, hp, hv, pr]
      (refine aC.look (eD _ r _ rfl hsr) ?_; simp only [push_cast, ↓reduceIte, Nat.reduceEqDiff, reduceCtorEq, Nat.reduceAdd, Nat.reduceLT, Nat.reduceLeDiff, aB, aA, e8, e6, e7, hv, sr, cr])
      refine ho.mono.xapp (aN hp) (xs := [aS r]) (bT rfl) (by simp only [List.length_map, List.length_take, List.length_cons, List.length_nil]; omega) fun v' H4 ho' hp' => ?_
      simp only [push_cast, ↓reduceIte, Nat.reduceEqDiff, reduceCtorEq, Nat.reduceAdd, Nat.reduceLT, Nat.reduceLeDiff, e8, e6, e7]
      refine ⟨i + 1, ⟨hp', hi, ?_, ?_⟩, by omega⟩
      · rw [aE (by omega) (by omega)]; simp
      · rw [ht, List.map_append]; exact ho'
    · have hi' : ¬ (i : Int) < l.length := by omega
      simp only [push_cast, ↓reduceIte, Nat.reduceEqDiff, reduceCtorEq, Nat.reduceAdd, Nat.reduceLT, Nat.reduceLeDiff, e8, e6, e7, hi', hv]
      rw [List.take_of_length_le (by omega)] at ho
      obtain ⟨H3, w1, w2⟩ := ho.weak hp
      exact ⟨H3, w1, w2⟩
end Go.Eng
end
section
set_option linter.unusedSimpArgs false
set_option linter.unusedVariables false
set_option maxRecDepth 10000
namespace Go.Eng
open Go Go.Proofs
theorem bft : (false != true) = true := Eq.trans rfl rfl
theorem btf : (true != false) = true := Eq.trans rfl rfl
attribute [push_cast] bft btf
structure Bt where
  key : Int
  weight : Int
  since : List Tm
  keys : List (List Val)
  kends : List Int
  rests : List (List Val)
  rends : List Int
  times : List Tm
  ws : List Int
def jP (z : Int) : AV := .int .i64 z
def mH (l : List Int) : AV := .list 1 (l.map jP) false
def vG (b : Bt) : AV := .agg [.int .i64 b.key, .int .i64 b.weight, eJ b.since, bO b.keys, mH b.kends, bO b.rests, mH b.rends, eJ b.times, mH b.ws]
def gF (b : Bt) : AV := .lptr 9 [vG b] 0 0
structure OH (b : Bt) : Prop where
  since : b.since.length < 1099511627776
  keys : b.keys.length < 1099511627776
  kl : ∀ r ∈ b.keys, r.length < 1099511627776
  rests : b.rests.length < 1099511627776
  rl : ∀ r ∈ b.rests, r.length < 1099511627776
def F18 : AFn := ⟨9, 1, [.t 2], (.seq (.ops [oo 2 (.mov (.v (.int .i64 0)))]) (.seq (.seq (.ops [oo 3 (.mov (.t 0)), oo 4 (.eqn 0 false (.t 3))]) (.cond (.t 4) (.seq (.ops [oo 2 (.mov (.v (.int .i64 0)))]) .ret) .skip)) (.seq (.ops [oo 5 (.mov (.t 0)), oo 6 (.nilc (.t 5)), oo 7 (.faddr 0 (.t 6)), oo 8 (.load false 1 (.t 7)), oo 2 (.mov (.t 8))]) .ret)))⟩
theorem c18 : aD Tryz.prog 18 = some F18 := by kernel_rfl
theorem RG (b : Bt) (H : AH) : aC Tryz.prog 18 [gF b] H fun r H' => r = .int .i64 b.key ∧ H' = H := by
  refine aG c18 (fun _ => rfl) (by simp [F18]) ?_
  unfold F18 gF
  simp only [push_cast, ↓reduceIte, Nat.reduceEqDiff, reduceCtorEq, Nat.reduceAdd, Nat.reduceLT, Nat.reduceLeDiff, aB, aA, vG]
  (repeat (first | exact List.prefix_refl _ | refine List.IsPrefix.trans ?_ (List.prefix_append _ _)))
def F22 : AFn := ⟨10, 1, [.t 2], (.seq (.ops [oo 2 (.mov (.v .nils))]) (.seq (.seq (.ops [oo 3 (.mov (.t 0)), oo 4 (.eqn 0 false (.t 3))]) (.cond (.t 4) (.seq (.ops [oo 2 (.mov (.v .nils))]) .ret) .skip)) (.seq (.ops [oo 5 (.mov (.t 0)), oo 6 (.nilc (.t 5)), oo 7 (.faddr 3 (.t 6)), oo 8 (.load false 1 (.t 7)), oo 9 (.call 62 [(.t 8)]), oo 2 (.mov (.t 9))]) .ret)))⟩
theorem c22 : aD Tryz.prog 22 = some F22 := by kernel_rfl
theorem RH (b : Bt) (hb : OH b) (H : AH) : aC Tryz.prog 22 [gF b] H fun r H' => r = bO b.keys ∧ H' = H := by
  refine aG c22 (fun n => mG (lL n) _) (by simp [F22]) ?_
  unfold F22 gF
  simp only [push_cast, ↓reduceIte, Nat.reduceEqDiff, reduceCtorEq, Nat.reduceAdd, Nat.reduceLT, Nat.reduceLeDiff, aB, aA, vG, bO]
  refine aC.look (HB _ b.keys _ rfl hb.keys hb.kl) ?_
  simp only [push_cast, ↓reduceIte, Nat.reduceEqDiff, reduceCtorEq, Nat.reduceAdd, Nat.reduceLT, Nat.reduceLeDiff]
  exact ⟨List.prefix_refl _, rfl⟩
def SY (b : Bt) (i : Int) : Bool := decide (0 ≤ i ∧ i < b.keys.length)
def F63 : AFn := ⟨20, 2, [.t 4], (.seq (.ops [oo 4 (.mov (.v (.bool false)))]) (.seq (.ops [oo 5 (.mov (.t 0)), oo 6 (.eqn 0 true (.t 5)), oo 7 (.mov (.t 6)), og 8 7 true (.mov (.t 1)), og 9 7 true (.bin .geq (.t 8) (.v (.int .i64 0))), oo 10 (.pick (.t 7) (.t 9) (.v (.bool false))), oo 11 (.mov (.t 10)), og 12 11 true (.mov (.t 1)), og 13 11 true (.mov (.t 0)), og 14 11 true (.nilc (.t 13)), og 15 11 true (.faddr 3 (.t 14)), og 16 11 true (.load false 1 (.t 15)), og 17 11 true (.len (.t 16)), og 18 11 true (.bin .lss (.t 12) (.t 17)), oo 19 (.pick (.t 11) (.t 18) (.v (.bool false))), oo 4 (.mov (.t 19))]) .ret))⟩
theorem c63 : aD Tryz.prog 63 = some F63 := by kernel_rfl
theorem UV (b : Bt) (i : Int) (H : AH) : aC Tryz.prog 63 [gF b, .int .i64 i] H fun r H' => r = .bool (SY b i) ∧ H' = H := by
  refine aG c63 (fun _ => rfl) (by simp [F63]) ?_
  unfold F63 gF SY
  by_cases h1 : i ≥ 0
  · by_cases h2 : i < b.keys.length
    · simp only [push_cast, ↓reduceIte, Nat.reduceEqDiff, reduceCtorEq, Nat.reduceAdd, Nat.reduceLT, Nat.reduceLeDiff, aB, aA, vG, bO, List.length_map, h1, h2, decide_true]
      exact List.prefix_refl _
    · simp only [push_cast, ↓reduceIte, Nat.reduceEqDiff, reduceCtorEq, Nat.reduceAdd, Nat.reduceLT, Nat.reduceLeDiff, aB, aA, vG, bO, List.length_map, h1, h2, decide_true, decide_false]
      exact List.prefix_refl _
  · simp only [push_cast, ↓reduceIte, Nat.reduceEqDiff, reduceCtorEq, Nat.reduceAdd, Nat.reduceLT, Nat.reduceLeDiff, aB, aA, vG, bO, List.length_map, h1, decide_false]
    exact ⟨List.prefix_refl _, by simp⟩
def qQ (l : List Int) (i : Nat) : Int × Int := (if 0 < i then l.getD (i - 1) 0 else 0, l.getD i 0)
def F64 : AFn := ⟨18, 2, [.t 4, .t 5], (.seq (.ops [oo 4 (.mov (.v (.int .i64 0))), oo 5 (.mov (.v (.int .i64 0)))]) (.seq (.seq (.ops [oo 6 (.mov (.t 1)), oo 7 (.bin .gtr (.t 6) (.v (.int .i64 0)))]) (.cond (.t 7) (.ops [oo 8 (.mov (.t 0)), oo 9 (.mov (.t 1)), oo 10 (.bin .sub (.t 9) (.v (.int .i64 1))), oo 11 (.iaddr 1 (.t 8) (.t 10)), oo 12 (.load false 1 (.t 11)), oo 4 (.mov (.t 12))]) .skip)) (.seq (.ops [oo 18 (.mov (.t 4)), oo 19 (.mov (.t 0)), oo 20 (.mov (.t 1)), oo 21 (.iaddr 1 (.t 19) (.t 20)), oo 22 (.load false 1 (.t 21)), oo 23 (.mov (.t 18)), oo 24 (.mov (.t 22)), oo 13 (.mov (.t 18)), oo 14 (.mov (.t 19)), oo 15 (.mov (.t 20)), oo 16 (.mov (.t 21)), oo 17 (.mov (.t 22)), oo 4 (.mov (.t 23)), oo 5 (.mov (.t 24))]) .ret)))⟩
theorem c64 : aD Tryz.prog 64 = some F64 := by kernel_rfl
theorem JN (l : List Int) (i : Nat) (hi : i < l.length) (hl : l.length < 1099511627776) (H : AH) : aC Tryz.prog 64 [mH l, .int .i64 i] H fun r H' => r = .tup [.int .i64 (qQ l i).1, .int .i64 (qQ l i).2] ∧ H' = H := by
  refine aG c64 (fun _ => rfl) (by simp [F64]) ?_
  unfold F64 qQ
  have ax : aF 1 (mH l) (.int .i64 (i : Int)) = some (.lptr 1 (l.map jP) i 0) := by simp [mH, aF, nat?, hi]
  have lx : (l.map jP)[i]? = some (.int .i64 l[i]) := by simp [hi, jP]
  have e1 : l.getD i 0 = l[i] := by simp [hi]
  have pi : ∀ z, part false 1 0 (.int .i64 z) = some (.int .i64 z) := fun _ => rfl
  by_cases h0 : 0 < i
  · have h0' : (i : Int) > 0 := by omega
    have w1 : IntKind.i64.wrap ((i : Int) - 1) = ((i - 1 : Nat) : Int) := aX (by omega) (by omega)
    have hj : i - 1 < l.length := by omega
    have ay : aF 1 (mH l) (.int .i64 ((i - 1 : Nat) : Int)) = some (.lptr 1 (l.map jP) (i - 1) 0) := by simp [mH, aF, nat?, hj]
    have ly : (l.map jP)[i - 1]? = some (.int .i64 l[i - 1]) := by simp [hj, jP]
    have e2 : l.getD (i - 1) 0 = l[i - 1] := by simp [hj]
    rw [if_pos h0, e1, e2]
    generalize i - 1 = j at w1 hj ay ly
    simp only [push_cast, ↓reduceIte, Nat.reduceEqDiff, reduceCtorEq, Nat.reduceAdd, Nat.reduceLT, Nat.reduceLeDiff, aB, aA, h0', w1, ax, ay, lx, ly, pi]
    (repeat (first | exact List.prefix_refl _ | refine List.IsPrefix.trans ?_ (List.prefix_append _ _)))
  · have h0' : ¬ (i : Int) > 0 := by omega
    rw [if_neg h0, e1]
    simp only [push_cast, ↓reduceIte, Nat.reduceEqDiff, reduceCtorEq, Nat.reduceAdd, Nat.reduceLT, Nat.reduceLeDiff, aB, aA, h0', ax, lx, pi]
    (repeat (first | exact List.prefix_refl _ | refine List.IsPrefix.trans ?_ (List.prefix_append _ _)))
end Go.Eng
end
section
set_option linter.unusedVariables false
namespace Go.Eng
open Go
def yB (l : List Int) : List Int := l.set (l.length - 1) (l.getD (l.length - 1) 0 + 1)
def cE (a b : List Val) : Bool := decide (bG a b = 0)
theorem cW (a b : List Val) : cE a b = true ↔ bG a b = 0 := by simp [cE]
def lM (l : List (List Val)) (r : List Val) : Bool :=
  match l.getLast? with
  | none => true
  | some x => !cE x r
def yC (b : Bt) (k : List Val) : Bt := { b with keys := b.keys ++ [k], kends := b.kends ++ [(b.rests.length : Int)] }
def oS (b : Bt) (r : List Val) : Bt := { b with rests := b.rests ++ [r], rends := b.rends ++ [(b.times.length : Int)], kends := yB b.kends }
def kC (b : Bt) (t : Tm) (w : Int) : Bt := { b with times := b.times ++ [t], ws := b.ws ++ [w], rends := yB b.rends }
def lN (b : Bt) (u : Upd) : Bt :=
  if lM b.keys (u.f0.take b.key.toNat) = true then kC (oS (yC b (u.f0.take b.key.toNat)) (u.f0.drop b.key.toNat)) u.f1 u.f2
  else if lM b.rests (u.f0.drop b.key.toNat) = true then kC (oS b (u.f0.drop b.key.toNat)) u.f1 u.f2
  else kC b u.f1 u.f2
theorem oT (b : Bt) (u : Upd) : (lN b u).key = b.key ∧ (lN b u).weight = b.weight ∧ (lN b u).since = b.since ∧ (lN b u).times = b.times ++ [u.f1] ∧ (lN b u).ws = b.ws ++ [u.f2] := by
  unfold lN
  split
  · exact ⟨rfl, rfl, rfl, rfl, rfl⟩
  · split <;> exact ⟨rfl, rfl, rfl, rfl, rfl⟩
def bU (b : Bt) (l : List Upd) : Bt := l.foldl lN b
theorem mW (l : List Upd) : ∀ b : Bt, (bU b l).key = b.key ∧ (bU b l).weight = b.weight ∧ (bU b l).since = b.since ∧ (bU b l).times = b.times ++ l.map (·.f1) ∧ (bU b l).ws = b.ws ++ l.map (·.f2) := by
  induction l with
  | nil => intro b; simp [bU]
  | cons u r ih =>
    intro b
    obtain ⟨a1, a2, a3, a4, a5⟩ := oT b u
    obtain ⟨h1, h2, h3, h4, h5⟩ := ih (lN b u)
    exact ⟨h1.trans a1, h2.trans a2, h3.trans a3, by rw [show bU b (u :: r) = bU (lN b u) r from rfl, h4, a4]; simp, by rw [show bU b (u :: r) = bU (lN b u) r from rfl, h5, a5]; simp⟩
end Go.Eng
end
section
set_option linter.unusedVariables false
set_option linter.unusedSimpArgs false
namespace Go.Eng
open Go
theorem bZ.lptr {H H' : AH} {sz i k m : Nat} {cs : List AV} {v v' : AV} (h : bZ H v H' v') (hc : cs[m]? = some v) (sv : dH v' = true) : bZ H (.lptr sz [.agg cs] i k) H' (.lptr sz [.agg (cs.set m v')] i k) := fun K w cv hr r => by
  cases r with
  | lptr hb hn hs hrr =>
    obtain ⟨K', e1, e2, e3⟩ := h K w _ hr (hrr 0 m (.agg cs) v rfl hc)
    refine ⟨K', e1, e2, .lptr (e1.le.fz _ _ hb) (by simpa using hn) (fun x hx => ?_) fun i' k' x y hx hy => ?_⟩
    · have := hs (.agg cs) (by simp)
      rw [List.mem_singleton] at hx
      subst hx
      refine ⟨by simpa [cells] using this.1, fun y hy => ?_⟩
      rcases List.mem_or_eq_of_mem_set hy with h | h
      · exact this.2 y h
      · rw [h]; exact sv
    · have hi0 : i' = 0 := by
        cases i' with
        | zero => rfl
        | succ n => simp at hx
      subst hi0
      simp only [List.getElem?_cons_zero, Option.some.injEq] at hx
      subst hx
      simp only [cells] at hy
      rw [List.getElem?_set] at hy
      split at hy
      · rename_i e
        split at hy
        · cases hy; rw [← e]; exact e3
        · cases hy
      · exact (hrr 0 k' (.agg cs) y rfl hy).mono e1.le
theorem bZ.ptr {H : AH} {t i k sz : Nat} {es : List AV} (h : obj? H t = some (sz, es)) : bZ H (.ptr t i k) (List.set H t .dead) (.lptr sz es i k) := fun K w cv hr r => by
  cases r with
  | ptr hp =>
    rename_i p
    have hl := obj?_some h
    have L := hr.live t p sz es hp hl
    obtain ⟨o, h1, h2, h3⟩ := hr.frozen hp hl
    refine ⟨_, h3, h2, ?_⟩
    obtain ⟨cs, T, hb, hs, hrd⟩ := L.block
    have ho : o = .cells cs T (0, 0) := by rw [hb] at h1; exact (Option.some.inj h1).symm
    subst ho
    have hsz := L.psz
    have := Nat.mul_le_mul_right sz L.len
    have key := RelV.lptr (K := K.freeze p.b (.cells cs T (0, 0))) (sz := sz) (l := es) (i := i) (k := k) (b := p.b) (off := p.off) (cs := cs) (T := T) (fr := (0, 0)) (by simp [KW.freeze]) (by omega) L.fit (fun i k x y hx hy => (hrd _ _ _ _ hx hy).mono h3.le)
    unfold bK.at
    rw [hsz]
    exact key
end Go.Eng
end
section
set_option linter.unusedVariables false
namespace Go.Eng
open Go
theorem Own.dead {H0 H : AH} {sz t : Nat} {w : AV} {l : List AV} (h : Own H0 H sz w l) (hne : idx w ≠ some t) : Own H0 (List.set H t .dead) sz w l := by
  rcases h with h | ⟨u, ex, hu, rfl, ho⟩
  · exact .inl h
  · refine .inr ⟨u, ex, hu, rfl, ?_⟩
    rw [bF (fun e => hne (by rw [idx, e]))]
    exact ho
end Go.Eng
end
section
set_option linter.unusedVariables false
namespace Go.Eng
open Go
structure OBL (H0 H : AH) (t : Nat) (hd vs : List AV) (ls : List (Nat × List AV)) : Prop where
  pre : H0 <+: H
  lt : H0.length ≤ t
  ob : obj? H t = some (hd.length + vs.length, [.agg (hd ++ vs)])
  own : ∀ (i : Nat) v l, vs[i]? = some v → ls[i]? = some l → Own H0 H l.1 v l.2
  ap : ∀ (i j : Nat) v w u, i ≠ j → vs[i]? = some v → vs[j]? = some w → idx v = some u → idx w ≠ some u
  apt : ∀ (i : Nat) v, vs[i]? = some v → idx v ≠ some t
  len : vs.length = ls.length
theorem Own.set_other {H0 H : AH} {sz t : Nat} {w : AV} {l : List AV} {o : aR} (h : Own H0 H sz w l) (hne : idx w ≠ some t) : Own H0 (List.set H t o) sz w l := by
  rcases h with h | ⟨u, ex, hu, rfl, ho⟩
  · exact .inl h
  · refine .inr ⟨u, ex, hu, rfl, ?_⟩
    rw [bF (fun e => hne (by rw [idx, e]))]
    exact ho
theorem OBL.app {H0 H : AH} {t j sz : Nat} {hd vs : List AV} {ls : List (Nat × List AV)} {v : AV} {l xs : List AV} (O : OBL H0 H t hd vs ls) (hj : vs[j]? = some v) (hl : ls[j]? = some (sz, l)) :
    OBL H0 (List.set (kill v H ++ [.live sz (l ++ xs)]) t (.live (hd.length + vs.length) [.agg (hd ++ vs.set j (.ref sz H.length 0 (l ++ xs).length (l ++ xs).length false))])) t hd (vs.set j (.ref sz H.length 0 (l ++ xs).length (l ++ xs).length false)) (ls.set j (sz, l ++ xs)) := by
  have ov := O.own _ _ _ hj hl
  have ht := aY O.ob
  have hlt : t < (kill v H ++ [aR.live sz (l ++ xs)]).length := by rw [List.length_append, vE]; omega
  have old : ∀ (i : Nat) w, (vs.set j (.ref sz H.length 0 (l ++ xs).length (l ++ xs).length false))[i]? = some w → (i = j ∧ w = .ref sz H.length 0 (l ++ xs).length (l ++ xs).length false) ∨ (i ≠ j ∧ vs[i]? = some w) := fun i w h => by
    rw [List.getElem?_set] at h
    split at h
    · rename_i e
      split at h
      · cases h; exact .inl ⟨e.symm, rfl⟩
      · cases h
    · rename_i e; exact .inr ⟨fun x => e x.symm, h⟩
  have low : ∀ (i : Nat) w u, vs[i]? = some w → idx w = some u → u < H.length := fun i w u h1 h2 => by
    have h3 : i < ls.length := by rw [← O.len]; exact (List.getElem?_eq_some_iff.1 h1).1
    exact ((O.own i w _ h1 (List.getElem?_eq_getElem h3)).idx_lt h2).2
  refine ⟨bM (ov.killed O.pre) O.lt _, O.lt, by rw [bP hlt, List.length_set], fun i w m h1 h2 => ?_, fun a b x y u hab h1 h2 hu => ?_, fun i w h1 => ?_, by simpa using O.len⟩
  · rcases old i w h1 with ⟨rfl, rfl⟩ | ⟨hne, h3⟩
    · rw [List.getElem?_set_self (List.getElem?_eq_some_iff.1 hl).1] at h2
      cases h2
      exact (Own.fresh O.pre).set_other (fun e => by cases e; omega)
    · rw [List.getElem?_set_ne (fun e => hne e.symm)] at h2
      exact ((O.own i w m h3 h2).kept (fun u hu => O.ap i j w v u hne h3 hj hu)).set_other (O.apt i w h3)
  · rcases old a x h1 with ⟨rfl, rfl⟩ | ⟨n1, h3⟩ <;> rcases old b y h2 with ⟨rfl, rfl⟩ | ⟨n2, h4⟩
    · exact absurd rfl hab
    · cases hu; exact fun e => absurd (low _ _ _ h4 e) (by omega)
    · have := low _ _ _ h3 hu
      exact fun e => by cases e; omega
    · exact O.ap a b x y u hab h3 h4 hu
  · rcases old i w h1 with ⟨rfl, rfl⟩ | ⟨n1, h3⟩
    · exact fun e => by cases e; omega
    · exact O.apt i w h3
theorem OBL.put {H0 H : AH} {t j sz u n c : Nat} {ex : Bool} {hd vs : List AV} {ls : List (Nat × List AV)} {l l' : List AV} (O : OBL H0 H t hd vs ls) (hj : vs[j]? = some (.ref sz u 0 n c ex)) (hl : ls[j]? = some (sz, l)) (hlen : l'.length = l.length) :
    OBL H0 (List.set H u (.live sz l')) t hd vs (ls.set j (sz, l')) := by
  have ov := O.own _ _ _ hj hl
  have hu := ov.idx_lt (t := u) rfl
  have hut : u ≠ t := fun e => O.apt j _ hj (by rw [idx, e])
  refine ⟨bM O.pre hu.1 _, O.lt, by rw [bF hut]; exact O.ob, fun i w m h1 h2 => ?_, O.ap, O.apt, by simpa using O.len⟩
  by_cases hij : i = j
  · subst hij
    rw [List.getElem?_set_self (List.getElem?_eq_some_iff.1 hl).1] at h2
    cases h2
    rw [hj] at h1
    cases h1
    rcases ov with ⟨h, _⟩ | ⟨u', ex', hu', e, ho⟩
    · cases h
    · cases e
      exact .inr ⟨u, ex, hu.1, by simp only [hlen], bP hu.2⟩
  · rw [List.getElem?_set_ne (fun e => hij e.symm)] at h2
    exact (O.own i w m h1 h2).set_other (fun e => O.ap j i _ w u (fun e => hij e.symm) hj h1 rfl e)
end Go.Eng
end
section
set_option linter.unusedVariables false
set_option linter.unusedSimpArgs false
namespace Go.Eng
open Go
def deads (v : AV) (H : AH) : AH :=
  match v with
  | .ref _ t _ _ _ _ => List.set H t .dead
  | _ => H
def fzA (l : Nat × List AV) : AV := .list l.1 l.2 false
theorem Own.weakd {H0 H : AH} {sz : Nat} {v : AV} {l : List AV} (h : Own H0 H sz v l) : bZ H v (deads v H) (.list sz l false) := by
  rcases h with ⟨rfl, rfl⟩ | ⟨t, ex, ht, rfl, ho⟩
  · exact bZ.nils H sz
  · have := Frz.ref (off := 0) (n := l.length) (c := l.length) (ex := ex) ho (by omega)
    simpa [deads] using this.weak
theorem Own.deads_pre {H0 H : AH} {sz : Nat} {v : AV} {l : List AV} (h : Own H0 H sz v l) (hp : H0 <+: H) : H0 <+: deads v H := by
  rcases h with ⟨rfl, _⟩ | ⟨t, ex, ht, rfl, _⟩
  · exact hp
  · exact bM hp ht _
theorem Own.deads {H0 H : AH} {sz : Nat} {v w : AV} {l : List AV} (h : Own H0 H sz w l) (hne : ∀ t, idx v = some t → idx w ≠ some t) : Own H0 (Eng.deads v H) sz w l := by
  unfold Eng.deads
  split
  · rename_i sz' t a b c d
    exact h.dead (hne t rfl)
  · exact h
theorem OBL.frzN {H0 H : AH} {t : Nat} {hd vs : List AV} {ls : List (Nat × List AV)} (O : OBL H0 H t hd vs ls) : ∀ m, m ≤ vs.length → ∃ H', bZ H (.ptr t 0 0) H' (.lptr (hd.length + vs.length) [.agg (hd ++ ((ls.take m).map fzA ++ vs.drop m))] 0 0) ∧ H0 <+: H' ∧ ∀ (i : Nat) v l, m ≤ i → vs[i]? = some v → ls[i]? = some l → Own H0 H' l.1 v l.2
  | 0, _ => ⟨_, bZ.ptr O.ob, bM O.pre O.lt _, fun i v l _ h1 h2 => (O.own i v l h1 h2).dead (O.apt i v h1)⟩
  | m + 1, hm => by
    obtain ⟨H', h1, h2, h3⟩ := OBL.frzN O m (by omega)
    have hm2 : m < ls.length := by rw [← O.len]; omega
    have e1 : vs[m]? = some vs[m] := List.getElem?_eq_getElem (by omega)
    have e2 : ls[m]? = some ls[m] := List.getElem?_eq_getElem hm2
    have o := h3 m _ _ (Nat.le_refl _) e1 e2
    refine ⟨deads vs[m] H', ?_, o.deads_pre h2, fun i v l hi g1 g2 => (h3 i v l (by omega) g1 g2).deads fun u hu => O.ap m i _ _ u (by omega) e1 g1 hu⟩
    have hl : ((ls.take m).map fzA).length = m := by rw [List.length_map, List.length_take]; omega
    have hc : (hd ++ ((ls.take m).map fzA ++ vs.drop m))[hd.length + m]? = some vs[m] := by
      rw [List.getElem?_append_right (by omega), List.getElem?_append_right (by omega), hl, List.getElem?_drop]
      simp
    have key := h1.trans (bZ.lptr (sz := hd.length + vs.length) (i := 0) (k := 0) o.weakd hc rfl)
    have e3 : (hd ++ ((ls.take m).map fzA ++ vs.drop m)).set (hd.length + m) (.list ls[m].1 ls[m].2 false) = hd ++ ((ls.take (m + 1)).map fzA ++ vs.drop (m + 1)) := by
      rw [List.set_append_right _ _ (by omega), List.set_append_right _ _ (by omega), hl, Nat.add_sub_cancel_left, Nat.sub_self, List.drop_eq_getElem_cons (show m < vs.length by omega), List.set_cons_zero, List.take_succ_eq_append_getElem hm2, List.map_append, List.append_assoc]
      rfl
    rw [e3] at key
    exact key
theorem OBL.frz {H0 H : AH} {t : Nat} {hd vs : List AV} {ls : List (Nat × List AV)} (O : OBL H0 H t hd vs ls) : ∃ H', bZ H (.ptr t 0 0) H' (.lptr (hd.length + vs.length) [.agg (hd ++ ls.map fzA)] 0 0) ∧ H0 <+: H' := by
  obtain ⟨H', h1, h2, _⟩ := O.frzN vs.length (Nat.le_refl _)
  refine ⟨H', ?_, h2⟩
  rw [List.drop_eq_nil_of_le (Nat.le_refl _), List.append_nil, O.len, List.take_of_length_le (Nat.le_refl _), ← O.len] at h1
  exact h1
theorem OBL.hd {H0 H : AH} {t : Nat} {hd hd' vs : List AV} {ls : List (Nat × List AV)} (O : OBL H0 H t hd vs ls) (hl : hd'.length = hd.length) : OBL H0 (List.set H t (.live (hd.length + vs.length) [.agg (hd' ++ vs)])) t hd' vs ls := by
  have ht := aY O.ob
  exact ⟨bM O.pre O.lt _, O.lt, by rw [bP ht, hl], fun i v l h1 h2 => (O.own i v l h1 h2).set_other (O.apt i v h1), O.ap, O.apt, O.len⟩
end Go.Eng
end
section
namespace Go.Eng
open Go
set_option linter.unusedVariables false
set_option linter.unusedSimpArgs false
def Bt.none_ (key weight : Int) (since : List Tm) : Bt := ⟨key, weight, since, [], [], [], [], [], []⟩
def gW : Nat → List Nat → List Int
  | _, [] => []
  | a, n :: r => ((a + n : Nat) : Int) :: gW (a + n) r
theorem eE (l : List Nat) : ∀ (a n : Nat), gW a (l ++ [n]) = gW a l ++ [((a + l.sum + n : Nat) : Int)] := by
  induction l with
  | nil => intro a n; simp [gW]
  | cons x r ih => intro a n; simp [gW, ih, Nat.add_assoc]
theorem oV (l : List Nat) : ∀ a, (gW a l).length = l.length := by
  induction l with
  | nil => intro a; rfl
  | cons x r ih => intro a; simp [gW, ih]
theorem fU (l : List Nat) (n : Nat) : yB (gW 0 (l ++ [n])) = gW 0 (l ++ [n + 1]) := by
  rw [eE, eE]
  unfold yB
  have h : (gW 0 l ++ [((0 + l.sum + n : Nat) : Int)]).length - 1 = (gW 0 l).length := by simp
  rw [h]
  simp [List.getD_eq_getElem?_getD, List.set_append]
  omega
abbrev Rst := List Val × List (Tm × Int)
abbrev Gr := List (List Val × List Rst)
structure Gs (b : Bt) (g : Gr) : Prop where
  keys : b.keys = g.map (·.1)
  kends : b.kends = gW 0 (g.map (·.2.length))
  rests : b.rests = (g.flatMap (·.2)).map (·.1)
  rends : b.rends = gW 0 ((g.flatMap (·.2)).map (·.2.length))
  times : b.times = ((g.flatMap (·.2)).flatMap (·.2)).map (·.1)
  ws : b.ws = ((g.flatMap (·.2)).flatMap (·.2)).map (·.2)
  ne1 : ∀ x ∈ g, x.2 ≠ []
  ne2 : ∀ y ∈ g.flatMap (·.2), y.2 ≠ []
theorem CH (key weight : Int) (since : List Tm) : Gs (Bt.none_ key weight since) [] :=
  ⟨rfl, rfl, rfl, rfl, rfl, rfl, fun _ h => absurd h List.not_mem_nil, fun _ h => absurd h List.not_mem_nil⟩
theorem JO (b : Bt) (g : Gr) (h : Gs b g) (k r : List Val) (t : Tm) (d : Int) : Gs (kC (oS (yC b k) r) t d) (g ++ [(k, [(r, [(t, d)])])]) := by
  refine ⟨by simp [kC, oS, yC, h.keys], ?_, by simp [kC, oS, yC, h.rests], ?_, by simp [kC, oS, yC, h.times], by simp [kC, oS, yC, h.ws], ?_, ?_⟩
  · show yB (b.kends ++ [(b.rests.length : Int)]) = _
    rw [h.kends, List.map_append]
    have e : b.rests.length = (g.map (·.2.length)).sum := by rw [h.rests, List.length_map, List.length_flatMap]
    have e2 : gW 0 (g.map (·.2.length)) ++ [(b.rests.length : Int)] = gW 0 (g.map (·.2.length) ++ [0]) := by rw [eE, e]; simp
    rw [e2, fU]
    rfl
  · show yB (b.rends ++ [(b.times.length : Int)]) = _
    rw [h.rends, List.flatMap_append, List.map_append]
    have e : b.times.length = ((g.flatMap (·.2)).map (·.2.length)).sum := by rw [h.times, List.length_map, List.length_flatMap]
    have e2 : gW 0 ((g.flatMap (·.2)).map (·.2.length)) ++ [(b.times.length : Int)] = gW 0 ((g.flatMap (·.2)).map (·.2.length) ++ [0]) := by rw [eE, e]; simp
    rw [e2, fU]
    rfl
  · intro x hx
    rcases List.mem_append.1 hx with hx | hx
    · exact h.ne1 x hx
    · rw [List.mem_singleton.1 hx]; simp
  · intro y hy
    rw [List.flatMap_append] at hy
    rcases List.mem_append.1 hy with hy | hy
    · exact h.ne2 y hy
    · simp at hy; rw [hy]; simp
theorem MC (b : Bt) (g : Gr) (k0 : List Val) (rs : List Rst) (h : Gs b (g ++ [(k0, rs)])) (r : List Val) (t : Tm) (d : Int) : Gs (kC (oS b r) t d) (g ++ [(k0, rs ++ [(r, [(t, d)])])]) := by
  refine ⟨by have := h.keys; simpa [kC, oS] using this, ?_, by have := h.rests; simp [kC, oS, this], ?_, by have := h.times; simp [kC, oS, this], by have := h.ws; simp [kC, oS, this], ?_, ?_⟩
  · show yB b.kends = _
    rw [h.kends, List.map_append, List.map_append]
    show yB (gW 0 (_ ++ [rs.length])) = gW 0 (_ ++ [(rs ++ [(r, [(t, d)])]).length])
    rw [fU]
    simp
  · show yB (b.rends ++ [(b.times.length : Int)]) = _
    have e : b.times.length = (((g ++ [(k0, rs)]).flatMap (·.2)).map (·.2.length)).sum := by rw [h.times, List.length_map, List.length_flatMap]
    have e2 : b.rends ++ [(b.times.length : Int)] = gW 0 (((g ++ [(k0, rs)]).flatMap (·.2)).map (·.2.length) ++ [0]) := by rw [eE, h.rends, e]; simp
    rw [e2, fU]
    simp
  · intro x hx
    rcases List.mem_append.1 hx with hx | hx
    · exact h.ne1 x (List.mem_append_left _ hx)
    · rw [List.mem_singleton.1 hx]; simp
  · intro y hy
    have hy2 : y ∈ (g ++ [(k0, rs)]).flatMap (·.2) ∨ y = (r, [(t, d)]) := by
      simp at hy ⊢
      rcases hy with hy | hy | hy
      · exact .inl (.inl hy)
      · exact .inl (.inr hy)
      · exact .inr hy
    rcases hy2 with hy2 | hy2
    · exact h.ne2 y hy2
    · rw [hy2]; simp
theorem MD (b : Bt) (g : Gr) (k0 : List Val) (rs : List Rst) (r0 : List Val) (ts : List (Tm × Int)) (h : Gs b (g ++ [(k0, rs ++ [(r0, ts)])])) (t : Tm) (d : Int) : Gs (kC b t d) (g ++ [(k0, rs ++ [(r0, ts ++ [(t, d)])])]) := by
  refine ⟨by have := h.keys; simpa [kC] using this, by have := h.kends; simpa [kC] using this, by have := h.rests; simpa [kC] using this, ?_, by have := h.times; simp [kC, this], by have := h.ws; simp [kC, this], ?_, ?_⟩
  · show yB b.rends = _
    rw [h.rends]
    have e : ∀ q : List (Tm × Int), ((g ++ [(k0, rs ++ [(r0, q)])]).flatMap (·.2)).map (·.2.length) = ((g.flatMap (·.2)).map (·.2.length) ++ rs.map (·.2.length)) ++ [q.length] := by intro q; simp
    rw [e, e, fU]
    simp
  · intro x hx
    rcases List.mem_append.1 hx with hx | hx
    · exact h.ne1 x (List.mem_append_left _ hx)
    · rw [List.mem_singleton.1 hx]; simp
  · intro y hy
    have hy2 : y ∈ (g ++ [(k0, rs ++ [(r0, ts)])]).flatMap (·.2) ∨ y = (r0, ts ++ [(t, d)]) := by
      simp at hy ⊢
      rcases hy with hy | hy | hy
      · exact .inl (.inl hy)
      · exact .inl (.inr (.inl hy))
      · exact .inr hy
    rcases hy2 with hy2 | hy2
    · exact h.ne2 y hy2
    · rw [hy2]; simp
def qR (n : Nat) (g : Gr) (u : Upd) : Gr :=
  match g.getLast? with
  | none => g ++ [(u.f0.take n, [(u.f0.drop n, [(u.f1, u.f2)])])]
  | some x =>
    if cE x.1 (u.f0.take n) = true then
      match x.2.getLast? with
      | none => g.dropLast ++ [(x.1, [(u.f0.drop n, [(u.f1, u.f2)])])]
      | some y => if cE y.1 (u.f0.drop n) = true then g.dropLast ++ [(x.1, x.2.dropLast ++ [(y.1, y.2 ++ [(u.f1, u.f2)])])] else g.dropLast ++ [(x.1, x.2 ++ [(u.f0.drop n, [(u.f1, u.f2)])])]
    else g ++ [(u.f0.take n, [(u.f0.drop n, [(u.f1, u.f2)])])]
def OI (n : Nat) (l : List Upd) : Gr := l.foldl (qR n) []
theorem CI (n : Nat) (l : List Upd) (u : Upd) : OI n (l ++ [u]) = qR n (OI n l) u := by simp [OI]
theorem HC (n : Nat) (u : Upd) : qR n [] u = [(u.f0.take n, [(u.f0.drop n, [(u.f1, u.f2)])])] := rfl
theorem vH (n : Nat) (g : Gr) (x : List Val × List Rst) (u : Upd) (h : cE x.1 (u.f0.take n) = false) : qR n (g ++ [x]) u = g ++ [x] ++ [(u.f0.take n, [(u.f0.drop n, [(u.f1, u.f2)])])] := by
  simp [qR, h]
theorem qS (n : Nat) (g : Gr) (k0 : List Val) (rs : List Rst) (y : Rst) (u : Upd) (h : cE k0 (u.f0.take n) = true) (h2 : cE y.1 (u.f0.drop n) = false) : qR n (g ++ [(k0, rs ++ [y])]) u = g ++ [(k0, rs ++ [y] ++ [(u.f0.drop n, [(u.f1, u.f2)])])] := by
  simp [qR, h, h2]
theorem qT (n : Nat) (g : Gr) (k0 : List Val) (rs : List Rst) (y : Rst) (u : Upd) (h : cE k0 (u.f0.take n) = true) (h2 : cE y.1 (u.f0.drop n) = true) : qR n (g ++ [(k0, rs ++ [y])]) u = g ++ [(k0, rs ++ [(y.1, y.2 ++ [(u.f1, u.f2)])])] := by
  simp [qR, h, h2]
theorem gC (l : List (List Val)) (x k : List Val) : lM (l ++ [x]) k = !cE x k := by simp [lM]
theorem fV {α : Type} (l : List α) (h : l ≠ []) : ∃ r x, l = r ++ [x] := ⟨l.dropLast, l.getLast h, (List.dropLast_concat_getLast h).symm⟩
theorem ME (b : Bt) (g : Gr) (u : Upd) (h : Gs b g) : Gs (lN b u) (qR b.key.toNat g u) := by
  unfold lN
  by_cases hg : g = []
  · subst hg
    have hk : b.keys = [] := h.keys
    rw [if_pos (by rw [hk]; rfl), HC]
    exact JO b [] h _ _ _ _
  · obtain ⟨g', ⟨k0, rs⟩, rfl⟩ := fV g hg
    obtain ⟨rs', y, rfl⟩ := fV rs (h.ne1 (k0, rs) (by simp))
    have hk : b.keys = g'.map (·.1) ++ [k0] := by rw [h.keys]; simp
    have hr : b.rests = ((g'.flatMap (·.2)) ++ rs').map (·.1) ++ [y.1] := by rw [h.rests]; simp
    have n1 : lM b.keys (u.f0.take b.key.toNat) = !cE k0 (u.f0.take b.key.toNat) := by rw [hk, gC]
    have n2 : lM b.rests (u.f0.drop b.key.toNat) = !cE y.1 (u.f0.drop b.key.toNat) := by rw [hr, gC]
    cases e1 : cE k0 (u.f0.take b.key.toNat) with
    | false =>
      rw [n1, e1, if_pos (by decide), vH _ _ _ _ e1]
      exact JO b _ h _ _ _ _
    | true =>
      rw [n1, e1, if_neg (by decide), n2]
      cases e2 : cE y.1 (u.f0.drop b.key.toNat) with
      | false =>
        rw [if_pos (by decide), qS _ _ _ _ _ _ e1 e2]
        exact MC b g' k0 _ h _ _ _
      | true =>
        rw [if_neg (by decide), qT _ _ _ _ _ _ e1 e2]
        exact MD b g' k0 rs' y.1 y.2 h _ _
theorem qU (l : List Upd) : ∀ (b : Bt) (g : Gr), Gs b g → Gs (bU b l) (l.foldl (qR b.key.toNat) g) := by
  induction l with
  | nil => exact fun b g h => h
  | cons u r ih =>
    intro b g h
    have h1 := ih (lN b u) _ (ME b g u h)
    rw [(oT b u).1] at h1
    exact h1
theorem oW : ∀ (l : List Nat) (a i : Nat), i < l.length → (gW a l).getD i 0 = ((a + (l.take (i + 1)).sum : Nat) : Int)
  | [], a, i, h => by simp at h
  | n :: r, a, 0, h => by simp [gW]
  | n :: r, a, i + 1, h => by
    have := oW r (a + n) i (by simpa using h)
    simp only [gW, List.getD_cons_succ, List.take_succ_cons, List.sum_cons] at this ⊢
    rw [this]
    omega
theorem qW (l : List Nat) (i : Nat) (h : i < l.length) : qQ (gW 0 l) i = ((((l.take i).sum : Nat) : Int), (((l.take i).sum + l[i] : Nat) : Int)) := by
  have e : (l.take (i + 1)).sum = (l.take i).sum + l[i] := by
    rw [List.take_succ_eq_append_getElem h, List.sum_append, List.sum_cons, List.sum_nil, Nat.add_zero]
  unfold qQ
  rw [oW l 0 i h, e, Nat.zero_add]
  by_cases h0 : 0 < i
  · rw [if_pos h0, oW l 0 (i - 1) (by omega), show i - 1 + 1 = i by omega, Nat.zero_add]
  · obtain rfl : i = 0 := by omega
    simp
theorem oX {α β : Type} (f : α → List β) : ∀ (L : List α) (k m : Nat) (hk : k < L.length), m < (f L[k]).length → (L.flatMap f)[((L.take k).map fun x => (f x).length).sum + m]? = (f L[k])[m]?
  | [], k, m, hk, _ => by simp at hk
  | x :: L, 0, m, hk, hm => by
    simp only [List.flatMap_cons, List.take_zero, List.map_nil, List.sum_nil, Nat.zero_add, List.getElem_cons_zero] at hm ⊢
    rw [List.getElem?_append_left hm]
  | x :: L, k + 1, m, hk, hm => by
    have := oX f L k m (by simpa using hk) (by simpa using hm)
    simp only [List.flatMap_cons, List.take_succ_cons, List.map_cons, List.sum_cons, List.getElem_cons_succ]
    rw [List.getElem?_append_right (by omega), ← this]
    congr 1
    omega
theorem oY {α β : Type} (f : α → List β) : ∀ (L : List α) (k : Nat) (hk : k < L.length), ((L.take k).map fun x => (f x).length).sum + (f L[k]).length ≤ (L.flatMap f).length
  | [], k, hk => by simp at hk
  | x :: L, 0, hk => by simp
  | x :: L, k + 1, hk => by
    have := oY f L k (by simpa using hk)
    simp only [List.flatMap_cons, List.take_succ_cons, List.map_cons, List.sum_cons, List.getElem_cons_succ, List.length_append]
    omega
theorem tU {α β : Type} (f : α → List β) : ∀ g : List α, (∀ x ∈ g, f x ≠ []) → g.length ≤ (g.flatMap f).length
  | [], _ => Nat.zero_le _
  | x :: r, h => by
    have h1 := tU f r (fun y hy => h y (List.mem_cons_of_mem _ hy))
    have h2 : 0 < (f x).length := List.length_pos_iff.2 (h x List.mem_cons_self)
    simp only [List.flatMap_cons, List.length_append, List.length_cons]
    omega
def mX (k : List Val) (y : Rst) : List Upd := y.2.map fun q => ⟨k ++ y.1, q.1, q.2⟩
def mI (x : List Val × List Rst) : List Upd := x.2.flatMap (mX x.1)
def TA (g : Gr) : List Upd := g.flatMap mI
end Go.Eng
end
section
set_option linter.unusedSimpArgs false
set_option linter.unusedVariables false
set_option maxRecDepth 10000
namespace Go.Eng
open Go Go.Proofs
def aZ (l : List Upd) : AV := .list 4 (l.map upA) false
def mY (f : List Tm) (u : Upd) : Upd := ⟨u.f0, yA f u.f1, u.f2⟩
def F53 : AFn := ⟨29, 2, [.t 4], (.seq (.ops [oo 4 (.mov (.v .nils))]) (.seq (.ops [oo 5 (.mov (.v .nils))]) (.seq (.seq (.ops [oo 8 (.mov (.t 0)), oo 9 (.len (.t 8)), oo 10 (.mov (.v (.int .i64 0)))]) (.block 0 (.loop (.seq (.ops [oo 11 (.bin .lss (.t 10) (.t 9))]) (.seq (.cond (.t 11) .skip (.exit 0)) (.seq (.block 1 (.seq (.ops [oo 12 (.iaddr 4 (.t 8) (.t 10)), oo 13 (.load true 4 (.t 12)), oo 7 (.alloc 4 (.agg [.nils, (.int .i64 0), (.int .i64 0), (.int .i64 0)])), on (.store 4 (.t 7) (.t 13))]) (.ops [oo 29 (.mov (.t 5)), oo 30 (.faddr 0 (.t 7)), oo 31 (.load false 1 (.t 30)), oo 33 (.mov (.t 1)), oo 34 (.faddr 1 (.t 7)), oo 35 (.load true 2 (.t 34)), oo 37 (.faddr 3 (.t 7)), oo 38 (.load false 1 (.t 37)), oq 32 (.call 68 [(.t 31)]), oq 36 (.call 77 [(.t 33), (.t 35)]), oo 39 (.build [.nils, (.int .i64 0), (.int .i64 0), (.int .i64 0)] [(0, 1, (.t 32)), (1, 2, (.t 36)), (3, 1, (.t 38))]), oo 40 (.bsl 4 1 (.agg [.nils, (.int .i64 0), (.int .i64 0), (.int .i64 0)]) [(0, (.t 39))]), oo 41 (.app 4 48 (.t 29) (.t 40)), oo 42 (.mov (.t 41)), oo 14 (.mov (.t 29)), oo 15 (.mov (.t 30)), oo 16 (.mov (.t 31)), oo 18 (.mov (.t 33)), oo 19 (.mov (.t 34)), oo 20 (.mov (.t 35)), oo 22 (.mov (.t 37)), oo 23 (.mov (.t 38)), oo 17 (.mov (.t 32)), oo 21 (.mov (.t 36)), oo 24 (.mov (.t 39)), oo 25 (.mov (.t 40)), oo 26 (.mov (.t 41)), oo 5 (.mov (.t 42))]))) (.ops [oo 27 (.bin .add (.t 10) (.v (.int .i64 1))), oo 10 (.mov (.t 27))]))))))) (.seq (.ops [oo 28 (.mov (.t 5)), oo 4 (.mov (.t 28))]) .ret))))⟩
theorem c53 : aD Tryz.prog 53 = some F53 := by kernel_rfl
theorem CJ (x : AV) (l : List Upd) (fr : List Tm) (H : AH) (hx : elems 4 x H = some (l.map upA)) (hl : l.length < 1099511627776) (hf : fr.length < 1099511627776) (hs : cI l) : aC Tryz.prog 53 [x, eJ fr] H fun r H' => r = aZ (l.map (mY fr)) ∧ H' = H := by
  refine aW c53 (v := aZ (l.map (mY fr))) (fun n => mG (oR n) _) (by simp [F53]) ?_
  unfold F53
  have hr := aL hx
  simp only [push_cast, ↓reduceIte, Nat.reduceEqDiff, reduceCtorEq, Nat.reduceAdd, Nat.reduceLT, Nat.reduceLeDiff, hr, List.length_map]
  refine aI (fun (i : Nat) f H' => H <+: H' ∧ i ≤ l.length ∧ f 10 = .int .i64 i ∧ f 8 = x ∧ f 9 = .int .i64 l.length ∧ f 1 = eJ fr ∧ Own H H' 4 (f 5) (((l.take i).map (mY fr)).map upA)) (fun i => l.length - i) 0 ?_ ?_
  · exact ⟨List.prefix_refl _, Nat.zero_le _, rfl, rfl, rfl, rfl, .inl ⟨rfl, rfl⟩⟩
  · rintro i f H' ⟨hp, h1, e10, e8, e9, e1, ho⟩
    generalize hv : f 5 = v at ho
    by_cases hi : i < l.length
    · have hi' : (i : Int) < l.length := by omega
      have ax : aF 4 x (.int .i64 (i : Int)) = some (ptk x i 0) := aK hx (by rw [List.length_map]; exact hi) _
      have lx : (l.map upA)[i]? = some (upA l[i]) := by simp [hi]
      have ht : (l.take (i + 1)).map (mY fr) = (l.take i).map (mY fr) ++ [mY fr l[i]] := by rw [← List.take_append_getElem hi, List.map_append]; rfl
      have hsr := hs _ (List.getElem_mem hi)
      generalize l[i] = u at lx ht hsr
      simp only [push_cast, ↓reduceIte, Nat.reduceEqDiff, reduceCtorEq, Nat.reduceAdd, Nat.reduceLT, Nat.reduceLeDiff, aB, aA, e10, e8, e9, e1, hi', ax, aO hx lx, aN, hp, upA, hv, aS]
      (refine aC.look (eD _ u.f0 _ rfl hsr) ?_; simp only [push_cast, ↓reduceIte, Nat.reduceEqDiff, reduceCtorEq, Nat.reduceAdd, Nat.reduceLT, Nat.reduceLeDiff, aB, aA, e10, e8, e9, e1, hv, aS])
      (refine aC.look (UT fr u.f1 _ hf) ?_; simp only [push_cast, ↓reduceIte, Nat.reduceEqDiff, reduceCtorEq, Nat.reduceAdd, Nat.reduceLT, Nat.reduceLeDiff, aB, aA, e10, e8, e9, e1, hv, aQ])
      refine ho.mono.mono.xapp (aN (aN hp)) (xs := [upA (mY fr u)]) (bT (by simp)) (by simp only [List.length_map, List.length_take, List.length_cons, List.length_nil]; omega) fun v' H4 ho' hp' => ?_
      simp only [push_cast, ↓reduceIte, Nat.reduceEqDiff, reduceCtorEq, Nat.reduceAdd, Nat.reduceLT, Nat.reduceLeDiff, e10, e8, e9, e1]
      refine ⟨i + 1, ⟨hp', hi, ?_, ?_⟩, by omega⟩
      · rw [aE (by omega) (by omega)]; simp
      · rw [ht, List.map_append]; exact ho'
    · have hi' : ¬ (i : Int) < l.length := by omega
      simp only [push_cast, ↓reduceIte, Nat.reduceEqDiff, reduceCtorEq, Nat.reduceAdd, Nat.reduceLT, Nat.reduceLeDiff, e10, e8, e9, hi', hv]
      rw [List.take_of_length_le (by omega)] at ho
      obtain ⟨H3, w1, w2⟩ := ho.weak hp
      exact ⟨H3, w1, w2⟩
end Go.Eng
end
section
set_option linter.unusedSimpArgs false
set_option linter.unusedVariables false
set_option maxRecDepth 10000
namespace Go.Eng
open Go Go.Proofs
def F79 : AFn := ⟨12, 2, [.t 4], (.seq (.ops [oo 4 (.mov (.v .nils))]) (.seq (.ops [oo 6 (.mov (.t 0)), oo 7 (.call 104 [(.t 6)]), oo 5 (.mov (.t 7))]) (.seq (.ops [oo 8 (.mov (.t 5)), oo 9 (.mov (.t 1)), oo 10 (.call 105 [(.t 8), (.t 9)])]) (.seq (.ops [oo 11 (.mov (.t 5)), oo 4 (.mov (.t 11))]) .ret))))⟩
theorem c79 : aD Tryz.prog 79 = some F79 := by kernel_rfl
theorem HD (x : AV) (l : List Upd) (H : AH) (hx : elems 4 x H = some (l.map upA)) (hl : l.length < 1099511627776) (hs : cI l) : aC Tryz.prog 79 [x, .fn 80 [] []] H fun r H' => r = aZ (Stab.sortS bL l) ∧ H' = H := by
  refine aW c79 (v := aZ (Stab.sortS bL l)) (fun n => mG (oR n) _) (by simp [F79]) ?_
  unfold F79
  simp only [push_cast, ↓reduceIte, Nat.reduceEqDiff, reduceCtorEq, Nat.reduceAdd, Nat.reduceLT, Nat.reduceLeDiff]
  refine (MB x l H hx hl).mono fun r H1 ⟨h1, p1⟩ => ?_
  simp only [push_cast, ↓reduceIte, Nat.reduceEqDiff, reduceCtorEq, Nat.reduceAdd, Nat.reduceLT, Nat.reduceLeDiff]
  refine (HA h1 p1 hl hs).mono fun _ H2 ⟨h2, p2⟩ => ?_
  simp only [push_cast, ↓reduceIte, Nat.reduceEqDiff, reduceCtorEq, Nat.reduceAdd, Nat.reduceLT, Nat.reduceLeDiff]
  obtain ⟨H3, w1, w2⟩ := h2.weak p2
  exact ⟨H3, w1, w2⟩
end Go.Eng
end
section
set_option linter.unusedSimpArgs false
set_option linter.unusedVariables false
set_option maxRecDepth 10000
namespace Go.Eng
open Go Go.Proofs
def F78 : AFn := ⟨6, 2, [.t 4], (.seq (.ops [oo 2 (.box 1 (.t 0)), oo 3 (.box 1 (.t 1)), oo 4 (.mov (.v .nilf))]) (.seq (.ops [oo 5 (.mkf 103 [] [(.t 2), (.t 3)]), oo 4 (.mov (.t 5))]) .ret))⟩
theorem c78 : aD Tryz.prog 78 = some F78 := by kernel_rfl
theorem RI (l : List Upd) (H : AH) : aC Tryz.prog 78 [aZ l, .fn 80 [] []] H fun r H' => r = .fn 103 [] [.ptr H.length 0 0, .ptr (H.length + 1) 0 0] ∧ H' = H ++ [.live 1 [aZ l]] ++ [.live 1 [.fn 80 [] []]] := by
  refine aU c78 (by simp [F78]) ?_
  unfold F78
  have c1 : cells (.fn 80 [] []) = [.fn 80 [] []] := rfl
  simp only [push_cast, ↓reduceIte, Nat.reduceEqDiff, reduceCtorEq, Nat.reduceAdd, Nat.reduceLT, Nat.reduceLeDiff, aB, aA, aZ, c1]
def dQ : List Upd → Nat
  | [] => 0
  | x :: r => (r.takeWhile fun y => decide (bL x y = 0)).length + 1
theorem CK (l : List Upd) : dQ l ≤ l.length := by
  cases l with
  | nil => exact Nat.le_refl _
  | cons x r =>
    have := (List.takeWhile_prefix (fun y => decide (bL x y = 0)) (l := r)).length_le
    simp only [dQ, List.length_cons]; omega
def pA : AC := (.block 2 (.loop (.seq (.seq (.ops [oo 35 (.mov (.t 4)), oo 36 (.load false 1 (.t 1)), oo 37 (.len (.t 36)), oo 38 (.bin .lss (.t 35) (.t 37)), oo 39 (.mov (.t 38)), og 40 39 true (.load false 1 (.t 2)), og 41 39 true (.load false 1 (.t 1)), og 42 39 true (.iaddr 4 (.t 41) (.v (.int .i64 0))), og 43 39 true (.load true 4 (.t 42)), og 44 39 true (.load false 1 (.t 1)), og 45 39 true (.mov (.t 4)), og 46 39 true (.iaddr 4 (.t 44) (.t 45)), og 47 39 true (.load true 4 (.t 46)), og 48 39 true (.callv (.t 40) [(.t 43), (.t 47)]), og 49 39 true (.bin .eql (.t 48) (.v (.int .i64 0))), oo 50 (.pick (.t 39) (.t 49) (.v (.bool false))), oo 8 (.mov (.t 35)), oo 9 (.mov (.t 36)), oo 10 (.mov (.t 37)), oo 11 (.mov (.t 38)), oo 12 (.mov (.t 39)), oo 13 (.mov (.t 40)), oo 14 (.mov (.t 41)), oo 15 (.mov (.t 42)), oo 16 (.mov (.t 43)), oo 17 (.mov (.t 44)), oo 18 (.mov (.t 45)), oo 19 (.mov (.t 46)), oo 20 (.mov (.t 47)), oo 21 (.mov (.t 48)), oo 22 (.mov (.t 49)), oo 23 (.mov (.t 50))]) (.cond (.t 23) .skip (.exit 2))) (.block 3 (.ops [oo 24 (.mov (.t 4)), oo 25 (.bin .add (.t 24) (.v (.int .i64 1))), oo 4 (.mov (.t 25))])))))
def CL : AC := (.block 0 (.loop (.seq (.seq (.ops [oo 5 (.load false 1 (.t 1)), oo 6 (.len (.t 5)), oo 7 (.bin .gtr (.t 6) (.v (.int .i64 0)))]) (.cond (.t 7) .skip (.exit 0))) (.block 1 (.seq (.ops [oo 4 (.mov (.v (.int .i64 1)))]) (.seq (pA) (.seq (.seq (.ops [oo 26 (.mov (.t 0)), oo 27 (.load false 1 (.t 1)), oo 28 (.mov (.t 4)), oo 29 (.slice 4 (.t 27) none (some (.t 28)) none), oo 30 (.callv (.t 26) [(.t 29)]), oo 31 (.un .not (.t 30))]) (.cond (.t 31) .ret .skip)) (.ops [oo 32 (.load false 1 (.t 1)), oo 33 (.mov (.t 4)), oo 34 (.slice 4 (.t 32) (some (.t 33)) none none), on (.store 1 (.t 1) (.t 34))]))))))))
def UW : AFn := ⟨35, 1, [], (CL)⟩
theorem WU : aD Tryz.prog 103 = some UW := by kernel_rfl
theorem MF {t p q : Nat} {x : Upd} {r : List Upd} {H : AH} (hl : (x :: r).length < 1099511627776) (hs : cI (x :: r)) (hp : obj? H p = some (1, [aZ (x :: r)])) (hq : obj? H q = some (1, [.fn 80 [] []])) {f : AF} {Q : AE → AF → AH → Prop}
    (e0 : f 0 = .yld t) (e1 : f 1 = .ptr p 0 0) (e2 : f 2 = .ptr q 0 0) (e4 : f 4 = .int .i64 1)
    (hQ : ∀ f, f 0 = .yld t → f 1 = .ptr p 0 0 → f 2 = .ptr q 0 0 → f 4 = .int .i64 (dQ (x :: r) : Nat) → Q .normal f H) : pA.wp Tryz.prog Q f H := by
  unfold pA
  simp only [push_cast, ↓reduceIte, Nat.reduceEqDiff, reduceCtorEq, Nat.reduceAdd, Nat.reduceLT, Nat.reduceLeDiff]
  have hg : dQ (x :: r) = (r.takeWhile fun y => decide (bL x y = 0)).length + 1 := rfl
  generalize dQ (x :: r) = g at hg hQ
  refine aI (fun (i : Nat) f H' => H' = H ∧ 1 ≤ i ∧ i ≤ r.length + 1 ∧ f 0 = .yld t ∧ f 1 = .ptr p 0 0 ∧ f 2 = .ptr q 0 0 ∧ f 4 = .int .i64 i ∧ g = ((r.drop (i - 1)).takeWhile fun y => decide (bL x y = 0)).length + i) (fun i => r.length + 1 - i) 1 ⟨rfl, Nat.le_refl _, by omega, e0, e1, e2, e4, hg⟩ ?_
  rintro i f H' ⟨rfl, h1, h2, e0, e1, e2, e4, ho⟩
  have hx := hs x (by simp)
  rw [List.length_cons] at hl
  have la : cZ (aZ (x :: r)) = some (r.length + 1) := by simp [aZ, cZ]
  have pl : ∀ l, part false 1 0 (aZ l) = some (aZ l) := fun _ => rfl
  have pf : ∀ k, part false 1 0 (.fn k [] []) = some (.fn k [] []) := fun _ => rfl
  by_cases hi : i < r.length + 1
  · have hi' : (i : Int) < ((r.length + 1 : Nat) : Int) := by omega
    have hj : i - 1 < r.length := by omega
    have hy := hs (r[i - 1]) (List.mem_cons_of_mem _ (List.getElem_mem hj))
    have ax0 : aF 4 (aZ (x :: r)) (.int .i64 0) = some (.lptr 4 ((x :: r).map upA) 0 0) := by simp [aZ, aF, nat?]
    have ax : aF 4 (aZ (x :: r)) (.int .i64 (i : Int)) = some (.lptr 4 ((x :: r).map upA) i 0) := by simp [aZ, aF, nat?, hi]
    have lx0 : ((x :: r).map upA)[0]? = some (upA x) := rfl
    have lx : ((x :: r).map upA)[i]? = some (upA r[i - 1]) := by
      obtain ⟨j, rfl⟩ : ∃ j, i = j + 1 := ⟨i - 1, by omega⟩
      simp at hj
      simp [hj]
    rw [List.drop_eq_getElem_cons hj, List.takeWhile_cons] at ho
    generalize r[i - 1] = y at hy lx ho
    generalize hn : r.length + 1 = n at la hi' h2 hi
    generalize (x :: r).map upA = L at ax0 ax lx0 lx
    have px : ∀ u, part true 4 0 (upA u) = some (upA u) := fun _ => rfl
    by_cases hc : bL x y = 0
    · rw [if_pos (by simpa using hc)] at ho
      simp only [push_cast, ↓reduceIte, Nat.reduceEqDiff, reduceCtorEq, Nat.reduceAdd, Nat.reduceLT, Nat.reduceLeDiff, aB, aA, e0, e1, e2, e4, hp, hq, la, hi', decide_true, ax0, ax, lx0, lx, px, pl, pf, gA]
      (refine aC.look (jB _ _ x y _ (OG x _) (OG y _) hx hy) ?_; simp only [push_cast, ↓reduceIte, Nat.reduceEqDiff, reduceCtorEq, Nat.reduceAdd, Nat.reduceLT, Nat.reduceLeDiff, aB, aA, hc, e0, e1, e2, e4])
      refine ⟨i + 1, ⟨by omega, by omega, ?_, ?_⟩, by omega⟩
      · rw [aE (by omega) (by omega)]; simp
      · rw [show i + 1 - 1 = i - 1 + 1 by omega, ho, List.length_cons]; omega
    · rw [if_neg (by simpa using hc)] at ho
      simp only [push_cast, ↓reduceIte, Nat.reduceEqDiff, reduceCtorEq, Nat.reduceAdd, Nat.reduceLT, Nat.reduceLeDiff, aB, aA, e0, e1, e2, e4, hp, hq, la, hi', decide_true, ax0, ax, lx0, lx, px, pl, pf, gA]
      (refine aC.look (jB _ _ x y _ (OG x _) (OG y _) hx hy) ?_; simp only [push_cast, ↓reduceIte, Nat.reduceEqDiff, reduceCtorEq, Nat.reduceAdd, Nat.reduceLT, Nat.reduceLeDiff, aB, aA, hc, e0, e1, e2, e4])
      rw [show g = i by rw [ho]; simp] at hQ
      exact hQ _ e0 e1 e2 e4
  · have hi' : ¬ (i : Int) < ((r.length + 1 : Nat) : Int) := by omega
    generalize hn : r.length + 1 = n at la hi' h2 hi
    simp only [push_cast, ↓reduceIte, Nat.reduceEqDiff, reduceCtorEq, Nat.reduceAdd, Nat.reduceLT, Nat.reduceLeDiff, aB, aA, e0, e1, e2, e4, hp, hq, la, hi', decide_false, pl]
    rw [show g = i by rw [ho, List.drop_eq_nil_of_le (by omega)]; simp] at hQ
    exact hQ _ e0 e1 e2 e4
theorem CM {t p q : Nat} {J : List Upd → AH → Prop} {R' : AH → Prop} {l : List Upd} {H : AH} (hl : l.length < 1099511627776) (hs : cI l) (hJ : J l H) (hp : obj? H p = some (1, [aZ l])) (hq : obj? H q = some (1, [.fn 80 [] []])) (hpq : p ≠ q)
    (hstep : ∀ r H', r ≠ [] → r.length ≤ l.length → J r H' → obj? H' p = some (1, [aZ r]) → obj? H' q = some (1, [.fn 80 [] []]) → gI Tryz.prog t [aZ (r.take (dQ r))] H' fun b H2 => obj? H2 p = some (1, [aZ r]) ∧ obj? H2 q = some (1, [.fn 80 [] []]) ∧ ((b = .bool true ∧ J (r.drop (dQ r)) (List.set H2 p (.live 1 [aZ (r.drop (dQ r))]))) ∨ (b = .bool false ∧ R' H2)))
    (hend : ∀ H', J [] H' → R' H') : aC Tryz.prog 103 [.yld t, .ptr p 0 0, .ptr q 0 0] H fun _ H' => R' H' := by
  refine aU WU (by simp [UW]) ?_
  unfold UW
  unfold CL
  have pl : ∀ l, part false 1 0 (aZ l) = some (aZ l) := fun _ => rfl
  have lp := aY hp
  simp only [push_cast, ↓reduceIte, Nat.reduceEqDiff, reduceCtorEq, Nat.reduceAdd, Nat.reduceLT, Nat.reduceLeDiff]
  refine aI (fun (r : List Upd) f H' => f 0 = .yld t ∧ f 1 = .ptr p 0 0 ∧ f 2 = .ptr q 0 0 ∧ obj? H' p = some (1, [aZ r]) ∧ obj? H' q = some (1, [.fn 80 [] []]) ∧ J r H' ∧ r.length ≤ l.length ∧ cI r) (fun r => r.length) l ⟨rfl, rfl, rfl, hp, hq, hJ, Nat.le_refl _, hs⟩ ?_
  rintro r f H' ⟨e0, e1, e2, op, oq, hj, hle, hsr⟩
  have la : cZ (aZ r) = some r.length := by simp [aZ, cZ]
  by_cases hr : r = []
  · subst hr
    simp only [push_cast, ↓reduceIte, Nat.reduceEqDiff, reduceCtorEq, Nat.reduceAdd, Nat.reduceLT, Nat.reduceLeDiff, e0, e1, e2, op, oq, la, pl, aB]
    rw [if_neg (by decide)]
    exact hend _ hj
  · have hr' : (r.length : Int) > 0 := by have := List.length_pos_iff.2 hr; omega
    simp only [push_cast, ↓reduceIte, Nat.reduceEqDiff, reduceCtorEq, Nat.reduceAdd, Nat.reduceLT, Nat.reduceLeDiff, e0, e1, e2, op, oq, la, pl, aB, hr']
    have hg := CK r
    have hg1 : 0 < dQ r := by
      cases r with
      | nil => exact absurd rfl hr
      | cons x r => simp [dQ]
    refine (fun {Q} (hQ : ∀ f, f 0 = .yld t → f 1 = .ptr p 0 0 → f 2 = .ptr q 0 0 → f 4 = .int .i64 (dQ r : Nat) → Q .normal f H') => ?_ : ∀ {Q : AE → AF → AH → Prop}, (∀ f, f 0 = .yld t → f 1 = .ptr p 0 0 → f 2 = .ptr q 0 0 → f 4 = .int .i64 (dQ r : Nat) → Q .normal f H') → pA.wp Tryz.prog Q _ H') (fun f e0 e1 e2 e4 => ?_)
    · cases r with
      | nil => exact absurd rfl hr
      | cons x r => exact MF (by omega) hsr op oq e0 e1 e2 rfl hQ
    have st := hstep r H' hr hle hj op oq
    generalize dQ r = g at hg hg1 e4 st
    have sl : (if g ≤ (r.map upA).length then True else False) := by rw [if_pos (by rw [List.length_map]; exact hg)]; trivial
    have s1 : ∀ f x, ev f x = .int .i64 (g : Int) → dT f 4 (aZ r) none (some x) none = some (aZ (r.take g)) := fun f x h => by
      unfold aZ; rw [fS h (by rw [List.length_map]; exact hg), List.map_take]
    have s2 : ∀ f x, ev f x = .int .i64 (g : Int) → dT f 4 (aZ r) (some x) none none = some (aZ (r.drop g)) := fun f x h => by
      unfold aZ; rw [fT h (by rw [List.length_map]; exact hg), List.map_drop]
    simp only [push_cast, ↓reduceIte, Nat.reduceEqDiff, reduceCtorEq, Nat.reduceAdd, Nat.reduceLT, Nat.reduceLeDiff, e0, e1, e2, e4, op, oq, pl, aB]
    rw [s1 _ _ (by rfl)]
    simp only [push_cast, ↓reduceIte, Nat.reduceEqDiff, reduceCtorEq, Nat.reduceAdd, Nat.reduceLT, Nat.reduceLeDiff]
    refine st.mono fun b H2 ⟨o1, o2, h⟩ => ?_
    have lp2 := aY o1
    rcases h with ⟨rfl, h⟩ | ⟨rfl, h⟩
    · simp only [push_cast, ↓reduceIte, Nat.reduceEqDiff, reduceCtorEq, Nat.reduceAdd, Nat.reduceLT, Nat.reduceLeDiff, e0, e1, e2, e4, o1, pl, aB]
      rw [s2 _ _ (by rfl)]
      have cu : cells (aZ (r.drop g)) = [aZ (r.drop g)] := rfl
      have cv : ∀ l, dH (aZ l) = true := fun _ => rfl
      have pc : kK (aZ r) 0 [aZ (r.drop g)] = aZ (r.drop g) := rfl
      have cr : cells (aZ r) = [aZ r] := rfl
      simp only [push_cast, ↓reduceIte, Nat.reduceEqDiff, reduceCtorEq, Nat.reduceAdd, Nat.reduceLT, Nat.reduceLeDiff, aB, aA, e0, e1, e2, e4, o1, cu, cv, cr, pc]
      exact ⟨r.drop g, ⟨bP lp2, by rw [bF hpq]; exact o2, h, by rw [List.length_drop]; omega, fun u hu => hsr u (List.mem_of_mem_drop hu)⟩, by rw [List.length_drop]; omega⟩
    · simp only [push_cast, ↓reduceIte, Nat.reduceEqDiff, reduceCtorEq, Nat.reduceAdd, Nat.reduceLT, Nat.reduceLeDiff]
      exact h
end Go.Eng
end
section
set_option linter.unusedSimpArgs false
set_option linter.unusedVariables false
set_option maxRecDepth 10000
namespace Go.Eng
open Go Go.Proofs
theorem qX (a b : Int) : (lK a b).2 = 0 ∨ (lK a b).2 = 60 := by
  unfold lK; split <;> simp
def pB : Int → List Upd → Option Int
  | n, [] => some n
  | n, u :: r => if (lK n u.f2).2 = 0 then pB (lK n u.f2).1 r else none
def iR (l : List Upd) : Option (List Upd) :=
  match pB 0 l with
  | none => none
  | some n => if n = 0 then some [] else some [⟨(l.headD ⟨[], ⟨0, 0⟩, 0⟩).f0, (l.headD ⟨[], ⟨0, 0⟩, 0⟩).f1, n⟩]
def dR : List Upd → List (List Upd) → Option (List Upd)
  | out, [] => some out
  | out, l :: r => (iR l).bind fun x => dR (out ++ x) r
def fC : Nat → List Upd → List (List Upd)
  | 0, _ => []
  | _ + 1, [] => []
  | k + 1, x :: r => (x :: r).take (dQ (x :: r)) :: fC k ((x :: r).drop (dQ (x :: r)))
theorem qY : ∀ (k m : Nat) (l : List Upd), l.length ≤ k → l.length ≤ m → fC k l = fC m l
  | 0, m, [], _, _ => by cases m <;> rfl
  | k + 1, 0, [], _, _ => rfl
  | k + 1, m + 1, [], _, _ => rfl
  | 0, m, x :: r, h, _ => by simp at h
  | k + 1, 0, x :: r, _, h => by simp at h
  | k + 1, m + 1, x :: r, h1, h2 => by
    simp only [fC]
    have : 0 < dQ (x :: r) := by simp [dQ]
    simp only [List.length_cons] at h1 h2
    rw [qY k m _ (by rw [List.length_drop, List.length_cons]; omega) (by rw [List.length_drop, List.length_cons]; omega)]
theorem CN {r : List Upd} (h : r ≠ []) : fC r.length r = r.take (dQ r) :: fC (r.drop (dQ r)).length (r.drop (dQ r)) := by
  cases r with
  | nil => exact absurd rfl h
  | cons x r =>
    have : 0 < dQ (x :: r) := by simp [dQ]
    simp only [List.length_cons, fC]
    rw [qY r.length _ _ (by rw [List.length_drop, List.length_cons]; omega) (Nat.le_refl _)]
def bV (l : List Upd) : List Upd × Int :=
  match dR [] (fC l.length (Stab.sortS bL l)) with
  | some o => (o, 0)
  | none => ([], 60)
def CO : AC := (.block 2 (.loop (.seq (.ops [oo 17 (.bin .lss (.t 16) (.t 15))]) (.seq (.cond (.t 17) .skip (.exit 2)) (.seq (.block 3 (.seq (.ops [oo 18 (.iaddr 4 (.t 14) (.t 16)), oo 19 (.load true 4 (.t 18)), oo 9 (.alloc 4 (.agg [.nils, (.int .i64 0), (.int .i64 0), (.int .i64 0)])), on (.store 4 (.t 9) (.t 19))]) (.seq (.ops [oo 21 (.mov (.t 6)), oo 22 (.faddr 3 (.t 9)), oo 23 (.load false 1 (.t 22)), oo 24 (.call 81 [(.t 21), (.t 23)]), oo 20 (.mov (.t 24)), oo 25 (.ext (.t 20) 0), oo 26 (.ext (.t 20) 1), oo 6 (.mov (.t 25)), oo 7 (.mov (.t 26))]) (.seq (.ops [oo 27 (.mov (.t 7)), oo 28 (.bin .neq (.t 27) (.v (.int .i64 0)))]) (.cond (.t 28) (.seq (.ops [oo 29 (.mov (.t 7)), on (.store 1 (.t 2) (.v .nils)), on (.store 1 (.t 3) (.t 29))]) .ret) .skip))))) (.ops [oo 30 (.bin .add (.t 16) (.v (.int .i64 1))), oo 16 (.mov (.t 30))]))))))
def F54 : AFn := ⟨48, 1, [.cell 2 false 1, .cell 3 false 1], (.seq (.ops [oo 2 (.alloc 1 .nils), oo 3 (.alloc 1 (.int .i64 0))]) (.seq (.ops [oo 4 (.alloc 1 .nils)]) (.seq (.seq (.ops [oo 10 (.mov (.t 0)), oo 11 (.call 79 [(.t 10), (.v (.fn 80 [] []))]), oo 12 (.call 78 [(.t 11), (.v (.fn 80 [] []))])]) (.block 0 (.rangeF 48 (.t 12) [13] (.ops [oo 5 (.mov (.t 13))]) (.block 1 (.seq (.ops [oo 6 (.mov (.v (.int .i64 0))), oo 7 (.mov (.v (.int .i64 0)))]) (.seq (.seq (.ops [oo 14 (.mov (.t 5)), oo 15 (.len (.t 14)), oo 16 (.mov (.v (.int .i64 0)))]) (CO)) (.seq (.ops [oo 31 (.mov (.t 6)), oo 32 (.bin .neq (.t 31) (.v (.int .i64 0)))]) (.cond (.t 32) (.ops [oo 48 (.load false 1 (.t 4)), oo 49 (.mov (.t 5)), oo 50 (.iaddr 4 (.t 49) (.v (.int .i64 0))), oo 51 (.faddr 0 (.t 50)), oo 52 (.load false 1 (.t 51)), oo 54 (.mov (.t 5)), oo 55 (.iaddr 4 (.t 54) (.v (.int .i64 0))), oo 56 (.faddr 1 (.t 55)), oo 57 (.load true 2 (.t 56)), oo 58 (.mov (.t 6)), oq 53 (.call 68 [(.t 52)]), oo 59 (.build [.nils, (.int .i64 0), (.int .i64 0), (.int .i64 0)] [(0, 1, (.t 53)), (1, 2, (.t 57)), (3, 1, (.t 58))]), oo 60 (.bsl 4 1 (.agg [.nils, (.int .i64 0), (.int .i64 0), (.int .i64 0)]) [(0, (.t 59))]), oo 61 (.app 4 48 (.t 48) (.t 60)), oo 62 (.store 1 (.t 4) (.t 61)), oo 33 (.mov (.t 48)), oo 34 (.mov (.t 49)), oo 35 (.mov (.t 50)), oo 36 (.mov (.t 51)), oo 37 (.mov (.t 52)), oo 39 (.mov (.t 54)), oo 40 (.mov (.t 55)), oo 41 (.mov (.t 56)), oo 42 (.mov (.t 57)), oo 43 (.mov (.t 58)), oo 38 (.mov (.t 53)), oo 44 (.mov (.t 59)), oo 45 (.mov (.t 60)), oo 46 (.mov (.t 61))]) .skip)))))))) (.seq (.ops [oo 47 (.load false 1 (.t 4)), on (.store 1 (.t 2) (.t 47)), on (.store 1 (.t 3) (.v (.int .i64 0)))]) .ret))))⟩
theorem c54 : aD Tryz.prog 54 = some F54 := by kernel_rfl
def CB (H : AH) (a b v r : AV) (o : aR) : AH := H ++ [.live 1 [a], .live 1 [b], .live 1 [v], .live 1 [r], .live 1 [.fn 80 [] []], o]
theorem qZ {H : AH} {a b v r : AV} {o : aR} : (CB H a b v r o).length = H.length + 6 := by simp [CB]
theorem cb0 {H X : AH} {a b v r : AV} {o : aR} : obj? (CB H a b v r o ++ X) H.length = some (1, [a]) := by simp [CB, obj?]
theorem cb1 {H X : AH} {a b v r : AV} {o : aR} : obj? (CB H a b v r o ++ X) (H.length + 1) = some (1, [b]) := by simp [CB, obj?, List.getElem?_append_right]
theorem cb2 {H X : AH} {a b v r : AV} {o : aR} : obj? (CB H a b v r o ++ X) (H.length + 1 + 1) = some (1, [v]) := by simp [CB, obj?, List.getElem?_append_right, Nat.add_assoc]
theorem cb3 {H X : AH} {a b v r : AV} {o : aR} : obj? (CB H a b v r o ++ X) (H.length + 3) = some (1, [r]) := by simp [CB, obj?, List.getElem?_append_right]
theorem cb4 {H X : AH} {a b v r : AV} {o : aR} : obj? (CB H a b v r o ++ X) (H.length + 4) = some (1, [.fn 80 [] []]) := by simp [CB, obj?, List.getElem?_append_right]
theorem cb5 {H X : AH} {a b v r : AV} {o : aR} : (CB H a b v r o ++ X)[H.length + 5]? = some o := by simp [CB, List.getElem?_append_right]
theorem cs0 {H X : AH} {a b v r a' : AV} {o : aR} : List.set (CB H a b v r o ++ X) H.length (.live 1 [a']) = CB H a' b v r o ++ X := by simp [CB, List.set_append_right]
theorem cs1 {H X : AH} {a b v r a' : AV} {o : aR} : List.set (CB H a b v r o ++ X) (H.length + 1) (.live 1 [a']) = CB H a a' v r o ++ X := by simp [CB, List.set_append_right]
theorem cs2 {H X : AH} {a b v r a' : AV} {o : aR} : List.set (CB H a b v r o ++ X) (H.length + 1 + 1) (.live 1 [a']) = CB H a b a' r o ++ X := by simp [CB, List.set_append_right, Nat.add_assoc]
theorem cs3 {H X : AH} {a b v r a' : AV} {o : aR} : List.set (CB H a b v r o ++ X) (H.length + 3) (.live 1 [a']) = CB H a b v a' o ++ X := by simp [CB, List.set_append_right]
theorem cs5 {H X : AH} {a b v r : AV} {o o' : aR} : List.set (CB H a b v r o ++ X) (H.length + 5) o' = CB H a b v r o' ++ X := by simp [CB, List.set_append_right]
theorem HE {g : List Upd} {H X : AH} {v r : AV} {o : aR} {f : AF} {Q : AE → AF → AH → Prop} (hl : g.length < 1099511627776)
    (e2 : f 2 = .ptr H.length 0 0) (e3 : f 3 = .ptr (H.length + 1) 0 0) (e4 : f 4 = .ptr (H.length + 1 + 1) 0 0) (e5 : f 5 = aZ g) (e6 : f 6 = .int .i64 0) (e14 : f 14 = aZ g) (e15 : f 15 = .int .i64 g.length) (e16 : f 16 = .int .i64 0)
    (h1 : ∀ f X' n, pB 0 g = some n → f 2 = .ptr H.length 0 0 → f 3 = .ptr (H.length + 1) 0 0 → f 4 = .ptr (H.length + 1 + 1) 0 0 → f 5 = aZ g → f 6 = .int .i64 n → Q .normal f (CB H .nils (.int .i64 0) v r o ++ (X ++ X')))
    (h2 : ∀ f X', pB 0 g = none → f 2 = .ptr H.length 0 0 → f 3 = .ptr (H.length + 1) 0 0 → Q .ret f (CB H .nils (.int .i64 60) v r o ++ (X ++ X'))) : CO.wp Tryz.prog Q f (CB H .nils (.int .i64 0) v r o ++ X) := by
  unfold CO
  simp only [push_cast, ↓reduceIte, Nat.reduceEqDiff, reduceCtorEq, Nat.reduceAdd, Nat.reduceLT, Nat.reduceLeDiff]
  refine aI (fun (s : Nat × Int × AH) f H' => H' = CB H .nils (.int .i64 0) v r o ++ (X ++ s.2.2) ∧ s.1 ≤ g.length ∧ f 2 = .ptr H.length 0 0 ∧ f 3 = .ptr (H.length + 1) 0 0 ∧ f 4 = .ptr (H.length + 1 + 1) 0 0 ∧ f 5 = aZ g ∧ f 6 = .int .i64 s.2.1 ∧ f 14 = aZ g ∧ f 15 = .int .i64 g.length ∧ f 16 = .int .i64 s.1 ∧ pB 0 g = pB s.2.1 (g.drop s.1)) (fun s => g.length - s.1) (0, 0, []) ⟨by simp, Nat.zero_le _, e2, e3, e4, e5, e6, e14, e15, e16, rfl⟩ ?_
  rintro ⟨i, n, Y⟩ f H' ⟨rfl, hi0, e2, e3, e4, e5, e6, e14, e15, e16, hs⟩
  dsimp only at hi0 e6 e16 hs
  by_cases hi : i < g.length
  · have hi' : (i : Int) < g.length := by omega
    have ax : aF 4 (aZ g) (.int .i64 (i : Int)) = some (.lptr 4 (g.map upA) i 0) := by simp [aZ, aF, nat?, hi]
    have lx : (g.map upA)[i]? = some (upA g[i]) := by simp [hi]
    rw [List.drop_eq_getElem_cons hi] at hs
    simp only [pB] at hs
    generalize g[i] = u at lx hs
    have o0 := cb0 (H := H) (X := X ++ Y) (a := .nils) (b := .int .i64 0) (v := v) (r := r) (o := o)
    have o1 := fun a => cb1 (H := H) (X := X ++ Y) (a := a) (b := .int .i64 0) (v := v) (r := r) (o := o)
    have s0 := fun a' => cs0 (H := H) (X := X ++ Y) (a := .nils) (b := .int .i64 0) (v := v) (r := r) (o := o) (a' := a')
    have s1 := fun a a' => cs1 (H := H) (X := X ++ Y) (a := a) (b := .int .i64 0) (v := v) (r := r) (o := o) (a' := a')
    have hlen := fun a b => qZ (H := H) (a := a) (b := b) (v := v) (r := r) (o := o)
    have w1 : H.length < H.length + 6 + (X.length + Y.length) := by omega
    have w2 : H.length + 1 < H.length + 6 + (X.length + Y.length) := by omega
    by_cases hc : (lK n u.f2).2 = 0
    · rw [if_pos hc] at hs
      simp only [push_cast, ↓reduceIte, Nat.reduceEqDiff, reduceCtorEq, Nat.reduceAdd, Nat.reduceLT, Nat.reduceLeDiff, aB, aA, e2, e3, e4, e5, e6, e14, e15, e16, hi', ax, lx, upA, aS]
      (refine aC.look (RD n u.f2 _) ?_; simp only [push_cast, ↓reduceIte, Nat.reduceEqDiff, reduceCtorEq, Nat.reduceAdd, Nat.reduceLT, Nat.reduceLeDiff, aB, aA, e2, e3, e4, e5, e6, e14, e15, e16, hc])
      refine ⟨(i + 1, (lK n u.f2).1, Y ++ [.live 4 [upA u]]), ⟨by simp only [List.append_assoc]; rfl, hi, rfl, ?_, hs⟩, by dsimp only; omega⟩
      dsimp only; rw [aE (by omega) (by omega)]; simp
    · rw [if_neg hc] at hs
      have hc2 := (qX n u.f2).resolve_left hc
      have c60 : ¬ (60 : Int) = 0 := by decide
      simp only [push_cast, ↓reduceIte, Nat.reduceEqDiff, reduceCtorEq, Nat.reduceAdd, Nat.reduceLT, Nat.reduceLeDiff, aB, aA, e2, e3, e4, e5, e6, e14, e15, e16, hi', ax, lx, upA, aS]
      (refine aC.look (RD n u.f2 _) ?_; simp only [push_cast, ↓reduceIte, Nat.reduceEqDiff, reduceCtorEq, Nat.reduceAdd, Nat.reduceLT, Nat.reduceLeDiff, aB, aA, e2, e3, e4, e5, e6, e14, e15, e16, hc2, c60, hlen, w1, w2, o0, o1, s0, s1])
      simp only [List.append_assoc]
      exact h2 _ _ hs e2 e3
  · have hi' : ¬ (i : Int) < g.length := by omega
    simp only [push_cast, ↓reduceIte, Nat.reduceEqDiff, reduceCtorEq, Nat.reduceAdd, Nat.reduceLT, Nat.reduceLeDiff, e15, e16, hi']
    rw [List.drop_eq_nil_of_le (by omega)] at hs
    exact h1 _ Y n hs e2 e3 e4 e5 e6
theorem rA {H X : AH} {a b v r a' b' v' r' w : AV} {o o' : aR} {l : List AV} {sz : Nat} (h : Own (CB H a b v r o) (CB H a b v r o ++ X) sz w l) : Own (CB H a' b' v' r' o') (CB H a' b' v' r' o' ++ X) sz w l := by
  rcases h with h | ⟨t, ex, ht, e, ho⟩
  · exact .inl h
  · rw [qZ] at ht
    refine .inr ⟨t, ex, by rw [qZ]; exact ht, e, ?_⟩
    have key : ∀ a b v r o, obj? (CB H a b v r o ++ X) t = obj? X (t - (H.length + 6)) := by
      intro a b v r o
      unfold obj?
      rw [List.getElem?_append_right (by rw [qZ]; omega), qZ]
    rw [key] at ho ⊢
    exact ho
theorem dW {H0 H : AH} {sz : Nat} {w : AV} {l : List AV} (h : Own H0 H sz w l) : dH w = true ∧ cells w = [w] ∧ part false 1 0 w = some w ∧ (∀ x, kK w 0 [x] = x) := by
  rcases h with ⟨rfl, _⟩ | ⟨t, ex, _, rfl, _⟩ <;> exact ⟨rfl, rfl, rfl, fun _ => rfl⟩
theorem wRf {P : Program} {n : Nat} {x : X} {ps : List Nat} {a b : AC} {Q : AE → AF → AH → Prop} {f : AF} {H : AH} {g : FuncId} {a1 bs : List AV} (h : ev f x = .fn g a1 bs)
    (hh : ∀ lp, uR P n lp ps a b → aC P g (a1 ++ [.yld H.length] ++ bs) (H ++ [.loop f lp .ready none]) fun r H' => ∃ st pd, H'[H.length]? = some (aR.loop f lp st pd) ∧ st ≠ .busy ∧ Q (pd.getD .normal) f (H'.set H.length .dead)) : (AC.rangeF n x ps a b).wp P Q f H := by
  simp only [AC.wp, h]
  exact hh
def iS (l : List Upd) : AV := .tup [aZ (bV l).1, .int .i64 (bV l).2]
theorem RJ (x : AV) (l : List Upd) (H : AH) (hx : elems 4 x H = some (l.map upA)) (hl : l.length < 1099511627776) (hs : cI l) : aC Tryz.prog 54 [x] H fun r H' => r = iS l ∧ H' = H := by
  refine aW c54 (v := iS l) (fun n => ?_) (by simp [F54]) ?_
  · have : cl n (aZ (bV l).1) = true := mG (oR n) _
    simp [iS, cl, cls, this]
  unfold F54
  simp only [push_cast, ↓reduceIte, Nat.reduceEqDiff, reduceCtorEq, Nat.reduceAdd, Nat.reduceLT, Nat.reduceLeDiff]
  (refine aC.look (HD x l _ (bJ hx (by (repeat (first | exact List.prefix_refl _ | refine List.IsPrefix.trans ?_ (List.prefix_append _ _))))) hl hs) ?_; try simp only [push_cast, ↓reduceIte, Nat.reduceEqDiff, reduceCtorEq, Nat.reduceAdd, Nat.reduceLT, Nat.reduceLeDiff, aB, aA])
  have hlen := Stab.sortS_len iP l
  have hsS : cI (Stab.sortS bL l) := fun u hu => hs u ((Stab.sortS_mem l u).1 hu)
  unfold iS bV
  rw [← hlen] at hl ⊢
  generalize Stab.sortS bL l = S at hl hsS ⊢
  clear hlen hs hx
  refine (RI S _).mono fun r H1 ⟨e, e1⟩ => ?_
  subst e e1
  simp only [push_cast, ↓reduceIte, Nat.reduceEqDiff, reduceCtorEq, Nat.reduceAdd, Nat.reduceLT, Nat.reduceLeDiff]
  refine wRf (by rfl) fun lp hb => ?_
  generalize hF : put _ _ _ = F
  have e2 : F 2 = .ptr H.length 0 0 := by rw [← hF]; rfl
  have e3 : F 3 = .ptr (H.length + 1) 0 0 := by rw [← hF]; rfl
  have e4 : F 4 = .ptr (H.length + 1 + 1) 0 0 := by rw [← hF]; rfl
  clear hF
  have hN : (H ++ [aR.live 1 [AV.nils]] ++ [aR.live 1 [AV.int IntKind.i64 0]] ++ [aR.live 1 [AV.nils]] ++ [aR.live 1 [aZ S]] ++ [aR.live 1 [AV.fn 80 [] []]]).length = H.length + 5 := by simp
  rw [hN]
  have hCB : H ++ [aR.live 1 [AV.nils]] ++ [aR.live 1 [AV.int IntKind.i64 0]] ++ [aR.live 1 [AV.nils]] ++ [aR.live 1 [aZ S]] ++ [aR.live 1 [AV.fn 80 [] []]] ++ [aR.loop F lp LoopState.ready none] = CB H .nils (.int .i64 0) .nils (aZ S) (aR.loop F lp LoopState.ready none) ++ [] := by simp [CB]
  rw [hCB]
  generalize hQ : cU 0 _ = Q
  have pre0 : ∀ a b v r o X, H <+: CB H a b v r o ++ X := fun a b v r o X => by unfold CB; rw [List.append_assoc]; exact List.prefix_append _ _
  have q2 : ∀ v r X, dR [] (fC S.length S) = none → Q .ret F (CB H .nils (.int .i64 60) v r .dead ++ X) := fun v r X hn => by
    rw [← hQ, hn]
    simp only [push_cast, ↓reduceIte, Nat.reduceEqDiff, reduceCtorEq, Nat.reduceAdd, Nat.reduceLT, Nat.reduceLeDiff, e2, e3, e4, aB, cb0, cb1]
    exact (show ∃ H2, bZ (CB H .nils (.int .i64 60) v r .dead ++ X) (.tup [.nils, .int .i64 60]) H2 (.tup [aZ [], .int .i64 60]) ∧ H <+: H2 from ⟨_, bZ.tup (i := 0) (bZ.nils _ 4) rfl, pre0 _ _ _ _ _ _⟩)
  have q1 : ∀ v r X out, Own (CB H .nils (.int .i64 0) v r .dead) (CB H .nils (.int .i64 0) v r .dead ++ X) 4 v (out.map upA) → dR [] (fC S.length S) = some out → Q .normal F (CB H .nils (.int .i64 0) v r .dead ++ X) := fun v r X out ho hn => by
    rw [← hQ, hn]
    have pv := dW ho
    have c0 := cb0 (H := H) (X := X) (a := .nils) (b := .int .i64 0) (v := v) (r := r) (o := .dead)
    have c1 := fun a b => cb1 (H := H) (X := X) (a := a) (b := b) (v := v) (r := r) (o := .dead)
    have c2 := cb2 (H := H) (X := X) (a := .nils) (b := .int .i64 0) (v := v) (r := r) (o := .dead)
    have pn : kK .nils 0 [v] = v := rfl
    have pi : kK (.int .i64 0) 0 [.int .i64 0] = .int .i64 0 := rfl
    have d0 := fun a' => cb0 (H := H) (X := X) (a := a') (b := .int .i64 0) (v := v) (r := r) (o := .dead)
    have s0 := fun a' => cs0 (H := H) (X := X) (a := .nils) (b := .int .i64 0) (v := v) (r := r) (o := .dead) (a' := a')
    have s1 := fun a a' => cs1 (H := H) (X := X) (a := a) (b := .int .i64 0) (v := v) (r := r) (o := .dead) (a' := a')
    simp only [push_cast, ↓reduceIte, Nat.reduceEqDiff, reduceCtorEq, Nat.reduceAdd, Nat.reduceLT, Nat.reduceLeDiff, e2, e3, e4, aB, aA, c0, c1, c2, d0, s0, s1, pn, pi, pv.1, pv.2.1, pv.2.2.1]
    obtain ⟨H3, w1, w2⟩ := (rA (a' := v) (b' := .int .i64 0) (v' := v) (r' := r) (o' := .dead) ho).weak (List.prefix_append _ _)
    have p0 : H <+: CB H v (.int .i64 0) v r .dead := by unfold CB; exact List.prefix_append _ _
    exact (show ∃ H2, bZ (CB H v (.int .i64 0) v r .dead ++ X) (.tup [v, .int .i64 0]) H2 (.tup [aZ out, .int .i64 0]) ∧ H <+: H2 from ⟨_, bZ.tup (i := 0) w1 rfl, p0.trans w2⟩)
  clear hQ hN hCB
  show aC Tryz.prog 103 [.yld (H.length + 5), .ptr (H.length + 3) 0 0, .ptr (H.length + 4) 0 0] _ _
  refine CM (J := fun rest H' => ∃ out v X, H' = CB H .nils (.int .i64 0) v (aZ rest) (.loop F lp .ready none) ++ X ∧ Own (CB H .nils (.int .i64 0) v (aZ rest) (.loop F lp .ready none)) (CB H .nils (.int .i64 0) v (aZ rest) (.loop F lp .ready none) ++ X) 4 v (out.map upA) ∧ out.length + rest.length ≤ S.length ∧ dR [] (fC S.length S) = dR out (fC rest.length rest) ∧ cI rest) (R' := fun H' => ∃ st pd, H'[H.length + 5]? = some (aR.loop F lp st pd) ∧ st ≠ .busy ∧ Q (pd.getD .normal) F (List.set H' (H.length + 5) .dead)) hl hsS ⟨[], .nils, [], rfl, .inl ⟨rfl, rfl⟩, by simp, rfl, hsS⟩ cb3 cb4 (by omega) ?_ ?_
  · rintro rest H' hr hle ⟨out, v, X, rfl, ho, hlo, hd, hsr⟩ _ _
    have hg := CK rest
    have hg1 : 0 < dQ rest := by
      cases rest with
      | nil => exact absurd rfl hr
      | cons x r => simp [dQ]
    rw [CN hr] at hd
    have hgl : (rest.take (dQ rest)).length = dQ rest := by rw [List.length_take]; omega
    have la : cZ (aZ (rest.take (dQ rest))) = some (dQ rest) := by simp only [aZ, cZ, List.length_map, hgl]
    have hmem : cI (rest.take (dQ rest)) := fun u hu => hsr u (List.mem_of_mem_take hu)
    have hsd : cI (rest.drop (dQ rest)) := fun u hu => hsr u (List.mem_of_mem_drop hu)
    generalize hG : rest.take (dQ rest) = G at hd hgl la hmem ⊢
    generalize dQ rest = g at hg hg1 hd hgl la hsd ⊢
    refine hb.ycalls cb5 rfl ?_
    unfold JE JE
    simp only [push_cast, ↓reduceIte, Nat.reduceEqDiff, reduceCtorEq, Nat.reduceAdd, Nat.reduceLT, Nat.reduceLeDiff]
    refine ⟨none, cb5, ?_⟩
    rw [cs5]
    simp only [push_cast, ↓reduceIte, Nat.reduceEqDiff, reduceCtorEq, Nat.reduceAdd, Nat.reduceLT, Nat.reduceLeDiff, la]
    refine HE (g := G) (by omega) e2 e3 e4 rfl rfl rfl (by rw [hgl]; rfl) rfl ?_ ?_
    · intro f X' n hn f2 f3 f4 f5 f6
      by_cases hz : n = 0
      · have hd2 : dR [] (fC S.length S) = dR out (fC (rest.drop g).length (rest.drop g)) := by rw [hd]; simp only [dR, iR, hn, if_pos hz, Option.bind_some, List.append_nil]
        simp only [push_cast, ↓reduceIte, Nat.reduceEqDiff, reduceCtorEq, Nat.reduceAdd, Nat.reduceLT, Nat.reduceLeDiff, f6, hz]
        unfold zS
        refine ⟨.busy, none, cb5, ?_⟩
        dsimp only
        rw [cs5]
        have ho2 := ho.mono (J := X')
        rw [List.append_assoc] at ho2
        exact ⟨cb3, cb4, .inl ⟨rfl, out, v, X ++ X', cs3, rA ho2, by rw [List.length_drop]; omega, hd2, hsd⟩⟩
      · obtain ⟨u, G', rfl⟩ : ∃ u G', G = u :: G' := by
          cases G with
          | nil => simp at hgl; omega
          | cons u G' => exact ⟨u, G', rfl⟩
        have hd2 : dR [] (fC S.length S) = dR (out ++ [⟨u.f0, u.f1, n⟩]) (fC (rest.drop g).length (rest.drop g)) := by rw [hd]; simp only [dR, iR, hn, if_neg hz, Option.bind_some, List.headD_cons]
        have hu : u.f0.length < 1099511627776 := hmem u (by simp)
        have ax0 : aF 4 (aZ (u :: G')) (.int .i64 0) = some (.lptr 4 ((u :: G').map upA) 0 0) := by simp [aZ, aF, nat?]
        have lx0 : ((u :: G').map upA)[0]? = some (upA u) := rfl
        have pv := dW ho
        have c2 := cb2 (H := H) (X := X ++ X') (a := .nils) (b := .int .i64 0) (v := v) (r := aZ rest) (o := aR.loop F lp .busy none)
        generalize (u :: G').map upA = L at ax0 lx0
        simp only [push_cast, ↓reduceIte, Nat.reduceEqDiff, reduceCtorEq, Nat.reduceAdd, Nat.reduceLT, Nat.reduceLeDiff, aB, aA, f2, f3, f4, f5, f6, hz, ax0, lx0, c2, pv.1, pv.2.1, pv.2.2.1, gA, upA, aS]
        (refine aC.look (eD _ u.f0 _ rfl hu) ?_; simp only [push_cast, ↓reduceIte, Nat.reduceEqDiff, reduceCtorEq, Nat.reduceAdd, Nat.reduceLT, Nat.reduceLeDiff, aB, aA, f2, f3, f4, f5, f6, aS])
        have hb0 : Own (CB H .nils (.int .i64 0) v (aZ rest) (.loop F lp .busy none)) (CB H .nils (.int .i64 0) v (aZ rest) (.loop F lp .busy none) ++ (X ++ X')) 4 v (out.map upA) := by
          have := (rA (a' := .nils) (b' := .int .i64 0) (v' := v) (r' := aZ rest) (o' := .loop F lp .busy none) ho).mono (J := X')
          rw [List.append_assoc] at this
          exact this
        refine hb0.mono.xapp (aN (List.prefix_append _ _)) (xs := [upA ⟨u.f0, u.f1, n⟩]) (bT (by simp)) (by simp only [List.length_map, List.length_cons, List.length_nil]; omega) fun v' H4 ho' hp' => ?_
        obtain ⟨X4, rfl⟩ := hp'
        have pv' := dW ho'
        have c2' := cb2 (H := H) (X := X4) (a := .nils) (b := .int .i64 0) (v := v) (r := aZ rest) (o := aR.loop F lp .busy none)
        have s2 := fun a' => cs2 (H := H) (X := X4) (a := .nils) (b := .int .i64 0) (v := v) (r := aZ rest) (o := aR.loop F lp .busy none) (a' := a')
        simp only [push_cast, ↓reduceIte, Nat.reduceEqDiff, reduceCtorEq, Nat.reduceAdd, Nat.reduceLT, Nat.reduceLeDiff, f4, c2', pv'.1, pv'.2.1, pv.1, pv.2.1, pv.2.2.2, s2, aB, aA]
        unfold zS
        refine ⟨.busy, none, cb5, ?_⟩
        dsimp only
        rw [cs5]
        exact ⟨cb3, cb4, .inl ⟨rfl, out ++ [⟨u.f0, u.f1, n⟩], v', X4, cs3, by rw [List.map_append]; exact rA ho', by rw [List.length_append, List.length_drop]; simp only [List.length_cons, List.length_nil]; omega, hd2, hsd⟩⟩
    · intro f X' hn f2 f3
      have hd2 : dR [] (fC S.length S) = none := by rw [hd]; simp only [dR, iR, hn, Option.bind_none]
      simp only [push_cast, ↓reduceIte, Nat.reduceEqDiff, reduceCtorEq, Nat.reduceAdd, Nat.reduceLT, Nat.reduceLeDiff]
      unfold zS
      refine ⟨.busy, none, cb5, ?_⟩
      dsimp only
      rw [cs5]
      exact ⟨cb3, cb4, .inr ⟨rfl, .done, some .ret, cb5, by simp, by rw [cs5]; exact q2 _ _ _ hd2⟩⟩
  · rintro H' ⟨out, v, X, rfl, ho, hlo, hd, hsr⟩
    exact ⟨.ready, none, cb5, by simp, by rw [cs5]; exact q1 _ _ _ out (rA ho) (by rw [hd]; rfl)⟩
end Go.Eng
end
section
set_option linter.unusedVariables false
set_option linter.unusedSimpArgs false
set_option maxRecDepth 10000
namespace Go.Eng
open Go Go.Proofs
structure OBX (H0 H : AH) (t : Nat) (hd vs : List AV) (ls : List (Nat × List AV)) (B : Nat) (bx : Nat × List AV) : Prop where
  o : OBL H0 H t hd vs ls
  bo : obj? H B = some bx
  bt : B ≠ t
  ba : ∀ (i : Nat) v, vs[i]? = some v → idx v ≠ some B
theorem OBL.low {H0 H : AH} {t : Nat} {hd vs : List AV} {ls : List (Nat × List AV)} (O : OBL H0 H t hd vs ls) {i : Nat} {v : AV} {u : Nat} (hi : vs[i]? = some v) (hu : idx v = some u) : H0.length ≤ u ∧ u < H.length := by
  have h3 : i < ls.length := by rw [← O.len]; exact (List.getElem?_eq_some_iff.1 hi).1
  exact (O.own i v _ hi (List.getElem?_eq_getElem h3)).idx_lt hu
theorem OBL.mono {H0 H J : AH} {t : Nat} {hd vs : List AV} {ls : List (Nat × List AV)} (O : OBL H0 H t hd vs ls) : OBL H0 (H ++ J) t hd vs ls :=
  ⟨aN O.pre, O.lt, bB (List.prefix_append _ _) O.ob, fun i v l h1 h2 => (O.own i v l h1 h2).mono, O.ap, O.apt, O.len⟩
theorem OBL.box {H0 H : AH} {t : Nat} {hd vs : List AV} {ls : List (Nat × List AV)} (O : OBL H0 H t hd vs ls) (sz : Nat) (es : List AV) : OBX H0 (H ++ [.live sz es]) t hd vs ls H.length (sz, es) :=
  ⟨O.mono, bA _ _ _, fun e => by have := aY O.ob; omega, fun i v h e => by have := (O.low h e).2; omega⟩
theorem OBX.app {H0 H : AH} {t j sz B : Nat} {bx : Nat × List AV} {hd vs : List AV} {ls : List (Nat × List AV)} {v : AV} {l xs : List AV} (O : OBX H0 H t hd vs ls B bx) (hj : vs[j]? = some v) (hl : ls[j]? = some (sz, l)) :
    OBX H0 (List.set (kill v H ++ [.live sz (l ++ xs)]) t (.live (hd.length + vs.length) [.agg (hd ++ vs.set j (.ref sz H.length 0 (l ++ xs).length (l ++ xs).length false))])) t hd (vs.set j (.ref sz H.length 0 (l ++ xs).length (l ++ xs).length false)) (ls.set j (sz, l ++ xs)) B bx := by
  have hB := aY O.bo
  refine ⟨O.o.app hj hl, ?_, O.bt, fun i w h e => ?_⟩
  · rw [bF (fun e => O.bt e.symm)]
    have := iQ (H := H) (O.ba j v hj)
    exact bB (List.prefix_append _ _) (this.trans O.bo)
  · rw [List.getElem?_set] at h
    split at h
    · split at h
      · cases h; cases e; omega
      · cases h
    · exact O.ba i w h e
theorem OBX.put {H0 H : AH} {t j sz u n c B : Nat} {bx : Nat × List AV} {ex : Bool} {hd vs : List AV} {ls : List (Nat × List AV)} {l l' : List AV} (O : OBX H0 H t hd vs ls B bx) (hj : vs[j]? = some (.ref sz u 0 n c ex)) (hl : ls[j]? = some (sz, l)) (hlen : l'.length = l.length) :
    OBX H0 (List.set H u (.live sz l')) t hd vs (ls.set j (sz, l')) B bx :=
  ⟨O.o.put hj hl hlen, by rw [bF (fun e => O.ba j _ hj (by rw [idx, e]))]; exact O.bo, O.bt, O.ba⟩
theorem OBX.mid {H0 H J : AH} {t j B : Nat} {bx : Nat × List AV} {hd vs : List AV} {ls : List (Nat × List AV)} {v : AV} (O : OBX H0 H t hd vs ls B bx) (hj : vs[j]? = some v) : obj? (kill v H ++ J) t = some (hd.length + vs.length, [.agg (hd ++ vs)]) := by
  have := iQ (H := H) (O.o.apt j v hj)
  exact bB (List.prefix_append _ _) (this.trans O.o.ob)
theorem OBX.mono {H0 H J : AH} {t B : Nat} {bx : Nat × List AV} {hd vs : List AV} {ls : List (Nat × List AV)} (O : OBX H0 H t hd vs ls B bx) : OBX H0 (H ++ J) t hd vs ls B bx :=
  ⟨O.o.mono, bB (List.prefix_append _ _) O.bo, O.bt, O.ba⟩
theorem OBX.appd {H0 H : AH} {t sz B : Nat} {bx : Nat × List AV} {hd vs : List AV} {ls : List (Nat × List AV)} {v : AV} {l : List AV} (O : OBX H0 H t hd vs ls B bx) (j bytes : Nat) (x : AV) (hj : vs[j]? = some v) (hl : ls[j]? = some (sz, l)) (hb : (l.length + 1) * bytes ≤ 140737488355328) :
    ∃ v' Hm H2, mM sz bytes v (.ref sz H.length 0 1 1 true) (H ++ [.live sz [x]]) = some (v', Hm) ∧ obj? Hm t = some (hd.length + vs.length, [.agg (hd ++ vs)]) ∧ cells v' = [v'] ∧ dH v' = true ∧ List.set Hm t (.live (hd.length + vs.length) [.agg (hd ++ vs.set j v')]) = H2 ∧ OBX H0 H2 t hd (vs.set j v') (ls.set j (sz, l ++ [x])) B bx := by
  have O1 := O.mono (J := [.live sz [x]])
  have ow := O1.o.own j v _ hj hl
  refine ⟨_, _, _, ow.app_eq (xs := [x]) (bT (by simp)) (by simp) (by simpa using hb), O1.mid hj, rfl, rfl, rfl, O1.app hj hl⟩
theorem OBX.sc {H0 H : AH} {t B : Nat} {bx : Nat × List AV} {hd vs : List AV} {ls : List (Nat × List AV)} (O : OBX H0 H t hd vs ls B bx) {i : Nat} {v : AV} (h : vs[i]? = some v) : dH v = true ∧ cells v = [v] := by
  have h3 : i < ls.length := by rw [← O.o.len]; exact (List.getElem?_eq_some_iff.1 h).1
  have := dW (O.o.own i v _ h (List.getElem?_eq_getElem h3))
  exact ⟨this.1, this.2.1⟩
theorem pC {H0 H : AH} {sz : Nat} {v : AV} {l : List AV} (h : Own H0 H sz v l) : cZ v = some l.length := by
  rcases h with ⟨rfl, rfl⟩ | ⟨t, ex, _, rfl, _⟩ <;> rfl
theorem OBX.al {H0 H : AH} {t B : Nat} {bx : Nat × List AV} {hd vs : List AV} {ls : List (Nat × List AV)} (O : OBX H0 H t hd vs ls B bx) {i : Nat} {v : AV} {l : Nat × List AV} (h : vs[i]? = some v) (h2 : ls[i]? = some l) : cZ v = some l.2.length := pC (O.o.own i v l h h2)
theorem MG (k : List Val) : cells (aS k) = [aS k] ∧ dH (aS k) = true := ⟨rfl, rfl⟩
def lsB (b : Bt) : List (Nat × List AV) := [(2, b.since.map aQ), (1, b.keys.map aS), (1, b.kends.map jP), (1, b.rests.map aS), (1, b.rends.map jP), (2, b.times.map aQ), (1, b.ws.map jP)]
def hdB (b : Bt) : List AV := [.int .i64 b.key, .int .i64 b.weight]
theorem OJ {α : Type} {l : List α} (h : l.length = 7) : ∃ a b c d e f g, l = [a, b, c, d, e, f, g] := by
  match l, h with
  | [a, b, c, d, e, f, g], _ => exact ⟨a, b, c, d, e, f, g, rfl⟩
def BX (H0 H : AH) (t : Nat) (b : Bt) (B : Nat) (u : Upd) : Prop := ∃ vs, OBX H0 H t (hdB b) vs (lsB b) B (4, [upA u])
def tV : AC := (.cond (.t 42) (.seq (.ops [oo 43 (.mov (.t 0)), oo 44 (.mov (.t 0)), oo 45 (.nilc (.t 44)), oo 46 (.faddr 3 (.t 45)), oo 47 (.load false 1 (.t 46)), oo 48 (.mov (.t 4)), oo 49 (.bsl 1 1 .nils [(0, (.t 48))]), oo 50 (.app 1 24 (.t 47) (.t 49)), oo 51 (.nilc (.t 43)), oo 52 (.faddr 3 (.t 51)), on (.store 1 (.t 52) (.t 50))]) (.ops [oo 159 (.mov (.t 0)), oo 160 (.mov (.t 0)), oo 161 (.nilc (.t 160)), oo 162 (.faddr 4 (.t 161)), oo 163 (.load false 1 (.t 162)), oo 164 (.mov (.t 0)), oo 165 (.nilc (.t 164)), oo 166 (.faddr 5 (.t 165)), oo 167 (.load false 1 (.t 166)), oo 168 (.len (.t 167)), oo 169 (.bsl 1 1 (.int .i64 0) [(0, (.t 168))]), oo 170 (.app 1 8 (.t 163) (.t 169)), oo 171 (.nilc (.t 159)), oo 172 (.faddr 4 (.t 171)), oo 173 (.store 1 (.t 172) (.t 170)), oo 53 (.mov (.t 159)), oo 54 (.mov (.t 160)), oo 55 (.mov (.t 161)), oo 56 (.mov (.t 162)), oo 57 (.mov (.t 163)), oo 58 (.mov (.t 164)), oo 59 (.mov (.t 165)), oo 60 (.mov (.t 166)), oo 61 (.mov (.t 167)), oo 62 (.mov (.t 168)), oo 63 (.mov (.t 169)), oo 64 (.mov (.t 170)), oo 65 (.mov (.t 171)), oo 66 (.mov (.t 172))])) .skip)
def tW : AC := (.cond (.t 84) (.seq (.ops [oo 85 (.mov (.t 0)), oo 86 (.mov (.t 0)), oo 87 (.nilc (.t 86)), oo 88 (.faddr 5 (.t 87)), oo 89 (.load false 1 (.t 88)), oo 90 (.mov (.t 5)), oo 91 (.bsl 1 1 .nils [(0, (.t 90))]), oo 92 (.app 1 24 (.t 89) (.t 91)), oo 93 (.nilc (.t 85)), oo 94 (.faddr 5 (.t 93)), on (.store 1 (.t 94) (.t 92))]) (.seq (.ops [oo 159 (.mov (.t 0)), oo 160 (.mov (.t 0)), oo 161 (.nilc (.t 160)), oo 162 (.faddr 6 (.t 161)), oo 163 (.load false 1 (.t 162)), oo 164 (.mov (.t 0)), oo 165 (.nilc (.t 164)), oo 166 (.faddr 7 (.t 165)), oo 167 (.load false 1 (.t 166)), oo 168 (.len (.t 167)), oo 169 (.bsl 1 1 (.int .i64 0) [(0, (.t 168))]), oo 170 (.app 1 8 (.t 163) (.t 169)), oo 171 (.nilc (.t 159)), oo 172 (.faddr 6 (.t 171)), oo 173 (.store 1 (.t 172) (.t 170)), oo 95 (.mov (.t 159)), oo 96 (.mov (.t 160)), oo 97 (.mov (.t 161)), oo 98 (.mov (.t 162)), oo 99 (.mov (.t 163)), oo 100 (.mov (.t 164)), oo 101 (.mov (.t 165)), oo 102 (.mov (.t 166)), oo 103 (.mov (.t 167)), oo 104 (.mov (.t 168)), oo 105 (.mov (.t 169)), oo 106 (.mov (.t 170)), oo 107 (.mov (.t 171)), oo 108 (.mov (.t 172))]) (.ops [oo 159 (.mov (.t 0)), oo 160 (.nilc (.t 159)), oo 161 (.faddr 4 (.t 160)), oo 162 (.load false 1 (.t 161)), oo 163 (.mov (.t 0)), oo 164 (.nilc (.t 163)), oo 165 (.faddr 4 (.t 164)), oo 166 (.load false 1 (.t 165)), oo 167 (.len (.t 166)), oo 168 (.bin .sub (.t 167) (.v (.int .i64 1))), oo 169 (.iaddr 1 (.t 162) (.t 168)), oo 170 (.load false 1 (.t 169)), oo 171 (.bin .add (.t 170) (.v (.int .i64 1))), oo 172 (.iaddr 1 (.t 162) (.t 168)), oo 173 (.store 1 (.t 172) (.t 171)), oo 109 (.mov (.t 159)), oo 110 (.mov (.t 160)), oo 111 (.mov (.t 161)), oo 112 (.mov (.t 162)), oo 113 (.mov (.t 163)), oo 114 (.mov (.t 164)), oo 115 (.mov (.t 165)), oo 116 (.mov (.t 166)), oo 117 (.mov (.t 167)), oo 118 (.mov (.t 168)), oo 119 (.mov (.t 169)), oo 120 (.mov (.t 170)), oo 121 (.mov (.t 171)), oo 122 (.mov (.t 172))]))) .skip)
def tX : AC := (.seq (.ops [oo 159 (.mov (.t 0)), oo 160 (.mov (.t 0)), oo 161 (.nilc (.t 160)), oo 162 (.faddr 7 (.t 161)), oo 163 (.load false 1 (.t 162)), oo 164 (.faddr 1 (.t 3)), oo 165 (.load true 2 (.t 164)), oo 166 (.bsl 2 1 (.agg [(.int .i64 0), (.int .i64 0)]) [(0, (.t 165))]), oo 167 (.app 2 16 (.t 163) (.t 166)), oo 168 (.nilc (.t 159)), oo 169 (.faddr 7 (.t 168)), oo 170 (.store 1 (.t 169) (.t 167)), oo 123 (.mov (.t 159)), oo 124 (.mov (.t 160)), oo 125 (.mov (.t 161)), oo 126 (.mov (.t 162)), oo 127 (.mov (.t 163)), oo 128 (.mov (.t 164)), oo 129 (.mov (.t 165)), oo 130 (.mov (.t 166)), oo 131 (.mov (.t 167)), oo 132 (.mov (.t 168)), oo 133 (.mov (.t 169))]) (.seq (.ops [oo 159 (.mov (.t 0)), oo 160 (.mov (.t 0)), oo 161 (.nilc (.t 160)), oo 162 (.faddr 8 (.t 161)), oo 163 (.load false 1 (.t 162)), oo 164 (.faddr 3 (.t 3)), oo 165 (.load false 1 (.t 164)), oo 166 (.bsl 1 1 (.int .i64 0) [(0, (.t 165))]), oo 167 (.app 1 8 (.t 163) (.t 166)), oo 168 (.nilc (.t 159)), oo 169 (.faddr 8 (.t 168)), oo 170 (.store 1 (.t 169) (.t 167)), oo 134 (.mov (.t 159)), oo 135 (.mov (.t 160)), oo 136 (.mov (.t 161)), oo 137 (.mov (.t 162)), oo 138 (.mov (.t 163)), oo 139 (.mov (.t 164)), oo 140 (.mov (.t 165)), oo 141 (.mov (.t 166)), oo 142 (.mov (.t 167)), oo 143 (.mov (.t 168)), oo 144 (.mov (.t 169))]) (.ops [oo 159 (.mov (.t 0)), oo 160 (.nilc (.t 159)), oo 161 (.faddr 6 (.t 160)), oo 162 (.load false 1 (.t 161)), oo 163 (.mov (.t 0)), oo 164 (.nilc (.t 163)), oo 165 (.faddr 6 (.t 164)), oo 166 (.load false 1 (.t 165)), oo 167 (.len (.t 166)), oo 168 (.bin .sub (.t 167) (.v (.int .i64 1))), oo 169 (.iaddr 1 (.t 162) (.t 168)), oo 170 (.load false 1 (.t 169)), oo 171 (.bin .add (.t 170) (.v (.int .i64 1))), oo 172 (.iaddr 1 (.t 162) (.t 168)), oo 173 (.store 1 (.t 172) (.t 171)), oo 145 (.mov (.t 159)), oo 146 (.mov (.t 160)), oo 147 (.mov (.t 161)), oo 148 (.mov (.t 162)), oo 149 (.mov (.t 163)), oo 150 (.mov (.t 164)), oo 151 (.mov (.t 165)), oo 152 (.mov (.t 166)), oo 153 (.mov (.t 167)), oo 154 (.mov (.t 168)), oo 155 (.mov (.t 169)), oo 156 (.mov (.t 170)), oo 157 (.mov (.t 171)), oo 158 (.mov (.t 172))])))
def MH : AC := (.ops [oo 159 (.faddr 0 (.t 3)), oo 160 (.load false 1 (.t 159)), oo 161 (.mov (.t 0)), oo 162 (.nilc (.t 161)), oo 163 (.faddr 0 (.t 162)), oo 164 (.load false 1 (.t 163)), oo 165 (.call 82 [(.t 160), (.t 164)]), oo 166 (.mov (.t 165)), oo 167 (.ext (.t 166) 0), oo 168 (.ext (.t 166) 1), oo 169 (.ext (.t 166) 2), oo 170 (.mov (.t 167)), oo 171 (.mov (.t 168)), oo 172 (.mov (.t 169)), oo 9 (.mov (.t 159)), oo 10 (.mov (.t 160)), oo 11 (.mov (.t 161)), oo 12 (.mov (.t 162)), oo 13 (.mov (.t 163)), oo 14 (.mov (.t 164)), oo 15 (.mov (.t 165)), oo 8 (.mov (.t 166)), oo 16 (.mov (.t 167)), oo 17 (.mov (.t 168)), oo 18 (.mov (.t 169)), oo 4 (.mov (.t 170)), oo 5 (.mov (.t 171)), oo 6 (.mov (.t 172))])
def MI : AC := (.ops [oo 159 (.mov (.t 0)), oo 160 (.nilc (.t 159)), oo 161 (.faddr 3 (.t 160)), oo 162 (.load false 1 (.t 161)), oo 163 (.len (.t 162)), oo 164 (.bin .eql (.t 163) (.v (.int .i64 0))), oo 165 (.mov (.t 164)), og 166 165 false (.mov (.t 0)), og 167 165 false (.nilc (.t 166)), og 168 165 false (.faddr 3 (.t 167)), og 169 165 false (.load false 1 (.t 168)), og 170 165 false (.mov (.t 0)), og 171 165 false (.nilc (.t 170)), og 172 165 false (.faddr 3 (.t 171)), og 173 165 false (.load false 1 (.t 172)), og 174 165 false (.len (.t 173)), og 175 165 false (.bin .sub (.t 174) (.v (.int .i64 1))), og 176 165 false (.iaddr 1 (.t 169) (.t 175)), og 177 165 false (.load false 1 (.t 176)), og 178 165 false (.mov (.t 4)), og 179 165 false (.call 83 [(.t 177), (.t 178)]), og 180 165 false (.un .not (.t 179)), oo 181 (.pick (.t 165) (.v (.bool true)) (.t 180)), oo 182 (.mov (.t 181)), oo 19 (.mov (.t 159)), oo 20 (.mov (.t 160)), oo 21 (.mov (.t 161)), oo 22 (.mov (.t 162)), oo 23 (.mov (.t 163)), oo 24 (.mov (.t 164)), oo 25 (.mov (.t 165)), oo 26 (.mov (.t 166)), oo 27 (.mov (.t 167)), oo 28 (.mov (.t 168)), oo 29 (.mov (.t 169)), oo 30 (.mov (.t 170)), oo 31 (.mov (.t 171)), oo 32 (.mov (.t 172)), oo 33 (.mov (.t 173)), oo 34 (.mov (.t 174)), oo 35 (.mov (.t 175)), oo 36 (.mov (.t 176)), oo 37 (.mov (.t 177)), oo 38 (.mov (.t 178)), oo 39 (.mov (.t 179)), oo 40 (.mov (.t 180)), oo 41 (.mov (.t 181)), oo 7 (.mov (.t 182))])
def MJ : AC := (.ops [oo 159 (.mov (.t 7)), oo 160 (.mov (.t 159)), og 161 160 false (.mov (.t 0)), og 162 160 false (.nilc (.t 161)), og 163 160 false (.faddr 5 (.t 162)), og 164 160 false (.load false 1 (.t 163)), og 165 160 false (.mov (.t 0)), og 166 160 false (.nilc (.t 165)), og 167 160 false (.faddr 5 (.t 166)), og 168 160 false (.load false 1 (.t 167)), og 169 160 false (.len (.t 168)), og 170 160 false (.bin .sub (.t 169) (.v (.int .i64 1))), og 171 160 false (.iaddr 1 (.t 164) (.t 170)), og 172 160 false (.load false 1 (.t 171)), og 173 160 false (.mov (.t 5)), og 174 160 false (.call 83 [(.t 172), (.t 173)]), og 175 160 false (.un .not (.t 174)), oo 176 (.pick (.t 160) (.v (.bool true)) (.t 175)), oo 67 (.mov (.t 159)), oo 68 (.mov (.t 160)), oo 69 (.mov (.t 161)), oo 70 (.mov (.t 162)), oo 71 (.mov (.t 163)), oo 72 (.mov (.t 164)), oo 73 (.mov (.t 165)), oo 74 (.mov (.t 166)), oo 75 (.mov (.t 167)), oo 76 (.mov (.t 168)), oo 77 (.mov (.t 169)), oo 78 (.mov (.t 170)), oo 79 (.mov (.t 171)), oo 80 (.mov (.t 172)), oo 81 (.mov (.t 173)), oo 82 (.mov (.t 174)), oo 83 (.mov (.t 175)), oo 84 (.mov (.t 176))])
def F56 : AFn := ⟨159, 2, [], (.seq (.ops [oo 3 (.box 4 (.t 1))]) (.seq (MH) (.seq (MI) (.seq (.seq (.ops [oo 42 (.mov (.t 7))]) (tV)) (.seq (.seq (MJ) (tW)) (tX))))))⟩
theorem c56 : aD Tryz.prog 56 = some F56 := by kernel_rfl
theorem pD (z : Int) : part false 1 0 (.int .i64 z) = some (.int .i64 z) := Eq.trans rfl rfl
theorem vI (z y : Int) : kK (.int .i64 z) 0 [.int .i64 y] = .int .i64 y := Eq.trans rfl rfl
theorem MK {H0 H : AH} {t B : Nat} {b : Bt} {u : Upd} {k r : List Val} {nk : Bool} {f : AF} {Q : AE → AF → AH → Prop} (O : BX H0 H t b B u) (hk : b.keys.length < 1099511627776) (hke : b.kends.length < 1099511627776)
    (e0 : f 0 = .ptr t 0 0) (e3 : f 3 = .ptr B 0 0) (e4 : f 4 = aS k) (e5 : f 5 = aS r) (e7 : f 7 = .bool nk) (e42 : f 42 = .bool nk)
    (hQ : ∀ f H, BX H0 H t (if nk = true then yC b k else b) B u → f 0 = .ptr t 0 0 → f 3 = .ptr B 0 0 → f 5 = aS r → f 7 = .bool nk → Q .normal f H) : tV.wp Tryz.prog Q f H := by
  unfold tV
  cases nk with
  | false =>
    simp only [push_cast, ↓reduceIte, Nat.reduceEqDiff, reduceCtorEq, Nat.reduceAdd, Nat.reduceLT, Nat.reduceLeDiff, e42]
    exact hQ _ _ (by simpa using O) e0 e3 e5 e7
  | true =>
    obtain ⟨vs, O⟩ := O
    obtain ⟨v0, v1, v2, v3, v4, v5, v6, rfl⟩ := OJ (l := vs) O.o.len
    have ob := O.o.ob
    have ob1 := O.mono (J := [.live 1 [aS k]]).o.ob
    obtain ⟨w1, Hm, H2, ap, md, c1, c2, st, O2⟩ := O.appd 1 24 (aS k) rfl rfl (by simp only [List.length_map]; omega)
    have ob2 := O2.o.ob
    have a3 : cZ v3 = some (b.rests.map aS).length := O2.al (i := 3) rfl rfl
    have ob3 := O2.mono (J := [.live 1 [.int .i64 b.rests.length]]).o.ob
    obtain ⟨w2, Hn, H3, ap2, md2, d1, d2, st2, O3⟩ := O2.appd 2 8 (.int .i64 b.rests.length) rfl rfl (by simp only [List.length_map]; omega)
    simp only [hdB, List.cons_append, List.nil_append, List.length_cons, List.length_nil, List.set_cons_zero, List.set_cons_succ, Nat.reduceAdd, List.length_set] at ob ob1 ob2 ob3 md md2 st st2 O2 O3
    rw [List.length_map] at a3
    simp only [push_cast, ↓reduceIte, Nat.reduceEqDiff, reduceCtorEq, Nat.reduceAdd, Nat.reduceLT, Nat.reduceLeDiff, aB, aA, e0, e3, e4, e42, ob, ob1, md, ap, MG, st, c1, c2, ob2, a3, ob3, md2, ap2, st2, d1, d2, Option.map_some]
    have e : lsB (yC b k) = ((lsB b).set 1 (1, List.map aS b.keys ++ [aS k])).set 2 (1, List.map jP b.kends ++ [.int .i64 b.rests.length]) := by simp [lsB, yC, jP]
    exact hQ _ _ ⟨_, by rw [if_pos rfl, e]; exact O3⟩ e0 e3 e5 e7
theorem rB (l : List Int) (z : Int) : yB (l ++ [z]) = l ++ [z + 1] := by
  unfold yB
  simp
theorem OBX.inc {H0 H : AH} {t B : Nat} {bx : Nat × List AV} {hd vs : List AV} {ls : List (Nat × List AV)} {v : AV} {l : List AV} (O : OBX H0 H t hd vs ls B bx) (j : Nat) (x y : AV) (hj : vs[j]? = some v) (hl : ls[j]? = some (1, l ++ [x])) :
    ∃ u L H2, cZ v = some (l.length + 1) ∧ aF 1 v (.int .i64 (l.length : Int)) = some (.ptr u l.length 0) ∧ obj? H u = some (1, L) ∧ L[l.length]? = some x ∧ List.set H u (.live 1 (L.set l.length y)) = H2 ∧ OBX H0 H2 t hd vs (ls.set j (1, l ++ [y])) B bx := by
  have o := O.o.own j v _ hj hl
  rcases o with ⟨_, h⟩ | ⟨u, ex, hu, rfl, ho⟩
  · simp at h
  · dsimp only at ho hj
    refine ⟨u, l ++ [x], _, by simp [cZ], by simp [aF, nat?], ho, by simp, rfl, ?_⟩
    have := O.put (l' := l ++ [y]) hj hl (by simp)
    have e : (l ++ [x]).set l.length y = l ++ [y] := by simp
    rw [e]
    exact this
theorem ML {H0 H : AH} {t B : Nat} {b : Bt} {u : Upd} {r : List Val} {nr : Bool} {ks : List Int} {z : Int} {f : AF} {Q : AE → AF → AH → Prop} (O : BX H0 H t b B u) (hr : b.rests.length < 1099511627776) (hre : b.rends.length < 1099511627776) (hke : b.kends.length < 1099511627776)
    (hk : b.kends = ks ++ [z]) (hz : 0 ≤ z ∧ z < 1099511627776) (e0 : f 0 = .ptr t 0 0) (e3 : f 3 = .ptr B 0 0) (e5 : f 5 = aS r) (e84 : f 84 = .bool nr)
    (hQ : ∀ f H, BX H0 H t (if nr = true then oS b r else b) B u → f 0 = .ptr t 0 0 → f 3 = .ptr B 0 0 → Q .normal f H) : tW.wp Tryz.prog Q f H := by
  unfold tW
  cases nr with
  | false =>
    simp only [push_cast, ↓reduceIte, Nat.reduceEqDiff, reduceCtorEq, Nat.reduceAdd, Nat.reduceLT, Nat.reduceLeDiff, e84]
    exact hQ _ _ (by simpa using O) e0 e3
  | true =>
    obtain ⟨vs, O⟩ := O
    obtain ⟨v0, v1, v2, v3, v4, v5, v6, rfl⟩ := OJ (l := vs) O.o.len
    have ob := O.o.ob
    have ob1 := O.mono (J := [.live 1 [aS r]]).o.ob
    obtain ⟨w1, Hm, H2, ap, md, c1, c2, st, O2⟩ := O.appd 3 24 (aS r) rfl rfl (by simp only [List.length_map]; omega)
    have ob2 := O2.o.ob
    have a5 : cZ v5 = some (b.times.map aQ).length := O2.al (i := 5) rfl rfl
    have ob3 := O2.mono (J := [.live 1 [.int .i64 b.times.length]]).o.ob
    obtain ⟨w2, Hn, H3, ap2, md2, d1, d2, st2, O3⟩ := O2.appd 4 8 (.int .i64 b.times.length) rfl rfl (by simp only [List.length_map]; omega)
    have ob4 := O3.o.ob
    have hkm : lsB b = (lsB b).set 2 (1, ks.map jP ++ [.int .i64 z]) := by simp [lsB, hk, jP]
    rw [hkm] at O3
    obtain ⟨p, L, H4, al2, ad, op, gx, st3, O4⟩ := O3.inc 2 (.int .i64 z) (.int .i64 (z + 1)) rfl rfl
    have w64 : IntKind.i64.wrap (z + 1) = z + 1 := aE (by omega) (by omega)
    have hkl : ks.length < 1099511627776 := by rw [hk] at hke; simp at hke; omega
    rw [List.length_map] at al2 ad gx st3
    have wl : IntKind.i64.wrap (((ks.length + 1 : Nat) : Int) - 1) = (ks.length : Int) := by rw [aE (by omega) (by omega)]; omega
    simp only [hdB, List.cons_append, List.nil_append, List.length_cons, List.length_nil, List.set_cons_zero, List.set_cons_succ, Nat.reduceAdd, List.length_set] at ob ob1 ob2 ob3 ob4 md md2 st st2 O2 O3 O4 ad al2
    rw [List.length_map] at a5
    generalize hq : ks.length + 1 = q at al2 wl
    simp only [push_cast, ↓reduceIte, Nat.reduceEqDiff, reduceCtorEq, Nat.reduceAdd, Nat.reduceLT, Nat.reduceLeDiff, aB, aA, e0, e3, e5, e84, ob, ob1, md, ap, MG, st, c1, c2, ob2, a5, ob3, md2, ap2, st2, d1, d2, Option.map_some, ob4, al2, wl, ad, op, gx, st3, w64, pD, vI]
    have e : lsB (oS b r) = ((((lsB b).set 2 (1, List.map jP ks ++ [.int .i64 z])).set 3 (1, List.map aS b.rests ++ [aS r])).set 4 (1, List.map jP b.rends ++ [.int .i64 b.times.length])).set 2 (1, List.map jP ks ++ [.int .i64 (z + 1)]) := by simp [lsB, oS, jP, hk, rB]
    exact hQ _ _ ⟨_, by rw [if_pos rfl, e]; exact O4⟩ e0 e3
theorem HF {H0 H : AH} {t B : Nat} {b : Bt} {u : Upd} {ks : List Int} {z : Int} {f : AF} {Q : AE → AF → AH → Prop} (O : BX H0 H t b B u) (ht : b.times.length < 1099511627776) (hw : b.ws.length < 1099511627776) (hre : b.rends.length < 1099511627776)
    (hk : b.rends = ks ++ [z]) (hz : 0 ≤ z ∧ z < 1099511627776) (e0 : f 0 = .ptr t 0 0) (e3 : f 3 = .ptr B 0 0)
    (hQ : ∀ f H, BX H0 H t (kC b u.f1 u.f2) B u → Q .normal f H) : tX.wp Tryz.prog Q f H := by
  obtain ⟨vs, O⟩ := O
  obtain ⟨v0, v1, v2, v3, v4, v5, v6, rfl⟩ := OJ (l := vs) O.o.len
  have ob := O.o.ob
  have bo := O.bo
  have ob1 := O.mono (J := [.live 2 [aQ u.f1]]).o.ob
  obtain ⟨w1, Hm, H2, ap, md, c1, c2, st, O2⟩ := O.appd 5 16 (aQ u.f1) rfl rfl (by simp only [List.length_map]; omega)
  have ob2 := O2.o.ob
  have bo2 := O2.bo
  have ob3 := O2.mono (J := [.live 1 [.int .i64 u.f2]]).o.ob
  obtain ⟨w2, Hn, H3, ap2, md2, d1, d2, st2, O3⟩ := O2.appd 6 8 (.int .i64 u.f2) rfl rfl (by simp only [List.length_map]; omega)
  have ob4 := O3.o.ob
  have hkm : lsB b = (lsB b).set 4 (1, ks.map jP ++ [.int .i64 z]) := by simp [lsB, hk, jP]
  rw [hkm] at O3
  obtain ⟨p, L, H4, al2, ad, op, gx, st3, O4⟩ := O3.inc 4 (.int .i64 z) (.int .i64 (z + 1)) rfl rfl
  have w64 : IntKind.i64.wrap (z + 1) = z + 1 := aE (by omega) (by omega)
  have hkl : ks.length < 1099511627776 := by rw [hk] at hre; simp at hre; omega
  rw [List.length_map] at al2 ad gx st3
  have wl : IntKind.i64.wrap (((ks.length + 1 : Nat) : Int) - 1) = (ks.length : Int) := by rw [aE (by omega) (by omega)]; omega
  simp only [hdB, List.cons_append, List.nil_append, List.length_cons, List.length_nil, List.set_cons_zero, List.set_cons_succ, Nat.reduceAdd, List.length_set] at ob ob1 ob2 ob3 ob4 md md2 st st2 O2 O3 O4 ad al2
  generalize hq : ks.length + 1 = q at al2 wl
  have f1 : part true 2 1 (upA u) = some (aQ u.f1) := rfl
  have f2 : part false 1 3 (upA u) = some (.int .i64 u.f2) := rfl
  have k1 : cells (aQ u.f1) = [.int .i64 u.f1.f0, .int .i64 u.f1.f1] := rfl
  unfold tX
  simp only [push_cast, ↓reduceIte, Nat.reduceEqDiff, reduceCtorEq, Nat.reduceAdd, Nat.reduceLT, Nat.reduceLeDiff, aB, aA, e0, e3, ob, bo, ob1, md, ap, f1, f2, k1, st, c1, c2, ob2, bo2, ob3, md2, ap2, st2, d1, d2, Option.map_some, ob4, al2, wl, ad, op, gx, st3, w64, pD, vI]
  have e : lsB (kC b u.f1 u.f2) = ((((lsB b).set 4 (1, List.map jP ks ++ [.int .i64 z])).set 5 (2, List.map aQ b.times ++ [aQ u.f1])).set 6 (1, List.map jP b.ws ++ [.int .i64 u.f2])).set 4 (1, List.map jP ks ++ [.int .i64 (z + 1)]) := by simp [lsB, kC, jP, hk, rB]
  exact hQ _ _ ⟨_, by rw [e]; exact O4⟩
theorem OBX.last {H0 H : AH} {t B : Nat} {bx : Nat × List AV} {hd vs : List AV} {ls : List (Nat × List AV)} {v : AV} {l : List AV} (O : OBX H0 H t hd vs ls B bx) (j : Nat) (x : AV) (hj : vs[j]? = some v) (hl : ls[j]? = some (1, l ++ [x])) :
    ∃ u L, cZ v = some (l.length + 1) ∧ aF 1 v (.int .i64 (l.length : Int)) = some (.ptr u l.length 0) ∧ obj? H u = some (1, L) ∧ L[l.length]? = some x := by
  obtain ⟨u, L, _, h1, h2, h3, h4, _⟩ := O.inc j x x hj hl
  exact ⟨u, L, h1, h2, h3, h4⟩
theorem kD (k : List Val) : part false 1 0 (aS k) = some (aS k) := Eq.trans rfl rfl
theorem UX {H0 H : AH} {t B : Nat} {b : Bt} {u : Upd} {k r : List Val} {f : AF} {Q : AE → AF → AH → Prop} (O : BX H0 H t b B u) (hk : b.keys.length < 1099511627776) (hkl : ∀ x ∈ b.keys, x.length < 1099511627776) (hkk : k.length < 1099511627776)
    (e0 : f 0 = .ptr t 0 0) (e3 : f 3 = .ptr B 0 0) (e4 : f 4 = aS k) (e5 : f 5 = aS r)
    (hQ : ∀ f, f 0 = .ptr t 0 0 → f 3 = .ptr B 0 0 → f 4 = aS k → f 5 = aS r → f 7 = .bool (lM b.keys k) → Q .normal f H) : MI.wp Tryz.prog Q f H := by
  obtain ⟨vs, O⟩ := O
  obtain ⟨v0, v1, v2, v3, v4, v5, v6, rfl⟩ := OJ (l := vs) O.o.len
  have ob := O.o.ob
  unfold MI
  rcases List.eq_nil_or_concat b.keys with h | ⟨ks, x, h⟩
  · have al : cZ v1 = some (b.keys.map aS).length := O.al (i := 1) rfl rfl
    rw [h] at al
    simp only [hdB, List.cons_append, List.nil_append, List.length_cons, List.length_nil, List.set_cons_zero, List.set_cons_succ, Nat.reduceAdd, List.length_set] at ob
    rw [List.map_nil, List.length_nil] at al
    simp only [push_cast, ↓reduceIte, Nat.reduceEqDiff, reduceCtorEq, Nat.reduceAdd, Nat.reduceLT, Nat.reduceLeDiff, aB, aA, e0, e3, ob, al]
    exact hQ _ e0 e3 e4 e5 (by rw [h]; rfl)
  · rw [List.concat_eq_append] at h
    have hkm : lsB b = (lsB b).set 1 (1, ks.map aS ++ [aS x]) := by simp [lsB, h]
    rw [hkm] at O
    obtain ⟨p, L, al, ad, op, gx⟩ := O.last 1 (aS x) rfl rfl
    rw [List.length_map] at al ad gx
    have hl : ks.length < 1099511627776 := by rw [h] at hk; simp at hk; omega
    have wl : IntKind.i64.wrap (((ks.length + 1 : Nat) : Int) - 1) = (ks.length : Int) := by rw [aE (by omega) (by omega)]; omega
    have ne : ¬ ((ks.length + 1 : Nat) : Int) = 0 := by omega
    simp only [hdB, List.cons_append, List.nil_append, List.length_cons, List.length_nil, List.set_cons_zero, List.set_cons_succ, Nat.reduceAdd, List.length_set] at ob
    generalize hq : ks.length + 1 = q at al wl ne
    simp only [push_cast, ↓reduceIte, Nat.reduceEqDiff, reduceCtorEq, Nat.reduceAdd, Nat.reduceLT, Nat.reduceLeDiff, aB, aA, e0, e3, e4, ob, al, ne, wl, ad, op, gx, kD, decide_false]
    (refine aC.look (CA _ _ x k _ rfl rfl (hkl x (by rw [h]; simp)) hkk) ?_; simp only [push_cast, ↓reduceIte, Nat.reduceEqDiff, reduceCtorEq, Nat.reduceAdd, Nat.reduceLT, Nat.reduceLeDiff, aB, aA, e0, e3, e4])
    exact hQ _ e0 e3 e4 e5 (by rw [h, gC]; rfl)
theorem UY {H0 H : AH} {t B : Nat} {b : Bt} {u : Upd} {r : List Val} {nk : Bool} {f : AF} {Q : AE → AF → AH → Prop} (O : BX H0 H t b B u) (hk : b.rests.length < 1099511627776) (hkl : ∀ x ∈ b.rests, x.length < 1099511627776) (hkk : r.length < 1099511627776) (hne : nk = false → b.rests ≠ [])
    (e0 : f 0 = .ptr t 0 0) (e3 : f 3 = .ptr B 0 0) (e5 : f 5 = aS r) (e7 : f 7 = .bool nk)
    (hQ : ∀ f, f 0 = .ptr t 0 0 → f 3 = .ptr B 0 0 → f 5 = aS r → f 84 = .bool (nk || lM b.rests r) → Q .normal f H) : MJ.wp Tryz.prog Q f H := by
  obtain ⟨vs, O⟩ := O
  obtain ⟨v0, v1, v2, v3, v4, v5, v6, rfl⟩ := OJ (l := vs) O.o.len
  have ob := O.o.ob
  unfold MJ
  cases nk with
  | true =>
    simp only [hdB, List.cons_append, List.nil_append, List.length_cons, List.length_nil, List.set_cons_zero, List.set_cons_succ, Nat.reduceAdd, List.length_set] at ob
    simp only [push_cast, ↓reduceIte, Nat.reduceEqDiff, reduceCtorEq, Nat.reduceAdd, Nat.reduceLT, Nat.reduceLeDiff, aB, aA, e0, e3, e7, ob]
    exact hQ _ e0 e3 e5 rfl
  | false =>
    rcases List.eq_nil_or_concat b.rests with h | ⟨ks, x, h⟩
    · exact absurd h (hne rfl)
    · rw [List.concat_eq_append] at h
      have hkm : lsB b = (lsB b).set 3 (1, ks.map aS ++ [aS x]) := by simp [lsB, h]
      rw [hkm] at O
      obtain ⟨p, L, al, ad, op, gx⟩ := O.last 3 (aS x) rfl rfl
      rw [List.length_map] at al ad gx
      have hl : ks.length < 1099511627776 := by rw [h] at hk; simp at hk; omega
      have wl : IntKind.i64.wrap (((ks.length + 1 : Nat) : Int) - 1) = (ks.length : Int) := by rw [aE (by omega) (by omega)]; omega
      simp only [hdB, List.cons_append, List.nil_append, List.length_cons, List.length_nil, List.set_cons_zero, List.set_cons_succ, Nat.reduceAdd, List.length_set] at ob
      generalize hq : ks.length + 1 = q at al wl
      simp only [push_cast, ↓reduceIte, Nat.reduceEqDiff, reduceCtorEq, Nat.reduceAdd, Nat.reduceLT, Nat.reduceLeDiff, aB, aA, e0, e3, e5, e7, ob, al, wl, ad, op, gx, kD, decide_false]
      (refine aC.look (CA _ _ x r _ rfl rfl (hkl x (by rw [h]; simp)) hkk) ?_; simp only [push_cast, ↓reduceIte, Nat.reduceEqDiff, reduceCtorEq, Nat.reduceAdd, Nat.reduceLT, Nat.reduceLeDiff, aB, aA, e0, e3, e5, e7])
      exact hQ _ e0 e3 e5 (by rw [h, gC]; rfl)
theorem UZ {H0 H : AH} {t B : Nat} {b : Bt} {u : Upd} {f : AF} {Q : AE → AF → AH → Prop} (O : BX H0 H t b B u) (hu : u.f0.length < 1099511627776) (hk : 0 ≤ b.key ∧ b.key ≤ u.f0.length)
    (e0 : f 0 = .ptr t 0 0) (e3 : f 3 = .ptr B 0 0)
    (hQ : ∀ f, f 0 = .ptr t 0 0 → f 3 = .ptr B 0 0 → f 4 = aS (u.f0.take b.key.toNat) → f 5 = aS (u.f0.drop b.key.toNat) → Q .normal f H) : MH.wp Tryz.prog Q f H := by
  obtain ⟨vs, O⟩ := O
  obtain ⟨v0, v1, v2, v3, v4, v5, v6, rfl⟩ := OJ (l := vs) O.o.len
  have ob := O.o.ob
  have bo := O.bo
  have f1 : part false 1 0 (upA u) = some (aS u.f0) := rfl
  unfold MH
  simp only [hdB, List.cons_append, List.nil_append, List.length_cons, List.length_nil, List.set_cons_zero, List.set_cons_succ, Nat.reduceAdd, List.length_set] at ob
  simp only [push_cast, ↓reduceIte, Nat.reduceEqDiff, reduceCtorEq, Nat.reduceAdd, Nat.reduceLT, Nat.reduceLeDiff, aB, aA, e0, e3, ob, bo, f1]
  have e : GY u.f0 b.key = .tup [aS (u.f0.take b.key.toNat), aS (u.f0.drop b.key.toNat), .int .i64 0] := by
    unfold GY
    rw [if_neg (by omega)]
  (refine aC.look (UR u.f0 b.key _ hu) ?_; simp only [push_cast, ↓reduceIte, Nat.reduceEqDiff, reduceCtorEq, Nat.reduceAdd, Nat.reduceLT, Nat.reduceLeDiff, aB, aA, e0, e3, e])
  exact hQ _ e0 e3 rfl rfl
theorem tY {b : Bt} {g : Gr} (G : Gs b g) : b.keys.length ≤ b.rests.length ∧ b.rests.length ≤ b.times.length ∧ b.kends.length = b.keys.length ∧ b.rends.length = b.rests.length ∧ b.ws.length = b.times.length := by
  have h1 := tU (fun x : List Val × List Rst => x.2) g G.ne1
  have h2 := tU (fun y : Rst => y.2) (g.flatMap (·.2)) G.ne2
  refine ⟨?_, ?_, ?_, ?_, ?_⟩
  · rw [G.keys, G.rests, List.length_map, List.length_map]; exact h1
  · rw [G.rests, G.times, List.length_map, List.length_map]; exact h2
  · rw [G.kends, G.keys, oV, List.length_map, List.length_map]
  · rw [G.rends, G.rests, oV, List.length_map, List.length_map]
  · rw [G.ws, G.times, List.length_map, List.length_map]
theorem HG {b : Bt} {g : Gr} (G : Gs b g) (h : b.keys ≠ []) : ∃ ks, b.kends = ks ++ [(b.rests.length : Int)] := by
  have hg : g ≠ [] := fun e => h (by rw [G.keys, e]; rfl)
  obtain ⟨g', x, rfl⟩ := fV g hg
  refine ⟨gW 0 (g'.map (·.2.length)), ?_⟩
  rw [G.kends, G.rests, List.map_append, List.map_cons, List.map_nil, eE, List.length_map, List.length_flatMap]
  simp
theorem HH {b : Bt} {g : Gr} (G : Gs b g) (h : b.rests ≠ []) : ∃ ks, b.rends = ks ++ [(b.times.length : Int)] := by
  have hg : g.flatMap (·.2) ≠ [] := fun e => h (by rw [G.rests, e]; rfl)
  obtain ⟨g', x, e⟩ := fV _ hg
  refine ⟨gW 0 (g'.map (·.2.length)), ?_⟩
  rw [G.rends, G.times, e, List.map_append, List.map_cons, List.map_nil, eE, List.length_map, List.length_flatMap]
  simp
theorem VA {H0 H : AH} {t : Nat} {b : Bt} {g : Gr} {vs : List AV} (u : Upd) (O : OBL H0 H t (hdB b) vs (lsB b)) (G : Gs b g) (hu : u.f0.length < 1099511627776) (hk : 0 ≤ b.key ∧ b.key ≤ u.f0.length) (hkl : ∀ x ∈ b.keys, x.length < 1099511627776) (hrl : ∀ x ∈ b.rests, x.length < 1099511627776) (ht : b.times.length + 1 < 1099511627776) :
    aC Tryz.prog 56 [.ptr t 0 0, upA u] H fun r H' => r = .tup [] ∧ ∃ vs', OBL H0 H' t (hdB (lN b u)) vs' (lsB (lN b u)) := by
  refine aU c56 (by simp [F56]) ?_
  unfold F56
  obtain ⟨l1, l2, l3, l4, l5⟩ := tY G
  have cu : cells (upA u) = [aS u.f0, .int .i64 u.f1.f0, .int .i64 u.f1.f1, .int .i64 u.f2] := rfl
  have su : (4 : Nat) = (cells (upA u)).length := rfl
  simp only [push_cast, ↓reduceIte, Nat.reduceEqDiff, reduceCtorEq, Nat.reduceAdd, Nat.reduceLT, Nat.reduceLeDiff, cu, MG]
  have O0 : BX H0 (H ++ [.live 4 [upA u]]) t b H.length u := ⟨vs, O.box 4 [upA u]⟩
  generalize hk1 : u.f0.take b.key.toNat = k
  generalize hr1 : u.f0.drop b.key.toNat = r
  have hkl1 : k.length < 1099511627776 := by rw [← hk1, List.length_take]; omega
  have hrl1 : r.length < 1099511627776 := by rw [← hr1, List.length_drop]; omega
  refine UZ O0 hu hk rfl rfl fun f e0 e3 e4 e5 => ?_
  rw [hk1] at e4
  rw [hr1] at e5
  simp only [push_cast, ↓reduceIte, Nat.reduceEqDiff, reduceCtorEq, Nat.reduceAdd, Nat.reduceLT, Nat.reduceLeDiff]
  refine UX O0 (by omega) hkl hkl1 e0 e3 e4 e5 fun f e0 e3 e4 e5 e7 => ?_
  generalize hnk : lM b.keys k = nk at e7
  simp only [push_cast, ↓reduceIte, Nat.reduceEqDiff, reduceCtorEq, Nat.reduceAdd, Nat.reduceLT, Nat.reduceLeDiff, e7]
  refine MK O0 (by omega) (by omega) e0 e3 e4 e5 e7 (by simp only [push_cast, ↓reduceIte, Nat.reduceEqDiff, reduceCtorEq, Nat.reduceAdd, Nat.reduceLT, Nat.reduceLeDiff]) fun f H2 O2 e0 e3 e5 e7 => ?_
  have hb2 : ∃ b2, b2 = (if nk = true then yC b k else b) := ⟨_, rfl⟩
  obtain ⟨b2, hb2⟩ := hb2
  rw [← hb2] at O2
  have q1 : b2.rests = b.rests ∧ b2.rends = b.rends ∧ b2.times = b.times ∧ b2.ws = b.ws := by rw [hb2]; split <;> exact ⟨rfl, rfl, rfl, rfl⟩
  obtain ⟨q1, q2, q3, q4⟩ := q1
  have hne : nk = false → b.keys ≠ [] := fun e h => by rw [h] at hnk; rw [← hnk] at e; cases e
  have q5 : ∃ ks, b2.kends = ks ++ [(b.rests.length : Int)] := by
    cases nk with
    | true => exact ⟨b.kends, by rw [hb2]; rfl⟩
    | false => rw [hb2]; exact HG G (hne rfl)
  have q6 : b2.kends.length ≤ b.kends.length + 1 := by rw [hb2]; split <;> simp [yC]
  obtain ⟨ks, q5⟩ := q5
  simp only [push_cast, ↓reduceIte, Nat.reduceEqDiff, reduceCtorEq, Nat.reduceAdd, Nat.reduceLT, Nat.reduceLeDiff]
  refine UY (r := r) (nk := nk) O2 (by rw [q1]; omega) (by rw [q1]; exact hrl) hrl1 (fun e h => ?_) e0 e3 e5 e7 fun f e0 e3 e5 e84 => ?_
  · have := List.length_pos_iff.2 (hne e)
    rw [← q1, h] at l1
    simp at l1
    exact hne e l1
  rw [q1] at e84
  generalize hnr : (nk || lM b.rests r) = nr at e84
  simp only [push_cast, ↓reduceIte, Nat.reduceEqDiff, reduceCtorEq, Nat.reduceAdd, Nat.reduceLT, Nat.reduceLeDiff]
  refine ML O2 (by rw [q1]; omega) (by rw [q2]; omega) (by omega) q5 (by omega) e0 e3 e5 e84 fun f H3 O3 e0 e3 => ?_
  obtain ⟨b3, hb3⟩ : ∃ b3, b3 = (if nr = true then oS b2 r else b2) := ⟨_, rfl⟩
  rw [← hb3] at O3
  have p1 : b3.times = b.times ∧ b3.ws = b.ws ∧ b3.rends.length ≤ b.rends.length + 1 := by
    rw [hb3]; split
    · refine ⟨q3, q4, ?_⟩
      simp only [oS, List.length_append, q2, List.length_singleton]
      omega
    · exact ⟨q3, q4, by rw [q2]; omega⟩
  have p2 : ∃ ks, b3.rends = ks ++ [(b.times.length : Int)] := by
    cases nr with
    | true => exact ⟨b.rends, by rw [hb3]; simp only [↓reduceIte, oS, q2, q3]⟩
    | false =>
      rw [hb3]
      simp only [Bool.false_eq_true, ↓reduceIte, q2]
      refine HH G fun h => ?_
      have : nk = false := by cases nk <;> simp_all
      have := hne this
      rw [h] at l1
      simp at l1
      exact this l1
  obtain ⟨ks3, p2⟩ := p2
  simp only [push_cast, ↓reduceIte, Nat.reduceEqDiff, reduceCtorEq, Nat.reduceAdd, Nat.reduceLT, Nat.reduceLeDiff]
  refine HF O3 (by rw [p1.1]; omega) (by rw [p1.2.1]; omega) (by omega) p2 (by omega) e0 e3 fun f H4 O4 => ?_
  have fin : kC b3 u.f1 u.f2 = lN b u := by
    unfold lN
    rw [hb3, hb2, hk1, hr1, hnk, ← hnr]
    cases nk with
    | true => rfl
    | false =>
      cases lM b.rests r <;> rfl
  rw [fin] at O4
  obtain ⟨vs4, O4⟩ := O4
  have hh : hdB (lN b u) = hdB b := by
    obtain ⟨a1, a2, _⟩ := oT b u
    unfold hdB; rw [a1, a2]
  simp only [push_cast, ↓reduceIte, Nat.reduceEqDiff, reduceCtorEq, Nat.reduceAdd, Nat.reduceLT, Nat.reduceLeDiff]
  exact ⟨vs4, O4.o⟩
end Go.Eng
end
section
set_option linter.unusedSimpArgs false
set_option linter.unusedVariables false
set_option maxRecDepth 10000
namespace Go.Eng
open Go Go.Proofs
def okT (t : Tm) : Int := if (if t.f1 < t.f0 then t.f1 else t.f0) < 0 ∨ (if t.f1 > t.f0 then t.f1 else t.f0) > 1099511627776 then 7 else 0
def F75 : AFn := ⟨17, 1, [.t 2], (.seq (.ops [oo 1 (.box 2 (.t 0)), oo 2 (.mov (.v (.int .i64 0)))]) (.seq (.seq (.ops [oo 3 (.faddr 0 (.t 1)), oo 4 (.load false 1 (.t 3)), oo 5 (.faddr 1 (.t 1)), oo 6 (.load false 1 (.t 5)), oo 7 (.mn (.t 4) [(.t 6)]), oo 8 (.bin .lss (.t 7) (.v (.int .i64 0))), oo 9 (.mov (.t 8)), og 10 9 false (.faddr 0 (.t 1)), og 11 9 false (.load false 1 (.t 10)), og 12 9 false (.faddr 1 (.t 1)), og 13 9 false (.load false 1 (.t 12)), og 14 9 false (.mx (.t 11) [(.t 13)]), og 15 9 false (.bin .gtr (.t 14) (.v (.int .i64 1099511627776))), oo 16 (.pick (.t 9) (.v (.bool true)) (.t 15))]) (.cond (.t 16) (.seq (.ops [oo 2 (.mov (.v (.int .i64 7)))]) .ret) .skip)) (.seq (.ops [oo 2 (.mov (.v (.int .i64 0)))]) .ret)))⟩
theorem c75 : aD Tryz.prog 75 = some F75 := by kernel_rfl
theorem CP (t : Tm) (H : AH) : aC Tryz.prog 75 [aQ t] H fun r H' => r = .int .i64 (okT t) ∧ H' = H := by
  refine aG c75 (fun _ => rfl) (by simp [F75]) ?_
  unfold F75 aQ okT
  generalize t.f0 = a
  generalize t.f1 = b
  by_cases h1 : (if b < a then b else a) < 0
  · rw [if_pos (.inl h1)]
    simp only [push_cast, ↓reduceIte, Nat.reduceEqDiff, reduceCtorEq, Nat.reduceAdd, Nat.reduceLT, Nat.reduceLeDiff, aB, aA, h1, decide_true]
    (repeat (first | exact List.prefix_refl _ | refine List.IsPrefix.trans ?_ (List.prefix_append _ _)))
  · by_cases h2 : (if b > a then b else a) > 1099511627776
    · rw [if_pos (.inr h2)]
      simp only [push_cast, ↓reduceIte, Nat.reduceEqDiff, reduceCtorEq, Nat.reduceAdd, Nat.reduceLT, Nat.reduceLeDiff, aB, aA, h1, h2, decide_true, decide_false]
      (repeat (first | exact List.prefix_refl _ | refine List.IsPrefix.trans ?_ (List.prefix_append _ _)))
    · rw [if_neg (fun h => h.elim h1 h2)]
      simp only [push_cast, ↓reduceIte, Nat.reduceEqDiff, reduceCtorEq, Nat.reduceAdd, Nat.reduceLT, Nat.reduceLeDiff, aB, aA, h1, h2, decide_true, decide_false]
      (repeat (first | exact List.prefix_refl _ | refine List.IsPrefix.trans ?_ (List.prefix_append _ _)))
def F76 : AFn := ⟨26, 2, [.t 4], (.seq (.ops [oo 4 (.mov (.v (.bool false)))]) (.seq (.seq (.ops [oo 6 (.mov (.t 0)), oo 7 (.len (.t 6)), oo 8 (.mov (.t 1)), oo 9 (.len (.t 8)), oo 10 (.bin .neq (.t 7) (.t 9))]) (.cond (.t 10) (.seq (.ops [oo 4 (.mov (.v (.bool false)))]) .ret) .skip)) (.seq (.seq (.ops [oo 11 (.mov (.t 0)), oo 12 (.len (.t 11)), oo 13 (.mov (.v (.int .i64 0)))]) (.block 0 (.loop (.seq (.ops [oo 14 (.bin .lss (.t 13) (.t 12))]) (.seq (.cond (.t 14) .skip (.exit 0)) (.seq (.block 1 (.seq (.ops [oo 15 (.mov (.t 13)), oo 5 (.mov (.t 15))]) (.seq (.ops [oo 26 (.mov (.t 0)), oo 27 (.mov (.t 5)), oo 28 (.iaddr 2 (.t 26) (.t 27)), oo 29 (.load true 2 (.t 28)), oo 30 (.mov (.t 1)), oo 31 (.mov (.t 5)), oo 32 (.iaddr 2 (.t 30) (.t 31)), oo 33 (.load true 2 (.t 32)), oo 34 (.eqa true [0, 0] (.t 29) (.t 33)), oo 16 (.mov (.t 26)), oo 17 (.mov (.t 27)), oo 18 (.mov (.t 28)), oo 19 (.mov (.t 29)), oo 20 (.mov (.t 30)), oo 21 (.mov (.t 31)), oo 22 (.mov (.t 32)), oo 23 (.mov (.t 33)), oo 24 (.mov (.t 34))]) (.cond (.t 24) (.seq (.ops [oo 4 (.mov (.v (.bool false)))]) .ret) .skip)))) (.ops [oo 25 (.bin .add (.t 13) (.v (.int .i64 1))), oo 13 (.mov (.t 25))]))))))) (.seq (.ops [oo 4 (.mov (.v (.bool true)))]) .ret))))⟩
theorem c76 : aD Tryz.prog 76 = some F76 := by kernel_rfl
instance : DecidableEq Tm := fun a b => decidable_of_iff (a.f0 = b.f0 ∧ a.f1 = b.f1) (by cases a; cases b; simp)
theorem rC (s t : Tm) : JZ [0, 0] [.int .i64 s.f0, .int .i64 s.f1] [.int .i64 t.f0, .int .i64 t.f1] = some (decide (s = t)) := by
  obtain ⟨a, b⟩ := s
  obtain ⟨c, d⟩ := t
  by_cases h : a = c <;> by_cases h2 : b = d <;> simp [JZ, TD, h, h2]
theorem CQ (x y : AV) (a b : List Tm) (H : AH) (hx : elems 2 x H = some (a.map aQ)) (hy : elems 2 y H = some (b.map aQ)) (ha : b.length < 1099511627776) : aC Tryz.prog 76 [x, y] H fun r H' => r = .bool (decide (a = b)) ∧ H' = H := by
  refine aG c76 (fun _ => rfl) (by simp [F76]) ?_
  unfold F76
  have la := aL hx
  have lb := aL hy
  rw [List.length_map] at la lb
  by_cases hab : a.length = b.length
  · have hz : ¬ ((a.length : Int) ≠ b.length) := by omega
    rw [hab] at la
    have hz : ¬ ((b.length : Int) ≠ b.length) := by omega
    simp only [push_cast, ↓reduceIte, Nat.reduceEqDiff, reduceCtorEq, Nat.reduceAdd, Nat.reduceLT, Nat.reduceLeDiff, la, lb]
    refine aI (fun (i : Nat) f H' => H' = H ∧ i ≤ b.length ∧ f 13 = .int .i64 i ∧ f 12 = .int .i64 b.length ∧ f 0 = x ∧ f 1 = y ∧ (a = b ↔ a.drop i = b.drop i)) (fun i => b.length - i) 0 ⟨rfl, Nat.zero_le _, rfl, rfl, rfl, rfl, Iff.rfl⟩ ?_
    rintro i f H' ⟨rfl, h1, e13, e12, e0, e1, ho⟩
    by_cases hi : i < b.length
    · have hi' : (i : Int) < b.length := by omega
      have hi2 : i < a.length := by omega
      have ax : aF 2 x (.int .i64 (i : Int)) = some (ptk x i 0) := aK hx (by rw [List.length_map]; exact hi2) _
      have ay : aF 2 y (.int .i64 (i : Int)) = some (ptk y i 0) := aK hy (by rw [List.length_map]; exact hi) _
      have lx : (a.map aQ)[i]? = some (aQ a[i]) := by simp [hi2]
      have ly : (b.map aQ)[i]? = some (aQ b[i]) := by simp [hi]
      rw [List.drop_eq_getElem_cons hi2, List.drop_eq_getElem_cons hi] at ho
      generalize a[i] = s at lx ho
      generalize b[i] = t at ly ho
      simp only [push_cast, ↓reduceIte, Nat.reduceEqDiff, reduceCtorEq, Nat.reduceAdd, Nat.reduceLT, Nat.reduceLeDiff, aB, aA, e13, e12, e0, e1, hi', ax, ay, aO hx lx, aO hy ly, List.prefix_refl, aQ]
      rw [rC]
      by_cases hst : s = t
      · rw [decide_eq_true hst]
        simp only [push_cast, ↓reduceIte, Nat.reduceEqDiff, reduceCtorEq, Nat.reduceAdd, Nat.reduceLT, Nat.reduceLeDiff, e13, e12, e0, e1]
        refine ⟨i + 1, ⟨hi, ?_, ?_⟩, by omega⟩
        · rw [aE (by omega) (by omega)]; simp
        · rw [ho, hst]; simp
      · rw [decide_eq_false hst]
        have hb : (false != true) = true := rfl
        simp only [push_cast, ↓reduceIte, Nat.reduceEqDiff, reduceCtorEq, Nat.reduceAdd, Nat.reduceLT, Nat.reduceLeDiff, e13, e12, e0, e1, hb]
        exact ⟨List.prefix_refl _, by rw [decide_eq_false (fun h => hst (List.cons.inj (ho.1 h)).1)]⟩
    · have hi' : ¬ (i : Int) < b.length := by omega
      simp only [push_cast, ↓reduceIte, Nat.reduceEqDiff, reduceCtorEq, Nat.reduceAdd, Nat.reduceLT, Nat.reduceLeDiff, e13, e12, hi']
      rw [List.drop_eq_nil_of_le (by omega : a.length ≤ i), List.drop_eq_nil_of_le (by omega : b.length ≤ i)] at ho
      exact ⟨List.prefix_refl _, by rw [decide_eq_true (ho.2 rfl)]⟩
  · have hz : ((a.length : Int) ≠ b.length) := by omega
    simp only [push_cast, ↓reduceIte, Nat.reduceEqDiff, reduceCtorEq, Nat.reduceAdd, Nat.reduceLT, Nat.reduceLeDiff, la, lb, hz]
    exact ⟨List.prefix_refl _, by rw [decide_eq_false (fun h => hab (by rw [h]))]⟩
def eF (l : List Tm) : Int := if l.length > 1024 then 3 else match l.find? (fun t => decide (okT t ≠ 0)) with | some t => okT t | none => if mV l = l then 0 else 6
def F52 : AFn := ⟨26, 1, [.t 2], (.seq (.ops [oo 2 (.mov (.v (.int .i64 0)))]) (.seq (.seq (.ops [oo 6 (.mov (.t 0)), oo 7 (.len (.t 6)), oo 8 (.bin .gtr (.t 7) (.v (.int .i64 1024)))]) (.cond (.t 8) (.seq (.ops [oo 2 (.mov (.v (.int .i64 3)))]) .ret) .skip)) (.seq (.seq (.ops [oo 9 (.mov (.t 0)), oo 10 (.len (.t 9)), oo 11 (.mov (.v (.int .i64 0)))]) (.block 0 (.loop (.seq (.ops [oo 12 (.bin .lss (.t 11) (.t 10))]) (.seq (.cond (.t 12) .skip (.exit 0)) (.seq (.block 1 (.seq (.ops [oo 13 (.iaddr 2 (.t 9) (.t 11)), oo 14 (.load true 2 (.t 13)), oo 4 (.alloc 2 (.agg [(.int .i64 0), (.int .i64 0)])), on (.store 2 (.t 4) (.t 14))]) (.seq (.ops [oo 15 (.load true 2 (.t 4)), oo 16 (.call 75 [(.t 15)]), oo 5 (.mov (.t 16))]) (.seq (.ops [oo 17 (.mov (.t 5)), oo 18 (.bin .neq (.t 17) (.v (.int .i64 0)))]) (.cond (.t 18) (.seq (.ops [oo 19 (.mov (.t 5)), oo 2 (.mov (.t 19))]) .ret) .skip))))) (.ops [oo 20 (.bin .add (.t 11) (.v (.int .i64 1))), oo 11 (.mov (.t 20))]))))))) (.seq (.seq (.ops [oo 21 (.mov (.t 0)), oo 22 (.call 74 [(.t 21)]), oo 23 (.mov (.t 0)), oo 24 (.call 76 [(.t 22), (.t 23)]), oo 25 (.un .not (.t 24))]) (.cond (.t 25) (.seq (.ops [oo 2 (.mov (.v (.int .i64 6)))]) .ret) .skip)) (.seq (.ops [oo 2 (.mov (.v (.int .i64 0)))]) .ret)))))⟩
theorem c52 : aD Tryz.prog 52 = some F52 := by kernel_rfl
theorem MM (x : AV) (l : List Tm) (H : AH) (hx : elems 2 x H = some (l.map aQ)) (hl : l.length < 1099511627776) : aC Tryz.prog 52 [x] H fun r H' => r = .int .i64 (eF l) ∧ H' = H := by
  refine aG c52 (fun _ => rfl) (by simp [F52]) ?_
  unfold F52 eF
  have la := aL hx
  rw [List.length_map] at la
  by_cases h0 : l.length > 1024
  · have h0' : (l.length : Int) > 1024 := by omega
    rw [if_pos h0]
    simp only [push_cast, ↓reduceIte, Nat.reduceEqDiff, reduceCtorEq, Nat.reduceAdd, Nat.reduceLT, Nat.reduceLeDiff, la, h0']
    exact List.prefix_refl _
  · have h0' : ¬ (l.length : Int) > 1024 := by omega
    rw [if_neg h0]
    simp only [push_cast, ↓reduceIte, Nat.reduceEqDiff, reduceCtorEq, Nat.reduceAdd, Nat.reduceLT, Nat.reduceLeDiff, la, h0']
    refine aI (fun (i : Nat) f H' => H <+: H' ∧ i ≤ l.length ∧ f 11 = .int .i64 i ∧ f 10 = .int .i64 l.length ∧ f 0 = x ∧ f 9 = x ∧ l.find? (fun t => decide (okT t ≠ 0)) = (l.drop i).find? (fun t => decide (okT t ≠ 0))) (fun i => l.length - i) 0 ⟨List.prefix_refl _, Nat.zero_le _, rfl, rfl, rfl, rfl, rfl⟩ ?_
    rintro i f H' ⟨hp, h1, e11, e10, e0, e9, ho⟩
    by_cases hi : i < l.length
    · have hi' : (i : Int) < l.length := by omega
      have ax : aF 2 x (.int .i64 (i : Int)) = some (ptk x i 0) := aK hx (by rw [List.length_map]; exact hi) _
      have lx : (l.map aQ)[i]? = some (aQ l[i]) := by simp [hi]
      rw [List.drop_eq_getElem_cons hi, List.find?_cons] at ho
      generalize l[i] = t at lx ho
      by_cases ht : okT t = 0
      · rw [show decide (okT t ≠ 0) = false by simp [ht]] at ho
        simp only [push_cast, ↓reduceIte, Nat.reduceEqDiff, reduceCtorEq, Nat.reduceAdd, Nat.reduceLT, Nat.reduceLeDiff, aB, aA, e11, e10, e0, e9, hi', ax, aO hx lx, hp, aQ]
        (refine aC.look (CP t _) ?_; simp only [push_cast, ↓reduceIte, Nat.reduceEqDiff, reduceCtorEq, Nat.reduceAdd, Nat.reduceLT, Nat.reduceLeDiff, aB, aA, e11, e10, e0, e9, ht])
        refine ⟨i + 1, ⟨aN hp, hi, ?_, ho⟩, by omega⟩
        rw [aE (by omega) (by omega)]; simp
      · rw [show decide (okT t ≠ 0) = true by simp [ht]] at ho
        simp only [push_cast, ↓reduceIte, Nat.reduceEqDiff, reduceCtorEq, Nat.reduceAdd, Nat.reduceLT, Nat.reduceLeDiff, aB, aA, e11, e10, e0, e9, hi', ax, aO hx lx, hp, aQ]
        (refine aC.look (CP t _) ?_; simp only [push_cast, ↓reduceIte, Nat.reduceEqDiff, reduceCtorEq, Nat.reduceAdd, Nat.reduceLT, Nat.reduceLeDiff, aB, aA, e11, e10, e0, e9, ht])
        rw [ho]
        exact ⟨aN hp, rfl⟩
    · have hi' : ¬ (i : Int) < l.length := by omega
      rw [List.drop_eq_nil_of_le (by omega : l.length ≤ i)] at ho
      rw [ho]
      dsimp only [List.find?_nil]
      simp only [push_cast, ↓reduceIte, Nat.reduceEqDiff, reduceCtorEq, Nat.reduceAdd, Nat.reduceLT, Nat.reduceLeDiff, e11, e10, e0, hi']
      (refine aC.look (UU x l _ (bJ hx hp) hl) ?_; simp only [push_cast, ↓reduceIte, Nat.reduceEqDiff, reduceCtorEq, Nat.reduceAdd, Nat.reduceLT, Nat.reduceLeDiff, aB, aA, e0])
      by_cases hn : mV l = l
      · (refine aC.look (CQ (eJ (mV l)) x (mV l) l _ rfl (bJ hx hp) hl) ?_; simp only [push_cast, ↓reduceIte, Nat.reduceEqDiff, reduceCtorEq, Nat.reduceAdd, Nat.reduceLT, Nat.reduceLeDiff, aB, aA, hn, decide_true])
        exact hp
      · (refine aC.look (CQ (eJ (mV l)) x (mV l) l _ rfl (bJ hx hp) hl) ?_; simp only [push_cast, ↓reduceIte, Nat.reduceEqDiff, reduceCtorEq, Nat.reduceAdd, Nat.reduceLT, Nat.reduceLeDiff, aB, aA, hn, decide_false])
        exact hp
end Go.Eng
end
section
namespace Go.Eng
open Go
set_option linter.unusedVariables false
set_option linter.unusedSimpArgs false
theorem tZ : ∀ (k : Nat) (l : List Upd), (∀ g ∈ fC k l, g ≠ [] ∧ ∀ x ∈ g, x ∈ l) ∧ (fC k l).length ≤ l.length
  | 0, l => ⟨fun g h => by simp [fC] at h, Nat.zero_le _⟩
  | k + 1, [] => ⟨fun g h => by simp [fC] at h, Nat.zero_le _⟩
  | k + 1, x :: r => by
    have hg : 1 ≤ dQ (x :: r) := by simp [dQ]
    obtain ⟨h1, h2⟩ := tZ k ((x :: r).drop (dQ (x :: r)))
    refine ⟨fun g h => ?_, ?_⟩
    · simp only [fC] at h
      rcases List.mem_cons.1 h with h | h
      · rw [h]
        refine ⟨fun e => ?_, fun y hy => List.mem_of_mem_take hy⟩
        have := congrArg List.length e
        rw [List.length_take, List.length_cons] at this
        simp at this
        omega
      · exact ⟨(h1 g h).1, fun y hy => List.mem_of_mem_drop ((h1 g h).2 y hy)⟩
    · simp only [fC, List.length_cons]
      rw [List.length_drop, List.length_cons] at h2
      omega
theorem jC {l x : List Upd} (hl : l ≠ []) (h : iR l = some x) : x.length ≤ 1 ∧ ∀ u ∈ x, ∃ v ∈ l, u.f0 = v.f0 ∧ u.f1 = v.f1 := by
  unfold iR at h
  cases hs : pB 0 l with
  | none => rw [hs] at h; cases h
  | some n =>
    rw [hs] at h
    dsimp only at h
    split at h
    · cases h; exact ⟨Nat.zero_le _, fun u hu => by simp at hu⟩
    · cases h
      refine ⟨Nat.le_refl _, fun u hu => ?_⟩
      cases l with
      | nil => exact absurd rfl hl
      | cons y r => rw [List.mem_singleton.1 hu]; exact ⟨y, List.mem_cons_self, rfl, rfl⟩
theorem rD : ∀ (ls : List (List Upd)) (out o : List Upd), dR out ls = some o → (∀ l ∈ ls, l ≠ []) → o.length ≤ out.length + ls.length ∧ ∀ u ∈ o, u ∈ out ∨ ∃ l ∈ ls, ∃ v ∈ l, u.f0 = v.f0 ∧ u.f1 = v.f1
  | [], out, o, h, _ => by cases h; exact ⟨Nat.le_refl _, fun u hu => .inl hu⟩
  | l :: r, out, o, h, hne => by
    simp only [dR] at h
    cases ho : iR l with
    | none => rw [ho] at h; cases h
    | some x =>
      rw [ho] at h
      obtain ⟨h1, h2⟩ := rD r _ o h (fun q hq => hne q (List.mem_cons_of_mem _ hq))
      obtain ⟨h3, h4⟩ := jC (hne l List.mem_cons_self) ho
      refine ⟨by rw [List.length_append] at h1; rw [List.length_cons]; omega, fun u hu => ?_⟩
      rcases h2 u hu with h5 | ⟨q, hq, v, hv, h5⟩
      · rcases List.mem_append.1 h5 with h5 | h5
        · exact .inl h5
        · obtain ⟨v, hv, e⟩ := h4 u h5
          exact .inr ⟨l, List.mem_cons_self, v, hv, e⟩
      · exact .inr ⟨q, List.mem_cons_of_mem _ hq, v, hv, h5⟩
theorem eR (l : List Upd) : (bV l).1.length ≤ l.length ∧ ∀ u ∈ (bV l).1, ∃ v ∈ l, u.f0 = v.f0 ∧ u.f1 = v.f1 := by
  unfold bV
  have hlen := Stab.sortS_len iP l
  cases h : dR [] (fC l.length (Stab.sortS bL l)) with
  | none => exact ⟨Nat.zero_le _, fun u hu => by simp at hu⟩
  | some o =>
    obtain ⟨g1, g2⟩ := tZ l.length (Stab.sortS bL l)
    obtain ⟨h1, h2⟩ := rD _ [] o h (fun q hq => (g1 q hq).1)
    refine ⟨by simp at h1; show o.length ≤ _; omega, fun u hu => ?_⟩
    rcases h2 u hu with h3 | ⟨q, hq, v, hv, e⟩
    · simp at h3
    · exact ⟨v, (Stab.sortS_mem l v).1 ((g1 q hq).2 v hv), e⟩
theorem rE (l : List Upd) (h : (bV l).2 ≠ 0) : (bV l).1 = [] := by
  unfold bV at h ⊢
  cases hc : dR [] (fC l.length (Stab.sortS bL l)) with
  | none => rfl
  | some z => rw [hc] at h; exact absurd rfl h
end Go.Eng
end
section
set_option linter.unusedVariables false
set_option linter.unusedSimpArgs false
set_option maxRecDepth 10000
namespace Go.Eng
open Go Go.Proofs
def fG (since : List Tm) (l : List Upd) : List Upd := if since = [] then l else l.map (mY since)
def dB (key : Int) (l : List Upd) : Bool := l.any fun u => decide ((u.f0.length : Int) < key)
def bW (key : Int) (l : List Upd) (since : List Tm) : Int :=
  if key < 0 ∨ key > 16 then 1 else if dB key l = true then 9 else if eF since ≠ 0 then eF since else (bV (fG since l)).2
def iT (key : Int) (l : List Upd) (since : List Tm) : Bt := bU (Bt.none_ key l.length since) (bV (fG since l)).1
theorem vJ (since : List Tm) (l : List Upd) : (fG since l).length = l.length := by unfold fG; split <;> simp
theorem vK {since : List Tm} {l : List Upd} {u : Upd} (h : u ∈ fG since l) : ∃ v ∈ l, u.f0 = v.f0 := by
  unfold fG at h
  split at h
  · exact ⟨u, h, rfl⟩
  · obtain ⟨v, hv, rfl⟩ := List.mem_map.1 h
    exact ⟨v, hv, rfl⟩
def MN : AC := (.block 2 (.loop (.seq (.ops [oo 64 (.bin .lss (.t 63) (.t 62))]) (.seq (.cond (.t 64) .skip (.exit 2)) (.seq (.block 3 (.seq (.ops [oo 65 (.iaddr 4 (.t 61) (.t 63)), oo 66 (.load true 4 (.t 65)), oo 15 (.alloc 4 (.agg [.nils, (.int .i64 0), (.int .i64 0), (.int .i64 0)])), on (.store 4 (.t 15) (.t 66))]) (.ops [oo 67 (.mov (.t 13)), oo 68 (.load true 4 (.t 15)), oo 69 (.call 56 [(.t 67), (.t 68)])]))) (.ops [oo 70 (.bin .add (.t 63) (.v (.int .i64 1))), oo 63 (.mov (.t 70))]))))))
def MO : AC := (.block 0 (.loop (.seq (.ops [oo 25 (.bin .lss (.t 24) (.t 23))]) (.seq (.cond (.t 25) .skip (.exit 0)) (.seq (.block 1 (.seq (.ops [oo 26 (.iaddr 4 (.t 22) (.t 24)), oo 27 (.load true 4 (.t 26)), oo 9 (.alloc 4 (.agg [.nils, (.int .i64 0), (.int .i64 0), (.int .i64 0)])), on (.store 4 (.t 9) (.t 27))]) (.seq (.ops [oo 28 (.faddr 0 (.t 9)), oo 29 (.load false 1 (.t 28)), oo 30 (.len (.t 29)), oo 31 (.mov (.t 0)), oo 32 (.bin .lss (.t 30) (.t 31))]) (.cond (.t 32) (.seq (.ops [oo 6 (.mov (.v .nilp)), oo 7 (.mov (.v (.int .i64 9)))]) .ret) .skip)))) (.ops [oo 33 (.bin .add (.t 24) (.v (.int .i64 1))), oo 24 (.mov (.t 33))]))))))
def CR : AC := (.cond (.t 42) (.ops [oo 43 (.mov (.t 1)), oo 44 (.mov (.t 2)), oo 45 (.call 53 [(.t 43), (.t 44)]), oo 11 (.mov (.t 45))]) .skip)
def CT : AC := (.seq (.ops [oo 47 (.mov (.t 11)), oo 48 (.call 54 [(.t 47)]), oo 46 (.mov (.t 48)), oo 49 (.ext (.t 46) 0), oo 50 (.ext (.t 46) 1), oo 11 (.mov (.t 49)), oo 12 (.mov (.t 50))]) (.seq (.seq (.ops [oo 51 (.mov (.t 12)), oo 52 (.bin .neq (.t 51) (.v (.int .i64 0)))]) (.cond (.t 52) (.seq (.ops [oo 53 (.mov (.t 12)), oo 6 (.mov (.v .nilp)), oo 7 (.mov (.t 53))]) .ret) .skip)) (.seq (.ops [oo 54 (.mov (.t 0)), oo 55 (.mov (.t 1)), oo 56 (.len (.t 55)), oo 57 (.mov (.t 2)), oo 58 (.call 55 [(.t 57)]), oo 59 (.build [(.int .i64 0), (.int .i64 0), .nils, .nils, .nils, .nils, .nils, .nils, .nils] [(0, 1, (.t 54)), (1, 1, (.t 56)), (2, 1, (.t 58))]), oo 60 (.box 9 (.t 59)), oo 13 (.mov (.t 60))]) (.seq (.seq (.ops [oo 61 (.mov (.t 11)), oo 62 (.len (.t 61)), oo 63 (.mov (.v (.int .i64 0)))]) (MN)) (.seq (.ops [oo 71 (.mov (.t 13)), oo 6 (.mov (.t 71)), oo 7 (.mov (.v (.int .i64 0)))]) .ret)))))
def F9 : AFn := ⟨72, 3, [.t 6, .t 7], (.seq (.ops [oo 6 (.mov (.v .nilp)), oo 7 (.mov (.v (.int .i64 0)))]) (.seq (.seq (.ops [oo 16 (.mov (.t 0)), oo 17 (.bin .lss (.t 16) (.v (.int .i64 0))), oo 18 (.mov (.t 17)), og 19 18 false (.mov (.t 0)), og 20 18 false (.bin .gtr (.t 19) (.v (.int .i64 16))), oo 21 (.pick (.t 18) (.v (.bool true)) (.t 20))]) (.cond (.t 21) (.seq (.ops [oo 6 (.mov (.v .nilp)), oo 7 (.mov (.v (.int .i64 1)))]) .ret) .skip)) (.seq (.seq (.ops [oo 22 (.mov (.t 1)), oo 23 (.len (.t 22)), oo 24 (.mov (.v (.int .i64 0)))]) (MO)) (.seq (.seq (.ops [oo 34 (.mov (.t 2)), oo 35 (.call 52 [(.t 34)]), oo 10 (.mov (.t 35))]) (.seq (.ops [oo 36 (.mov (.t 10)), oo 37 (.bin .neq (.t 36) (.v (.int .i64 0)))]) (.cond (.t 37) (.seq (.ops [oo 38 (.mov (.t 10)), oo 6 (.mov (.v .nilp)), oo 7 (.mov (.t 38))]) .ret) .skip))) (.seq (.ops [oo 39 (.mov (.t 1)), oo 11 (.mov (.t 39))]) (.seq (.seq (.ops [oo 40 (.mov (.t 2)), oo 41 (.len (.t 40)), oo 42 (.bin .gtr (.t 41) (.v (.int .i64 0)))]) (CR)) (CT)))))))⟩
theorem c9 : aD Tryz.prog 9 = some F9 := by kernel_rfl
theorem MP {x y : AV} {l : List Upd} {key : Int} {H H' : AH} {f : AF} {Q : AE → AF → AH → Prop} (hx : elems 4 x H = some (l.map upA)) (hp : H <+: H') (hl : l.length < 1099511627776) (e0 : f 0 = .int .i64 key) (e1 : f 1 = x) (e2 : f 2 = y) (e22 : f 22 = x) (e23 : f 23 = .int .i64 l.length) (e24 : f 24 = .int .i64 0)
    (h1 : dB key l = true → ∀ f H', H <+: H' → f 6 = .nilp → f 7 = .int .i64 9 → Q .ret f H')
    (h2 : dB key l = false → ∀ f H', H <+: H' → f 0 = .int .i64 key → f 1 = x → f 2 = y → Q .normal f H') : MO.wp Tryz.prog Q f H' := by
  unfold MO
  simp only [push_cast, ↓reduceIte, Nat.reduceEqDiff, reduceCtorEq, Nat.reduceAdd, Nat.reduceLT, Nat.reduceLeDiff]
  refine aI (fun (i : Nat) f H' => H <+: H' ∧ i ≤ l.length ∧ f 0 = .int .i64 key ∧ f 1 = x ∧ f 2 = y ∧ f 22 = x ∧ f 23 = .int .i64 l.length ∧ f 24 = .int .i64 i ∧ dB key (l.take i) = false) (fun i => l.length - i) 0 ⟨hp, Nat.zero_le _, e0, e1, e2, e22, e23, e24, rfl⟩ ?_
  rintro i f H2 ⟨hp2, h3, e0, e1, e2, e22, e23, e24, hs⟩
  by_cases hi : i < l.length
  · have hi' : (i : Int) < l.length := by omega
    have ax : aF 4 x (.int .i64 (i : Int)) = some (ptk x i 0) := aK hx (by rw [List.length_map]; exact hi) _
    have lx : (l.map upA)[i]? = some (upA l[i]) := by simp [hi]
    have hs2 : dB key (l.take (i + 1)) = (dB key (l.take i) || decide ((l[i].f0.length : Int) < key)) := by
      unfold dB
      rw [List.take_succ_eq_append_getElem hi, List.any_append]
      simp
    have hmem : l[i] ∈ l := List.getElem_mem hi
    generalize l[i] = u at lx hs2 hmem
    have f1 : part true 4 0 (upA u) = some (upA u) := rfl
    have hlu : cZ (aS u.f0) = some u.f0.length := by simp [aS, cZ]
    have k0 : part false 1 0 (upA u) = some (aS u.f0) := rfl
    have pz : kK (.agg [.nils, .int .i64 0, .int .i64 0, .int .i64 0]) 0 [aS u.f0, .int .i64 u.f1.f0, .int .i64 u.f1.f1, .int .i64 u.f2] = upA u := rfl
    have cu : cells (upA u) = [aS u.f0, .int .i64 u.f1.f0, .int .i64 u.f1.f1, .int .i64 u.f2] := rfl
    by_cases hc : (u.f0.length : Int) < key
    · simp only [push_cast, ↓reduceIte, Nat.reduceEqDiff, reduceCtorEq, Nat.reduceAdd, Nat.reduceLT, Nat.reduceLeDiff, aB, aA, e0, e1, e2, e22, e23, e24, hi', ax, aO hx lx, hp2, f1, cu, MG, hlu, k0, pz, hc, decide_true]
      refine h1 ?_ _ _ (aN hp2) rfl rfl
      exact List.any_eq_true.2 ⟨u, hmem, by simpa using hc⟩
    · simp only [push_cast, ↓reduceIte, Nat.reduceEqDiff, reduceCtorEq, Nat.reduceAdd, Nat.reduceLT, Nat.reduceLeDiff, aB, aA, e0, e1, e2, e22, e23, e24, hi', ax, aO hx lx, hp2, f1, cu, MG, hlu, k0, pz, hc, decide_false]
      refine ⟨i + 1, ⟨aN hp2, hi, ?_, ?_⟩, by omega⟩
      · rw [aE (by omega) (by omega)]; simp
      · rw [hs2, hs]; simpa using hc
  · have hi' : ¬ (i : Int) < l.length := by omega
    simp only [push_cast, ↓reduceIte, Nat.reduceEqDiff, reduceCtorEq, Nat.reduceAdd, Nat.reduceLT, Nat.reduceLeDiff, e23, e24, hi']
    rw [List.take_of_length_le (by omega)] at hs
    exact h2 hs _ _ hp2 e0 e1 e2
structure Vd (N : Nat) (b : Bt) : Prop where
  wk : ∀ x ∈ b.keys, x.length < N
  wr : ∀ x ∈ b.rests, x.length < N
theorem MQ {N : Nat} {b : Bt} {u : Upd} (hv : Vd N b) (hu : u.f0.length < N) : Vd N (lN b u) := by
  have h1 : (u.f0.take b.key.toNat).length < N := by rw [List.length_take]; omega
  have h2 : (u.f0.drop b.key.toNat).length < N := by rw [List.length_drop]; omega
  have k : Vd N (yC b (u.f0.take b.key.toNat)) := ⟨fun x hx => by
    rcases List.mem_append.1 hx with hx | hx
    · exact hv.wk x hx
    · rw [List.mem_singleton.1 hx]; exact h1, hv.wr⟩
  have r : ∀ b', Vd N b' → Vd N (oS b' (u.f0.drop b.key.toNat)) := fun b' h => ⟨h.wk, fun x hx => by
    rcases List.mem_append.1 hx with hx | hx
    · exact h.wr x hx
    · rw [List.mem_singleton.1 hx]; exact h2⟩
  have t : ∀ b', Vd N b' → Vd N (kC b' u.f1 u.f2) := fun b' h => ⟨h.wk, h.wr⟩
  unfold lN
  split
  · exact t _ (r _ k)
  · split
    · exact t _ (r _ hv)
    · exact t _ hv
theorem lO {N : Nat} : ∀ (l : List Upd) (b : Bt), Vd N b → (∀ u ∈ l, u.f0.length < N) → Vd N (bU b l)
  | [], b, h, _ => h
  | u :: r, b, h, hl => lO r (lN b u) (MQ h (hl u List.mem_cons_self)) fun v hv => hl v (List.mem_cons_of_mem _ hv)
theorem uA (b : Bt) (l : List Upd) (u : Upd) : bU b (l ++ [u]) = lN (bU b l) u := by simp [bU]
theorem MR {H0 H' : AH} {t : Nat} {b0 : Bt} {vs : List AV} {cl : List Upd} {f : AF} {Q : AE → AF → AH → Prop} (O : OBL H0 H' t (hdB b0) vs (lsB b0)) (G : Gs b0 []) (hv : Vd 1099511627776 b0) (hk0 : 0 ≤ b0.key) (hcl : cl.length < 1099511627776) (hs : ∀ u ∈ cl, u.f0.length < 1099511627776) (hk : ∀ u ∈ cl, b0.key ≤ u.f0.length)
    (e13 : f 13 = .ptr t 0 0) (e61 : f 61 = aZ cl) (e62 : f 62 = .int .i64 cl.length) (e63 : f 63 = .int .i64 0)
    (hQ : ∀ f H' vs, OBL H0 H' t (hdB (bU b0 cl)) vs (lsB (bU b0 cl)) → f 13 = .ptr t 0 0 → Q .normal f H') : MN.wp Tryz.prog Q f H' := by
  unfold MN
  simp only [push_cast, ↓reduceIte, Nat.reduceEqDiff, reduceCtorEq, Nat.reduceAdd, Nat.reduceLT, Nat.reduceLeDiff]
  refine aI (fun (i : Nat) f H' => i ≤ cl.length ∧ f 13 = .ptr t 0 0 ∧ f 61 = aZ cl ∧ f 62 = .int .i64 cl.length ∧ f 63 = .int .i64 i ∧ ∃ vs, OBL H0 H' t (hdB (bU b0 (cl.take i))) vs (lsB (bU b0 (cl.take i)))) (fun i => cl.length - i) 0 ⟨Nat.zero_le _, e13, e61, e62, e63, vs, O⟩ ?_
  rintro i f H2 ⟨h3, e13, e61, e62, e63, vs, O⟩
  have hgs := qU (cl.take i) b0 [] G
  obtain ⟨k1, _, _, k4, _⟩ := mW (cl.take i) b0
  have hvd := lO (cl.take i) b0 hv (fun u hu => hs u (List.mem_of_mem_take hu))
  have htm : b0.times = [] := G.times
  by_cases hi : i < cl.length
  · have hi' : (i : Int) < cl.length := by omega
    have ax : aF 4 (aZ cl) (.int .i64 (i : Int)) = some (.lptr 4 (cl.map upA) i 0) := by simp [aZ, aF, nat?, hi]
    have lx : (cl.map upA)[i]? = some (upA cl[i]) := by simp [hi]
    have hsn : bU b0 (cl.take (i + 1)) = lN (bU b0 (cl.take i)) cl[i] := by rw [List.take_succ_eq_append_getElem hi, uA]
    have hmem : cl[i] ∈ cl := List.getElem_mem hi
    have hlt : (bU b0 (cl.take i)).times.length = i := by rw [k4, htm, List.nil_append, List.length_map, List.length_take]; omega
    generalize bU b0 (cl.take i) = b at hgs k1 hvd hsn O hlt
    generalize cl[i] = u at lx hsn hmem
    have f1 : part true 4 0 (upA u) = some (upA u) := rfl
    have pz : kK (.agg [.nils, .int .i64 0, .int .i64 0, .int .i64 0]) 0 [aS u.f0, .int .i64 u.f1.f0, .int .i64 u.f1.f1, .int .i64 u.f2] = upA u := rfl
    have cu : cells (upA u) = [aS u.f0, .int .i64 u.f1.f0, .int .i64 u.f1.f1, .int .i64 u.f2] := rfl
    simp only [push_cast, ↓reduceIte, Nat.reduceEqDiff, reduceCtorEq, Nat.reduceAdd, Nat.reduceLT, Nat.reduceLeDiff, aB, aA, e13, e61, e62, e63, hi', ax, lx, f1, cu, MG, pz]
    refine (VA u O.mono hgs (hs u hmem) (by rw [k1]; exact ⟨hk0, hk u hmem⟩) hvd.wk hvd.wr (by omega)).mono fun r H3 ⟨hr, vs', O3⟩ => ?_
    simp only [push_cast, ↓reduceIte, Nat.reduceEqDiff, reduceCtorEq, Nat.reduceAdd, Nat.reduceLT, Nat.reduceLeDiff, e13, e61, e62, e63]
    refine ⟨i + 1, ⟨hi, ?_, vs', ?_⟩, by omega⟩
    · rw [aE (by omega) (by omega)]; simp
    · rw [hsn]; exact O3
  · have hi' : ¬ (i : Int) < cl.length := by omega
    simp only [push_cast, ↓reduceIte, Nat.reduceEqDiff, reduceCtorEq, Nat.reduceAdd, Nat.reduceLT, Nat.reduceLeDiff, e13, e62, e63, hi']
    rw [List.take_of_length_le (by omega)] at O
    exact hQ _ _ _ O e13
theorem HI {H0 H : AH} {b : Bt} {s : AV} (hs : Own H0 H 2 s (b.since.map aQ)) (hp : H0 <+: H) (h : lsB b = [(2, b.since.map aQ), (1, []), (1, []), (1, []), (1, []), (2, []), (1, [])]) :
    OBL H0 (H ++ [.live 9 [.agg (hdB b ++ [s, .nils, .nils, .nils, .nils, .nils, .nils])]]) H.length (hdB b) [s, .nils, .nils, .nils, .nils, .nils, .nils] (lsB b) := by
  have low : ∀ (i : Nat) v u, [s, .nils, .nils, .nils, .nils, .nils, .nils][i]? = some v → idx v = some u → i = 0 ∧ v = s := fun i v u h1 h2 => by
    match i with
    | 0 => cases h1; exact ⟨rfl, rfl⟩
    | 1 | 2 | 3 | 4 | 5 | 6 => cases h1; cases h2
    | n + 7 => cases h1
  rw [h]
  refine ⟨aN hp, hp.length_le, bA _ _ _, fun i v l h1 h2 => ?_, fun i j v w u hij h1 h2 hu hw => ?_, fun i v h1 hu => ?_, rfl⟩
  · match i with
    | 0 => cases h1; cases h2; exact hs.mono
    | 1 | 2 | 3 | 4 | 5 | 6 => cases h1; cases h2; exact .inl ⟨rfl, rfl⟩
    | n + 7 => cases h1
  · exact hij ((low i v u h1 hu).1.trans (low j w u h2 hw).1.symm)
  · obtain ⟨_, rfl⟩ := low i v _ h1 hu
    have := (hs.idx_lt hu).2
    omega
def VB (key : Int) (l : List Upd) (since : List Tm) (H : AH) (r : AV) (H' : AH) : Prop :=
  H <+: H' ∧ (bW key l since ≠ 0 → r = .tup [.nilp, .int .i64 (bW key l since)]) ∧ (bW key l since = 0 → ∃ t vs, r = .tup [.ptr t 0 0, .int .i64 0] ∧ OBL H H' t (hdB (iT key l since)) vs (lsB (iT key l since)))
theorem JP {key : Int} {x y z : AV} {l : List Upd} {since : List Tm} {H H' : AH} {f : AF} (hx : elems 4 x H = some (l.map upA)) (hl : l.length < 1099511627776) (hy : elems 2 y H = some (since.map aQ)) (hsl : since.length < 1099511627776) (hz : elems 4 z H = some ((fG since l).map upA)) (hs : cI (fG since l))
    (hc : bW key l since = (bV (fG since l)).2) (hk : 0 ≤ key) (hsk : dB key l = false) (hp : H <+: H') (e0 : f 0 = .int .i64 key) (e1 : f 1 = x) (e2 : f 2 = y) (e11 : f 11 = z) : CT.wp Tryz.prog (KG [.t 6, .t 7] (VB key l since H)) f H' := by
  unfold CT
  have la := aL hx
  rw [List.length_map] at la
  have hadl := vJ since l
  simp only [push_cast, ↓reduceIte, Nat.reduceEqDiff, reduceCtorEq, Nat.reduceAdd, Nat.reduceLT, Nat.reduceLeDiff, e11]
  (refine aC.look (RJ z (fG since l) _ (bJ hz hp) (by omega) hs) ?_; simp only [push_cast, ↓reduceIte, Nat.reduceEqDiff, reduceCtorEq, Nat.reduceAdd, Nat.reduceLT, Nat.reduceLeDiff, aB, aA, e0, e1, e2, iS])
  by_cases h : (bV (fG since l)).2 = 0
  · have hb : iT key l since = bU (Bt.none_ key l.length since) (bV (fG since l)).1 := rfl
    obtain ⟨m1, m2⟩ := eR (fG since l)
    have m3 : ∀ u ∈ (bV (fG since l)).1, u.f0.length < 1099511627776 := fun u hu => by
      obtain ⟨v, hv, e, _⟩ := m2 u hu
      rw [e]; exact hs v hv
    have m4 : ∀ u ∈ (bV (fG since l)).1, key ≤ u.f0.length := fun u hu => by
      obtain ⟨v, hv, e, _⟩ := m2 u hu
      obtain ⟨w, hw, e2⟩ := vK hv
      rw [e, e2]
      have := List.any_eq_false.1 hsk w hw
      simpa using this
    rw [h] at hc
    generalize (bV (fG since l)).1 = cl at hb m1 m3 m4
    simp only [push_cast, ↓reduceIte, Nat.reduceEqDiff, reduceCtorEq, Nat.reduceAdd, Nat.reduceLT, Nat.reduceLeDiff, h, e1, e2, la]
    refine (CG y since H' (bJ hy hp) hsl).mono fun r H2 ⟨ho, hp2⟩ => ?_
    have pr := dW ho
    have hcl : cZ (aZ cl) = some cl.length := by simp [aZ, cZ]
    have ho2 : Own H H2 2 r (since.map aQ) := by
      rcases ho with h | ⟨t, ex, ht, rfl, ho⟩
      · exact .inl h
      · exact .inr ⟨t, ex, Nat.le_trans hp.length_le ht, rfl, ho⟩
    have O := HI (b := Bt.none_ key l.length since) ho2 (hp.trans hp2) rfl
    have G := CH key l.length since
    have hbx : hdB (Bt.none_ key l.length since) ++ [r, AV.nils, AV.nils, AV.nils, AV.nils, AV.nils, AV.nils] = [.int .i64 key, .int .i64 l.length, r, AV.nils, AV.nils, AV.nils, AV.nils, AV.nils, AV.nils] := rfl
    rw [hbx] at O
    have hcc : cells (.agg [.int .i64 key, .int .i64 l.length, r, AV.nils, AV.nils, AV.nils, AV.nils, AV.nils, AV.nils]) = [.int .i64 key, .int .i64 l.length, r, AV.nils, AV.nils, AV.nils, AV.nils, AV.nils, AV.nils] := rfl
    have hcn : ∀ k : IntKind, ∀ n, dH (.int k n) = true := fun _ _ => rfl
    have hcz : dH .nils = true := rfl
    simp only [push_cast, ↓reduceIte, Nat.reduceEqDiff, reduceCtorEq, Nat.reduceAdd, Nat.reduceLT, Nat.reduceLeDiff, aB, aA, pr.1, pr.2.1, hcc, hcn, hcz, hcl]
    rw [if_pos (by rcases ho with ⟨rfl, _⟩ | ⟨t, ex, _, rfl, _⟩ <;> rfl)]
    simp only [push_cast, ↓reduceIte, Nat.reduceEqDiff, reduceCtorEq, Nat.reduceAdd, Nat.reduceLT, Nat.reduceLeDiff, aB, aA, pr.1, pr.2.1, hcc, hcn, hcz, hcl]
    refine MR O G ⟨fun x h => absurd h List.not_mem_nil, fun x h => absurd h List.not_mem_nil⟩ hk (by omega) m3 m4 (by rfl) (by rfl) (by rfl) (by rfl) fun f H' vs O' e13 => ?_
    simp only [push_cast, ↓reduceIte, Nat.reduceEqDiff, reduceCtorEq, Nat.reduceAdd, Nat.reduceLT, Nat.reduceLeDiff, e13]
    rw [← hb] at O'
    exact ⟨O'.pre, fun h => absurd hc h, fun _ => ⟨_, vs, rfl, O'⟩⟩
  · have := rE _ h
    simp only [push_cast, ↓reduceIte, Nat.reduceEqDiff, reduceCtorEq, Nat.reduceAdd, Nat.reduceLT, Nat.reduceLeDiff, h]
    exact ⟨hp, fun _ => by rw [hc], fun h0 => absurd (hc.symm.trans h0) h⟩
theorem VC (key : Int) (x y : AV) (l : List Upd) (since : List Tm) (H : AH) (hx : elems 4 x H = some (l.map upA)) (hl : l.length < 1099511627776) (hs : cI l) (hy : elems 2 y H = some (since.map aQ)) (hsl : since.length < 1099511627776) (hy2 : since ≠ [] → y = eJ since) :
    aC Tryz.prog 9 [.int .i64 key, x, y] H (VB key l since H) := by
  refine aU c9 (by simp [F9]) ?_
  unfold F9
  have err : ∀ c H', c ≠ 0 → bW key l since = c → H <+: H' → VB key l since H (.tup [.nilp, .int .i64 c]) H' := fun c H' h0 h1 hp => ⟨hp, fun _ => by rw [h1], fun h2 => absurd (h1.symm.trans h2) h0⟩
  have one : (key < 0 ∨ key > 16) → bW key l since = 1 := fun h => by rw [bW, if_pos h]
  have la := aL hx
  rw [List.length_map] at la
  have lb := aL hy
  rw [List.length_map] at lb
  by_cases h1 : key < 0
  · simp only [push_cast, ↓reduceIte, Nat.reduceEqDiff, reduceCtorEq, Nat.reduceAdd, Nat.reduceLT, Nat.reduceLeDiff, h1, decide_true]
    exact err 1 H (by decide) (one (.inl h1)) (List.prefix_refl _)
  by_cases h2 : key > 16
  · simp only [push_cast, ↓reduceIte, Nat.reduceEqDiff, reduceCtorEq, Nat.reduceAdd, Nat.reduceLT, Nat.reduceLeDiff, h1, h2, decide_true, decide_false]
    exact err 1 H (by decide) (one (.inr h2)) (List.prefix_refl _)
  have hc0 : bW key l since = if dB key l = true then 9 else if eF since ≠ 0 then eF since else (bV (fG since l)).2 := by rw [bW, if_neg (by omega)]
  simp only [push_cast, ↓reduceIte, Nat.reduceEqDiff, reduceCtorEq, Nat.reduceAdd, Nat.reduceLT, Nat.reduceLeDiff, h1, h2, decide_false, la]
  refine MP (x := x) (y := y) (l := l) (key := key) hx (List.prefix_refl _) hl rfl rfl rfl rfl rfl rfl (fun hk f H' hp e6 e7 => ?_) (fun hk f H' hp e0 e1 e2 => ?_)
  · simp only [push_cast, ↓reduceIte, Nat.reduceEqDiff, reduceCtorEq, Nat.reduceAdd, Nat.reduceLT, Nat.reduceLeDiff, e6, e7]
    exact err 9 _ (by decide) (by rw [hc0, if_pos hk]) hp
  rw [hk, if_neg (by decide)] at hc0
  simp only [push_cast, ↓reduceIte, Nat.reduceEqDiff, reduceCtorEq, Nat.reduceAdd, Nat.reduceLT, Nat.reduceLeDiff, e0, e1, e2]
  (refine aC.look (MM y since _ (bJ hy hp) hsl) ?_; simp only [push_cast, ↓reduceIte, Nat.reduceEqDiff, reduceCtorEq, Nat.reduceAdd, Nat.reduceLT, Nat.reduceLeDiff, aB, aA, e0, e1, e2])
  by_cases h3 : eF since = 0
  · rw [if_neg (by simpa using h3)] at hc0
    by_cases h4 : since = []
    · have e : fG since l = l := by rw [fG, if_pos h4]
      have lb0 : ¬ ((since.length : Nat) : Int) > 0 := by rw [h4]; decide
      simp only [push_cast, ↓reduceIte, Nat.reduceEqDiff, reduceCtorEq, Nat.reduceAdd, Nat.reduceLT, Nat.reduceLeDiff, h3, lb, lb0, decide_false, e1]
      unfold CR
      simp only [push_cast, ↓reduceIte, Nat.reduceEqDiff, reduceCtorEq, Nat.reduceAdd, Nat.reduceLT, Nat.reduceLeDiff]
      exact JP hx hl hy hsl (z := x) (by rw [e]; exact hx) (by rw [e]; exact hs) hc0 (by omega) hk hp (by exact e0) (by exact e1) (by exact e2) (by rfl)
    · have e : fG since l = l.map (mY since) := by rw [fG, if_neg h4]
      have lb0 : ((since.length : Nat) : Int) > 0 := by have := List.length_pos_iff.2 h4; omega
      rw [hy2 h4] at e2
      have lb2 : cZ (eJ since) = some since.length := by simp [eJ, cZ]
      rw [hy2 h4]
      simp only [push_cast, ↓reduceIte, Nat.reduceEqDiff, reduceCtorEq, Nat.reduceAdd, Nat.reduceLT, Nat.reduceLeDiff, h3, lb2, lb0, decide_true, e1, e2]
      unfold CR
      simp only [push_cast, ↓reduceIte, Nat.reduceEqDiff, reduceCtorEq, Nat.reduceAdd, Nat.reduceLT, Nat.reduceLeDiff, e1, e2]
      (refine aC.look (CJ x l since _ (bJ hx hp) hl hsl hs) ?_; simp only [push_cast, ↓reduceIte, Nat.reduceEqDiff, reduceCtorEq, Nat.reduceAdd, Nat.reduceLT, Nat.reduceLeDiff, aB, aA, e0, e1, e2])
      refine JP hx hl (hy2 h4 ▸ hy) hsl (z := aZ (l.map (mY since))) (by rw [e]; rfl) ?_ hc0 (by omega) hk hp (by exact e0) (by exact e1) (by exact e2) (by simp only [push_cast, ↓reduceIte, Nat.reduceEqDiff, reduceCtorEq, Nat.reduceAdd, Nat.reduceLT, Nat.reduceLeDiff])
      rw [e]
      intro u hu
      obtain ⟨v, hv, rfl⟩ := List.mem_map.1 hu
      exact hs v hv
  · rw [if_pos h3] at hc0
    simp only [push_cast, ↓reduceIte, Nat.reduceEqDiff, reduceCtorEq, Nat.reduceAdd, Nat.reduceLT, Nat.reduceLeDiff, h3]
    exact err _ _ h3 hc0 hp
theorem CU (n : Nat) (b : Bt) : cl n (gF b) = true := by
  have h1 : ∀ l, cl n (eJ l) = true := fun l => mG (SX n) l
  have h2 : ∀ l, cl n (bO l) = true := fun l => mG (lL n) l
  have h3 : ∀ l, cl n (mH l) = true := fun l => mG (fun _ => rfl) l
  simp [gF, vG, cl, cls, h1, h2, h3]
def MS (key : Int) (l : List Upd) (since : List Tm) : AV := if bW key l since = 0 then .tup [gF (iT key l since), .int .i64 0] else .tup [.nilp, .int .i64 (bW key l since)]
theorem OBL.batch {H0 H : AH} {t : Nat} {b : Bt} {vs : List AV} (O : OBL H0 H t (hdB b) vs (lsB b)) : ∃ H', bZ H (.ptr t 0 0) H' (gF b) ∧ H0 <+: H' := by
  obtain ⟨H', h1, h2⟩ := O.frz
  have hl : (hdB b).length + vs.length = 9 := by rw [O.len]; rfl
  rw [hl] at h1
  exact ⟨H', h1, h2⟩
theorem VD (key : Int) (x y : AV) (l : List Upd) (since : List Tm) (H : AH) (hx : elems 4 x H = some (l.map upA)) (hl : l.length < 1099511627776) (hs : cI l) (hy : elems 2 y H = some (since.map aQ)) (hsl : since.length < 1099511627776) (hy2 : since ≠ [] → y = eJ since) :
    aC Tryz.prog 9 [.int .i64 key, x, y] H fun r H' => r = MS key l since ∧ H' = H :=
  (aC.gc (R := fun x _ => x = MS key l since) (((VC key x y l since H hx hl hs hy hsl hy2).weak (R' := fun r H' => H <+: H' ∧ r = MS key l since) fun r H' ⟨hp, h1, h2⟩ => by
    unfold MS
    by_cases h : bW key l since = 0
    · obtain ⟨t, vs, rfl, O⟩ := h2 h
      obtain ⟨H2, w, hp2⟩ := O.batch
      rw [if_pos h]
      exact ⟨_, H2, bZ.tup (i := 0) (vs := [.ptr t 0 0, .int .i64 0]) w rfl, hp2, rfl⟩
    · rw [if_neg h]
      exact ⟨_, H', bZ.refl _ _, hp, h1 h⟩).mono fun x H' ⟨hp, e⟩ => ⟨hp, by
        rw [e]; unfold MS
        have := CU H.length (iT key l since)
        split <;> simp [cl, cls, this], e⟩)).mono fun x H' ⟨e, _, e2⟩ => ⟨e2, e⟩
end Go.Eng
end
section
set_option linter.unusedVariables false
set_option linter.unusedSimpArgs false
set_option maxRecDepth 10000
namespace Go.Eng
open Go Go.Proofs
theorem CV {H : AH} {sz t : Nat} {e e' : AV} {ex : Bool} (h : t = H.length) : elems sz (.ref sz t 0 2 2 ex) (H ++ [.live sz [e, e']]) = some [e, e'] := by
  subst h
  simp [elems, bA]
theorem cM {sz i : Nat} {l : List AV} (h : i < l.length) (κ : IntKind) : aF sz (.list sz l false) (.int κ (i : Int)) = some (.lptr sz l i 0) := by simp [aF, nat?, h]
def mJ (r : List Val) (ts : List (Tm × Int)) : List Upd := ts.map fun q => ⟨r, q.1, q.2⟩
theorem rF (r : List Val) (ts : List (Tm × Int)) : (mJ r ts).length = ts.length := by simp [mJ]
def CW : AC := (.block 2 (.loop (.seq (.seq (.ops [oo 41 (.mov (.t 11)), oo 42 (.mov (.t 10)), oo 43 (.bin .lss (.t 41) (.t 42))]) (.cond (.t 43) .skip (.exit 2))) (.seq (.block 3 (.ops [oo 81 (.mov (.t 5)), oo 82 (.mov (.t 0)), oo 83 (.nilc (.t 82)), oo 84 (.faddr 3 (.t 83)), oo 85 (.load false 1 (.t 84)), oo 86 (.mov (.t 1)), oo 87 (.iaddr 1 (.t 85) (.t 86)), oo 88 (.load false 1 (.t 87)), oo 89 (.mov (.t 0)), oo 90 (.nilc (.t 89)), oo 91 (.faddr 5 (.t 90)), oo 92 (.load false 1 (.t 91)), oo 93 (.mov (.t 8)), oo 94 (.iaddr 1 (.t 92) (.t 93)), oo 95 (.load false 1 (.t 94)), oo 96 (.bsl 1 2 .nils [(0, (.t 88)), (1, (.t 95))]), oo 98 (.mov (.t 0)), oo 99 (.nilc (.t 98)), oo 100 (.faddr 7 (.t 99)), oo 101 (.load false 1 (.t 100)), oo 102 (.mov (.t 11)), oo 103 (.iaddr 2 (.t 101) (.t 102)), oo 104 (.load true 2 (.t 103)), oo 105 (.mov (.t 0)), oo 106 (.nilc (.t 105)), oo 107 (.faddr 8 (.t 106)), oo 108 (.load false 1 (.t 107)), oo 109 (.mov (.t 11)), oo 110 (.iaddr 1 (.t 108) (.t 109)), oo 111 (.load false 1 (.t 110)), oq 97 (.call 65 [(.t 96)]), oo 112 (.build [.nils, (.int .i64 0), (.int .i64 0), (.int .i64 0)] [(0, 1, (.t 97)), (1, 2, (.t 104)), (3, 1, (.t 111))]), oo 113 (.bsl 4 1 (.agg [.nils, (.int .i64 0), (.int .i64 0), (.int .i64 0)]) [(0, (.t 112))]), oo 114 (.app 4 48 (.t 81) (.t 113)), oo 115 (.mov (.t 114)), oo 46 (.mov (.t 81)), oo 47 (.mov (.t 82)), oo 48 (.mov (.t 83)), oo 49 (.mov (.t 84)), oo 50 (.mov (.t 85)), oo 51 (.mov (.t 86)), oo 52 (.mov (.t 87)), oo 53 (.mov (.t 88)), oo 54 (.mov (.t 89)), oo 55 (.mov (.t 90)), oo 56 (.mov (.t 91)), oo 57 (.mov (.t 92)), oo 58 (.mov (.t 93)), oo 59 (.mov (.t 94)), oo 60 (.mov (.t 95)), oo 61 (.mov (.t 96)), oo 63 (.mov (.t 98)), oo 64 (.mov (.t 99)), oo 65 (.mov (.t 100)), oo 66 (.mov (.t 101)), oo 67 (.mov (.t 102)), oo 68 (.mov (.t 103)), oo 69 (.mov (.t 104)), oo 70 (.mov (.t 105)), oo 71 (.mov (.t 106)), oo 72 (.mov (.t 107)), oo 73 (.mov (.t 108)), oo 74 (.mov (.t 109)), oo 75 (.mov (.t 110)), oo 76 (.mov (.t 111)), oo 62 (.mov (.t 97)), oo 77 (.mov (.t 112)), oo 78 (.mov (.t 113)), oo 79 (.mov (.t 114)), oo 5 (.mov (.t 115))])) (.ops [oo 44 (.mov (.t 11)), oo 45 (.bin .add (.t 44) (.v (.int .i64 1))), oo 11 (.mov (.t 45))])))))
def CX : AC := (.block 0 (.loop (.seq (.seq (.ops [oo 26 (.mov (.t 8)), oo 27 (.mov (.t 7)), oo 28 (.bin .lss (.t 26) (.t 27))]) (.cond (.t 28) .skip (.exit 0))) (.seq (.block 1 (.seq (.ops [oo 32 (.mov (.t 0)), oo 33 (.nilc (.t 32)), oo 34 (.faddr 6 (.t 33)), oo 35 (.load false 1 (.t 34)), oo 36 (.mov (.t 8)), oo 37 (.call 64 [(.t 35), (.t 36)]), oo 31 (.mov (.t 37)), oo 38 (.ext (.t 31) 0), oo 39 (.ext (.t 31) 1), oo 9 (.mov (.t 38)), oo 10 (.mov (.t 39))]) (.seq (.ops [oo 40 (.mov (.t 9)), oo 11 (.mov (.t 40))]) (CW)))) (.ops [oo 29 (.mov (.t 8)), oo 30 (.bin .add (.t 29) (.v (.int .i64 1))), oo 8 (.mov (.t 30))])))))
def F24 : AFn := ⟨81, 2, [.t 4], (.seq (.ops [oo 4 (.mov (.v .nils))]) (.seq (.seq (.ops [oo 12 (.mov (.t 0)), oo 13 (.mov (.t 1)), oo 14 (.call 63 [(.t 12), (.t 13)]), oo 15 (.un .not (.t 14))]) (.cond (.t 15) (.seq (.ops [oo 4 (.mov (.v .nils))]) .ret) .skip)) (.seq (.ops [oo 5 (.mov (.v .nils))]) (.seq (.ops [oo 17 (.mov (.t 0)), oo 18 (.nilc (.t 17)), oo 19 (.faddr 4 (.t 18)), oo 20 (.load false 1 (.t 19)), oo 21 (.mov (.t 1)), oo 22 (.call 64 [(.t 20), (.t 21)]), oo 16 (.mov (.t 22)), oo 23 (.ext (.t 16) 0), oo 24 (.ext (.t 16) 1), oo 6 (.mov (.t 23)), oo 7 (.mov (.t 24))]) (.seq (.seq (.ops [oo 25 (.mov (.t 6)), oo 8 (.mov (.t 25))]) (CX)) (.seq (.ops [oo 80 (.mov (.t 5)), oo 4 (.mov (.t 80))]) .ret))))))⟩
theorem c24 : aD Tryz.prog 24 = some F24 := by kernel_rfl
theorem RK {H H' : AH} {b : Bt} {i k lo hi : Nat} {key rest : List Val} {ts : List (Tm × Int)} {out : List Upd} {f : AF} {Q : AE → AF → AH → Prop} (hp : H <+: H') (hk : b.keys[i]? = some key) (hr : b.rests[k]? = some rest) (hkl : key.length + rest.length < 1099511627776)
    (ht : ∀ m (h : m < ts.length), b.times[lo + m]? = some ts[m].1 ∧ b.ws[lo + m]? = some ts[m].2) (hb : out.length + ts.length < 1099511627776) (hhi : hi = lo + ts.length) (hlo : hi < 1099511627776) (e0 : f 0 = gF b) (e1 : f 1 = .int .i64 i) (e8 : f 8 = .int .i64 k) (e10 : f 10 = .int .i64 hi) (e11 : f 11 = .int .i64 lo) (ho : Own H H' 4 (f 5) (out.map upA))
    (hQ : ∀ f2 H', H <+: H' → f2 0 = gF b → f2 1 = .int .i64 i → f2 7 = f 7 → f2 8 = .int .i64 k → Own H H' 4 (f2 5) ((out ++ mJ (key ++ rest) ts).map upA) → Q .normal f2 H') : CW.wp Tryz.prog Q f H' := by
  unfold CW
  simp only [push_cast, ↓reduceIte, Nat.reduceEqDiff, reduceCtorEq, Nat.reduceAdd, Nat.reduceLT, Nat.reduceLeDiff]
  generalize h7 : f 7 = z7 at hQ
  refine aI (fun (j : Nat) f H' => H <+: H' ∧ lo ≤ j ∧ j ≤ hi ∧ f 0 = gF b ∧ f 1 = .int .i64 i ∧ f 7 = z7 ∧ f 8 = .int .i64 k ∧ f 10 = .int .i64 hi ∧ f 11 = .int .i64 j ∧ Own H H' 4 (f 5) ((out ++ mJ (key ++ rest) (ts.take (j - lo))).map upA)) (fun j => hi - j) lo ⟨hp, Nat.le_refl _, by omega, e0, e1, h7, e8, e10, e11, by simpa [mJ] using ho⟩ ?_
  clear e0 e1 e8 e10 e11 ho h7 hp
  rintro j f H2 ⟨hp, h2, h3, e0, e1, e7, e8, e10, e11, ho⟩
  generalize hv : f 5 = v at ho
  obtain ⟨m, hm⟩ : ∃ m, j = lo + m := ⟨j - lo, by omega⟩
  have hm2 : j - lo = m := by omega
  have hm3 : j + 1 - lo = m + 1 := by omega
  rw [hm2] at ho
  by_cases hj : j < hi
  · have hml : m < ts.length := by omega
    obtain ⟨t1, t2⟩ := ht m hml
    rw [← hm] at t1 t2
    have hts : mJ (key ++ rest) (ts.take (m + 1)) = mJ (key ++ rest) (ts.take m) ++ [⟨key ++ rest, ts[m].1, ts[m].2⟩] := by rw [List.take_succ_eq_append_getElem hml]; unfold mJ; rw [List.map_append]; rfl
    generalize ts[m] = q at t1 t2 hts
    have hi' : (j : Int) < (hi : Int) := by omega
    have hlen : ((out ++ mJ (key ++ rest) (ts.take m)).map upA).length = out.length + m := by rw [List.length_map, List.length_append, rF, List.length_take]; omega
    have a1 : aF 1 (bO b.keys) (.int .i64 (i : Int)) = some (.lptr 1 (b.keys.map aS) i 0) := cM (by rw [List.length_map]; exact (List.getElem?_eq_some_iff.1 hk).1) _
    have a2 : aF 1 (bO b.rests) (.int .i64 (k : Int)) = some (.lptr 1 (b.rests.map aS) k 0) := cM (by rw [List.length_map]; exact (List.getElem?_eq_some_iff.1 hr).1) _
    have a3 : aF 2 (eJ b.times) (.int .i64 (j : Int)) = some (.lptr 2 (b.times.map aQ) j 0) := cM (by rw [List.length_map]; exact (List.getElem?_eq_some_iff.1 t1).1) _
    have a4 : aF 1 (mH b.ws) (.int .i64 (j : Int)) = some (.lptr 1 (b.ws.map jP) j 0) := cM (by rw [List.length_map]; exact (List.getElem?_eq_some_iff.1 t2).1) _
    have l1 : (b.keys.map aS)[i]? = some (aS key) := by rw [List.getElem?_map, hk]; rfl
    have l2 : (b.rests.map aS)[k]? = some (aS rest) := by rw [List.getElem?_map, hr]; rfl
    have l3 : (b.times.map aQ)[j]? = some (aQ q.1) := by rw [List.getElem?_map, t1]; rfl
    have l4 : (b.ws.map jP)[j]? = some (.int .i64 q.2) := by rw [List.getElem?_map, t2]; rfl
    have hfl : [key, rest].flatten = key ++ rest := by simp
    have pt : part true 2 0 (aQ q.1) = some (aQ q.1) := rfl
    have k1 : cells (aQ q.1) = [.int .i64 q.1.f0, .int .i64 q.1.f1] := rfl
    simp only [push_cast, ↓reduceIte, Nat.reduceEqDiff, reduceCtorEq, Nat.reduceAdd, Nat.reduceLT, Nat.reduceLeDiff, aB, aA, e0, e1, e7, e8, e10, e11, hi', a1, a2, a3, a4, l1, l2, l3, l4, kD, pD, pt, k1, MG, gF, vG, hv]
    (refine aC.look (RF _ [key, rest] _ (CV rfl) (by simp) (by simpa using hkl)) ?_; simp only [push_cast, ↓reduceIte, Nat.reduceEqDiff, reduceCtorEq, Nat.reduceAdd, Nat.reduceLT, Nat.reduceLeDiff, aB, aA, e0, e1, e7, e8, e10, e11, hv, aQ, aS, hfl])
    refine ho.mono.mono.xapp (aN (aN hp)) (xs := [upA ⟨key ++ rest, q.1, q.2⟩]) (bT (by simp)) (by rw [hlen]; simp only [List.length_cons, List.length_nil]; omega) fun v' H4 ho' hp' => ?_
    simp only [push_cast, ↓reduceIte, Nat.reduceEqDiff, reduceCtorEq, Nat.reduceAdd, Nat.reduceLT, Nat.reduceLeDiff, e0, e1, e7, e8, e10, e11]
    refine ⟨j + 1, ⟨hp', by omega, hj, rfl, ?_, ?_⟩, by omega⟩
    · rw [aE (by omega) (by omega)]; simp
    · rw [hm3, hts, ← List.append_assoc, List.map_append]; exact ho'
  · have hi' : ¬ (j : Int) < (hi : Int) := by omega
    simp only [push_cast, ↓reduceIte, Nat.reduceEqDiff, reduceCtorEq, Nat.reduceAdd, Nat.reduceLT, Nat.reduceLeDiff, e10, e11, hi']
    rw [List.take_of_length_le (by omega)] at ho
    exact hQ _ _ hp e0 e1 e7 e8 (by rw [← hv] at ho; exact ho)
theorem RL {H H' : AH} {b : Bt} {i lo hi : Nat} {key : List Val} {rs : List Rst} {f : AF} {Q : AE → AF → AH → Prop} (hp : H <+: H') (hk : b.keys[i]? = some key) (hrl : b.rends.length < 1099511627776) (hr : ∀ m (h : m < rs.length), b.rests[lo + m]? = some rs[m].1 ∧ lo + m < b.rends.length ∧ key.length + rs[m].1.length < 1099511627776)
    (hts : ∀ m (h : m < rs.length), ∃ l2 : Nat, qQ b.rends (lo + m) = ((l2 : Int), ((l2 + rs[m].2.length : Nat) : Int)) ∧ l2 + rs[m].2.length < 1099511627776 ∧ ∀ j (h2 : j < rs[m].2.length), b.times[l2 + j]? = some rs[m].2[j].1 ∧ b.ws[l2 + j]? = some rs[m].2[j].2)
    (hb : (rs.flatMap (mX key)).length < 1099511627776) (hhi : hi = lo + rs.length) (hlo : hi < 1099511627776) (e0 : f 0 = gF b) (e1 : f 1 = .int .i64 i) (e7 : f 7 = .int .i64 hi) (e8 : f 8 = .int .i64 lo) (ho : Own H H' 4 (f 5) [])
    (hQ : ∀ f2 H', H <+: H' → Own H H' 4 (f2 5) ((rs.flatMap (mX key)).map upA) → Q .normal f2 H') : CX.wp Tryz.prog Q f H' := by
  unfold CX
  simp only [push_cast, ↓reduceIte, Nat.reduceEqDiff, reduceCtorEq, Nat.reduceAdd, Nat.reduceLT, Nat.reduceLeDiff]
  refine aI (fun (j : Nat) f H' => H <+: H' ∧ lo ≤ j ∧ j ≤ hi ∧ f 0 = gF b ∧ f 1 = .int .i64 i ∧ f 7 = .int .i64 hi ∧ f 8 = .int .i64 j ∧ Own H H' 4 (f 5) (((rs.take (j - lo)).flatMap (mX key)).map upA)) (fun j => hi - j) lo ⟨hp, Nat.le_refl _, by omega, e0, e1, e7, e8, by simpa using ho⟩ ?_
  clear e0 e1 e8 e7 ho hp
  rintro j f H2 ⟨hp, h2, h3, e0, e1, e7, e8, ho⟩
  obtain ⟨m, hm⟩ : ∃ m, j = lo + m := ⟨j - lo, by omega⟩
  have hm2 : j - lo = m := by omega
  have hm3 : j + 1 - lo = m + 1 := by omega
  rw [hm2] at ho
  by_cases hj : j < hi
  · have hml : m < rs.length := by omega
    obtain ⟨r1, r2, r3⟩ := hr m hml
    obtain ⟨l2, s1, s2, s3⟩ := hts m hml
    rw [← hm] at r1 r2 s1
    have htk : (rs.take (m + 1)).flatMap (mX key) = (rs.take m).flatMap (mX key) ++ mJ (key ++ rs[m].1) rs[m].2 := by
      rw [List.take_succ_eq_append_getElem hml, List.flatMap_append, List.flatMap_cons, List.flatMap_nil, List.append_nil]
      rfl
    have hle : ((rs.take (m + 1)).flatMap (mX key)).length ≤ (rs.flatMap (mX key)).length := by
      have : (rs.take (m + 1) ++ rs.drop (m + 1)).flatMap (mX key) = rs.flatMap (mX key) := by rw [List.take_append_drop]
      rw [← this, List.flatMap_append, List.length_append]
      omega
    rw [htk, List.length_append, rF] at hle
    generalize rs[m] = y at r1 r3 s1 s2 s3 htk hle
    have hi' : (j : Int) < (hi : Int) := by omega
    obtain ⟨h2i, hh2⟩ : ∃ h2i, h2i = l2 + y.2.length := ⟨_, rfl⟩
    rw [← hh2] at s1 s2
    simp only [push_cast, ↓reduceIte, Nat.reduceEqDiff, reduceCtorEq, Nat.reduceAdd, Nat.reduceLT, Nat.reduceLeDiff, aB, aA, e0, e1, e7, e8, hi', gF, vG]
    (refine aC.look (JN b.rends j r2 hrl _) ?_; simp only [push_cast, ↓reduceIte, Nat.reduceEqDiff, reduceCtorEq, Nat.reduceAdd, Nat.reduceLT, Nat.reduceLeDiff, aB, aA, e0, e1, e7, e8, s1, gF, vG])
    refine RK (b := b) (i := i) (k := j) (lo := l2) (hi := h2i) (key := key) (rest := y.1) (ts := y.2) (out := (rs.take m).flatMap (mX key)) hp hk r1 r3 s3 (by omega) hh2 s2 (by exact e0) (by exact e1) (by exact e8) (by rfl) (by rfl) (by exact ho) fun f2 H3 hp3 g0 g1 g7 g8 ho3 => ?_
    simp only [push_cast, ↓reduceIte, Nat.reduceEqDiff, reduceCtorEq, Nat.reduceAdd, Nat.reduceLT, Nat.reduceLeDiff, g0, g1, g7, g8, e7]
    refine ⟨j + 1, ⟨hp3, by omega, hj, rfl, ?_, ?_⟩, by omega⟩
    · rw [aE (by omega) (by omega)]; simp
    · rw [hm3, htk]; exact ho3
  · have hi' : ¬ (j : Int) < (hi : Int) := by omega
    simp only [push_cast, ↓reduceIte, Nat.reduceEqDiff, reduceCtorEq, Nat.reduceAdd, Nat.reduceLT, Nat.reduceLeDiff, e7, e8, hi']
    rw [List.take_of_length_le (by omega)] at ho
    exact hQ _ _ hp ho
theorem HJ {b : Bt} {g : Gr} (G : Gs b g) : b.keys.length = g.length ∧ b.kends.length = g.length := by
  rw [G.kends, G.keys, oV, List.length_map, List.length_map]; exact ⟨rfl, rfl⟩
theorem RM {b : Bt} {g : Gr} (G : Gs b g) {i : Nat} (hi : i < g.length) : ∃ lo hi2 : Nat, qQ b.kends i = ((lo : Int), (hi2 : Int)) ∧ hi2 = lo + g[i].2.length ∧ hi2 ≤ b.rests.length ∧ b.keys[i]? = some g[i].1 ∧
    ∀ m (h : m < g[i].2.length), b.rests[lo + m]? = some g[i].2[m].1 ∧ ∃ l2 : Nat, qQ b.rends (lo + m) = ((l2 : Int), ((l2 + g[i].2[m].2.length : Nat) : Int)) ∧ l2 + g[i].2[m].2.length ≤ b.times.length ∧ ∀ j (h2 : j < g[i].2[m].2.length), b.times[l2 + j]? = some g[i].2[m].2[j].1 ∧ b.ws[l2 + j]? = some g[i].2[m].2[j].2 := by
  have hs := qW (g.map (·.2.length)) i (by rw [List.length_map]; exact hi)
  rw [← G.kends] at hs
  have hle := oY (fun x : List Val × List Rst => x.2) g i hi
  have hgm : (g.map (·.2.length))[i]'(by rw [List.length_map]; exact hi) = g[i].2.length := by rw [List.getElem_map]
  rw [hgm, ← List.map_take] at hs
  generalize hlo : ((g.take i).map (·.2.length)).sum = lo at hs hle
  refine ⟨lo, lo + g[i].2.length, hs, rfl, by rw [G.rests, List.length_map]; exact hle, by rw [G.keys, List.getElem?_map, List.getElem?_eq_getElem hi]; rfl, fun m hm => ?_⟩
  have hfg := oX (fun x : List Val × List Rst => x.2) g i m hi hm
  rw [hlo, List.getElem?_eq_getElem hm] at hfg
  have hml : lo + m < (g.flatMap (·.2)).length := (List.getElem?_eq_some_iff.1 hfg).1
  have hmg : (g.flatMap (·.2))[lo + m] = g[i].2[m] := (List.getElem?_eq_some_iff.1 hfg).2
  refine ⟨by rw [G.rests, List.getElem?_map, hfg]; rfl, ?_⟩
  have hs2 := qW ((g.flatMap (·.2)).map (·.2.length)) (lo + m) (by rw [List.length_map]; exact hml)
  rw [← G.rends] at hs2
  have hle2 := oY (fun y : Rst => y.2) (g.flatMap (·.2)) (lo + m) hml
  have hgm2 : ((g.flatMap (·.2)).map (·.2.length))[lo + m]'(by rw [List.length_map]; exact hml) = g[i].2[m].2.length := by rw [List.getElem_map, hmg]
  rw [hgm2, ← List.map_take] at hs2
  rw [hmg] at hle2
  have hfg2 := fun j hj => oX (fun y : Rst => y.2) (g.flatMap (·.2)) (lo + m) j hml hj
  simp only [hmg] at hfg2
  generalize (((g.flatMap (·.2)).take (lo + m)).map (·.2.length)).sum = l2 at hs2 hle2 hfg2
  refine ⟨l2, hs2, by rw [G.times, List.length_map]; exact hle2, fun j hj => ?_⟩
  have := hfg2 j hj
  rw [List.getElem?_eq_getElem hj] at this
  exact ⟨by rw [G.times, List.getElem?_map, this]; rfl, by rw [G.ws, List.getElem?_map, this]; rfl⟩
theorem vL (k : List Val) : ∀ rs : List Rst, (rs.flatMap (mX k)).length = (rs.flatMap (·.2)).length
  | [] => rfl
  | y :: r => by
    have := vL k r
    simp only [List.flatMap_cons, List.length_append, this]
    simp [mX]
theorem vM : ∀ g : Gr, (TA g).length = ((g.flatMap (·.2)).flatMap (·.2)).length
  | [] => rfl
  | x :: r => by
    have h1 := vM r
    have h2 := vL x.1 x.2
    unfold TA at h1 ⊢
    simp only [List.flatMap_cons, List.length_append, List.flatMap_append] at h1 ⊢
    rw [h1]
    show (x.2.flatMap (mX x.1)).length + _ = _
    rw [h2]
theorem xL {b : Bt} {g : Gr} (G : Gs b g) : (TA g).length = b.times.length := by rw [vM, G.times, List.length_map]
theorem VE {b : Bt} {g : Gr} (G : Gs b g) (hv : Vd 549755813888 b) (ht : b.times.length < 1099511627776) (i : Nat) (hi : i < g.length) (H : AH) : aC Tryz.prog 24 [gF b, .int .i64 i] H fun r H' => r = aZ (mI g[i]) ∧ H' = H := by
  refine aW c24 (v := aZ (mI g[i])) (fun n => mG (oR n) _) (by simp [F24]) ?_
  unfold F24
  obtain ⟨l1, l2, l3, l4, l5⟩ := tY G
  obtain ⟨q1, q2⟩ := HJ G
  obtain ⟨lo, hi2, s1, s2, s3, s4, s5⟩ := RM G hi
  have hle := oY mI g i hi
  have hul := xL G
  unfold TA at hul
  have hh : SY b i = true := by simp [SY]; omega
  simp only [push_cast, ↓reduceIte, Nat.reduceEqDiff, reduceCtorEq, Nat.reduceAdd, Nat.reduceLT, Nat.reduceLeDiff]
  (refine aC.look (UV b i _) ?_; simp only [push_cast, ↓reduceIte, Nat.reduceEqDiff, reduceCtorEq, Nat.reduceAdd, Nat.reduceLT, Nat.reduceLeDiff, aB, aA, hh])
  simp only [push_cast, ↓reduceIte, Nat.reduceEqDiff, reduceCtorEq, Nat.reduceAdd, Nat.reduceLT, Nat.reduceLeDiff, aB, aA, gF, vG]
  (refine aC.look (JN b.kends i (by omega) (by omega) _) ?_; simp only [push_cast, ↓reduceIte, Nat.reduceEqDiff, reduceCtorEq, Nat.reduceAdd, Nat.reduceLT, Nat.reduceLeDiff, aB, aA, s1])
  refine RL (b := b) (i := i) (lo := lo) (hi := hi2) (key := g[i].1) (rs := g[i].2) (List.prefix_refl _) s4 (by omega) (fun m hm => ?_) (fun m hm => ?_) (by show (mI g[i]).length < _; omega) s2 (by omega) rfl rfl rfl rfl (.inl ⟨rfl, rfl⟩) fun f2 H' hp ho => ?_
  · obtain ⟨r1, _⟩ := s5 m hm
    refine ⟨r1, by omega, ?_⟩
    have := hv.wk _ (List.mem_of_getElem? s4)
    have := hv.wr _ (List.mem_of_getElem? r1)
    omega
  · obtain ⟨_, l2, r1, r2, r3⟩ := s5 m hm
    exact ⟨l2, r1, by omega, r3⟩
  simp only [push_cast, ↓reduceIte, Nat.reduceEqDiff, reduceCtorEq, Nat.reduceAdd, Nat.reduceLT, Nat.reduceLeDiff]
  exact ho.weak hp
end Go.Eng
end
section
namespace Go.Eng
open Go
set_option linter.unusedVariables false
set_option linter.unusedSimpArgs false
def ahB (l : List (List Val)) (r : List Val) (i : Nat) : Bool := decide (bG (l.getD i []) r < 0)
def gal (l : List (List Val)) (r : List Val) : Nat → Nat → Nat → Nat → Nat × Nat × Nat
  | 0, low, step, p => (low, step, p)
  | k + 1, low, step, p => if low + step - 1 < l.length then (if ahB l r (low + step - 1) = true then gal l r k (low + step) (2 * step) (p + 1) else (low, step, p + 1)) else (low, step, p)
def bin (l : List (List Val)) (r : List Val) : Nat → Nat → Nat → Nat → Nat × Nat
  | 0, low, _, p => (low, p)
  | k + 1, low, high, p => if low < high then (if ahB l r (low + (high - low) / 2) = true then bin l r k (low + (high - low) / 2 + 1) high (p + 1) else bin l r k low (low + (high - low) / 2) (p + 1)) else (low, p)
def eS (n : Nat) (from_ : Int) : Nat := min from_.toNat n
def HK (l : List (List Val)) (from_ : Int) (r : List Val) : Nat × Nat :=
  bin l r (l.length + 1) (gal l r (l.length + 1) (eS l.length from_) 1 0).1 (min ((gal l r (l.length + 1) (eS l.length from_) 1 0).1 + (gal l r (l.length + 1) (eS l.length from_) 1 0).2.1 - 1) l.length) (gal l r (l.length + 1) (eS l.length from_) 1 0).2.2
end Go.Eng
end
section
set_option linter.unusedVariables false
set_option linter.unusedSimpArgs false
set_option maxRecDepth 10000
namespace Go.Eng
open Go Go.Proofs
def F89 : AFn := ⟨15, 1, [.t 5], (.seq (.ops [oo 5 (.mov (.v (.bool false)))]) (.seq (.ops [oo 6 (.load false 1 (.t 1)), oo 7 (.bin .add (.t 6) (.v (.int .i64 1))), on (.store 1 (.t 1) (.t 7))]) (.seq (.ops [oo 15 (.load false 1 (.t 2)), oo 16 (.mov (.t 0)), oo 17 (.iaddr 1 (.t 15) (.t 16)), oo 18 (.load false 1 (.t 17)), oo 19 (.load false 1 (.t 3)), oo 20 (.call 90 [(.t 18), (.t 19)]), oo 21 (.bin .lss (.t 20) (.v (.int .i64 0))), oo 22 (.mov (.t 21)), oo 8 (.mov (.t 15)), oo 9 (.mov (.t 16)), oo 10 (.mov (.t 17)), oo 11 (.mov (.t 18)), oo 12 (.mov (.t 19)), oo 13 (.mov (.t 20)), oo 14 (.mov (.t 21)), oo 5 (.mov (.t 22))]) .ret)))⟩
theorem c89 : aD Tryz.prog 89 = some F89 := by kernel_rfl
theorem VF {H : AH} {tp tl tr i : Nat} {n : Int} {l : List (List Val)} {r : List Val} (h1 : obj? H tp = some (1, [.int .i64 n])) (h2 : obj? H tl = some (1, [bO l])) (h3 : obj? H tr = some (1, [aS r])) (n1 : tl ≠ tp) (n2 : tr ≠ tp) (hi : i < l.length) (hl : ∀ x ∈ l, x.length < 1099511627776) (hr : r.length < 1099511627776) :
    aC Tryz.prog 89 [.int .i64 i, .ptr tp 0 0, .ptr tl 0 0, .ptr tr 0 0] H fun x H' => x = .bool (ahB l r i) ∧ H' = List.set H tp (.live 1 [.int .i64 (IntKind.i64.wrap (n + 1))]) := by
  refine aU c89 (by simp [F89]) ?_
  unfold F89
  have o2 : obj? (List.set H tp (.live 1 [.int .i64 (IntKind.i64.wrap (n + 1))])) tl = some (1, [bO l]) := by rw [bF n1.symm]; exact h2
  have o3 : obj? (List.set H tp (.live 1 [.int .i64 (IntKind.i64.wrap (n + 1))])) tr = some (1, [aS r]) := by rw [bF n2.symm]; exact h3
  have pn : ∀ z, part false 1 0 (.int .i64 z) = some (.int .i64 z) := fun _ => rfl
  have pc : ∀ z y, kK (.int .i64 z) 0 [.int .i64 y] = .int .i64 y := fun _ _ => rfl
  have pr : ∀ l, part false 1 0 (bO l) = some (bO l) := fun _ => rfl
  have pw : ∀ l, part false 1 0 (aS l) = some (aS l) := fun _ => rfl
  have ax : aF 1 (bO l) (.int .i64 (i : Int)) = some (.lptr 1 (l.map aS) i 0) := by simp [bO, aF, nat?, hi]
  have lx : (l.map aS)[i]? = some (aS l[i]) := by simp [hi]
  have hd : l.getD i [] = l[i] := by simp [hi]
  simp only [push_cast, ↓reduceIte, Nat.reduceEqDiff, reduceCtorEq, Nat.reduceAdd, Nat.reduceLT, Nat.reduceLeDiff, aB, aA, h1, o2, o3, pn, pc, pr, pw, ax, lx]
  (refine aC.look (iM _ _ l[i] r _ rfl rfl (hl _ (List.getElem_mem hi)) hr) ?_; try simp only [push_cast, ↓reduceIte, Nat.reduceEqDiff, reduceCtorEq, Nat.reduceAdd, Nat.reduceLT, Nat.reduceLeDiff, aB, aA])
  simp only [ahB, hd, and_self]
def FX (H : AH) (l : List (List Val)) (r : List Val) (n : Nat) : AH := H ++ [.live 1 [bO l], .live 1 [aS r], .live 1 [.int .i64 n]]
theorem fx0 {H : AH} {l : List (List Val)} {r : List Val} {n : Nat} : obj? (FX H l r n) H.length = some (1, [bO l]) := by simp [FX, obj?]
theorem fx1 {H : AH} {l : List (List Val)} {r : List Val} {n : Nat} : obj? (FX H l r n) (H.length + 1) = some (1, [aS r]) := by simp [FX, obj?, List.getElem?_append_right]
theorem fx2 {H : AH} {l : List (List Val)} {r : List Val} {n : Nat} : obj? (FX H l r n) (H.length + 1 + 1) = some (1, [.int .i64 n]) := by simp [FX, obj?, List.getElem?_append_right, Nat.add_assoc]
theorem fs2 {H : AH} {l : List (List Val)} {r : List Val} {n m : Nat} : List.set (FX H l r n) (H.length + 1 + 1) (.live 1 [.int .i64 m]) = FX H l r m := by simp [FX, List.set_append_right, Nat.add_assoc]
theorem JQ {H : AH} {l : List (List Val)} {r : List Val} {n i : Nat} (hn : n < 1099511627776) (hi : i < l.length) (hl : ∀ x ∈ l, x.length < 1099511627776) (hr : r.length < 1099511627776) :
    aC Tryz.prog 89 [.int .i64 i, .ptr (H.length + 1 + 1) 0 0, .ptr H.length 0 0, .ptr (H.length + 1) 0 0] (FX H l r n) fun x H' => x = .bool (ahB l r i) ∧ H' = FX H l r (n + 1) := by
  have := VF (fx2 (n := n) (H := H) (l := l) (r := r)) fx0 fx1 (by omega) (by omega) hi hl hr
  rw [show IntKind.i64.wrap ((n : Int) + 1) = ((n + 1 : Nat) : Int) by rw [aE (by omega) (by omega)]; omega, fs2] at this
  exact this
def CY : AC := (.block 2 (.loop (.seq (.seq (.ops [oo 53 (.mov (.t 9)), oo 54 (.mov (.t 11)), oo 55 (.bin .lss (.t 53) (.t 54))]) (.cond (.t 55) .skip (.exit 2))) (.block 3 (.seq (.ops [oo 56 (.mov (.t 9)), oo 57 (.mov (.t 11)), oo 58 (.mov (.t 9)), oo 59 (.bin .sub (.t 57) (.t 58)), oo 60 (.bin .quo (.t 59) (.v (.int .i64 2))), oo 61 (.bin .add (.t 56) (.t 60)), oo 12 (.mov (.t 61))]) (.seq (.ops [oo 62 (.mov (.t 8)), oo 63 (.mov (.t 12)), oo 64 (.callv (.t 62) [(.t 63)])]) (.cond (.t 64) (.ops [oo 65 (.mov (.t 12)), oo 66 (.bin .add (.t 65) (.v (.int .i64 1))), oo 9 (.mov (.t 66))]) (.ops [oo 67 (.mov (.t 12)), oo 11 (.mov (.t 67))]))))))))
def CZ : AC := (.block 0 (.loop (.seq (.seq (.ops [oo 20 (.mov (.t 9)), oo 21 (.load false 1 (.t 3)), oo 22 (.len (.t 21)), oo 23 (.bin .lss (.t 20) (.t 22)), oo 24 (.mov (.t 23)), og 25 24 true (.mov (.t 9)), og 26 24 true (.mov (.t 10)), og 27 24 true (.bin .add (.t 25) (.t 26)), og 28 24 true (.bin .sub (.t 27) (.v (.int .i64 1))), og 29 24 true (.load false 1 (.t 3)), og 30 24 true (.len (.t 29)), og 31 24 true (.bin .lss (.t 28) (.t 30)), oo 32 (.pick (.t 24) (.t 31) (.v (.bool false))), oo 33 (.mov (.t 32)), og 34 33 true (.mov (.t 8)), og 35 33 true (.mov (.t 9)), og 36 33 true (.mov (.t 10)), og 37 33 true (.bin .add (.t 35) (.t 36)), og 38 33 true (.bin .sub (.t 37) (.v (.int .i64 1))), og 39 33 true (.callv (.t 34) [(.t 38)]), oo 40 (.pick (.t 33) (.t 39) (.v (.bool false)))]) (.cond (.t 40) .skip (.exit 0))) (.block 1 (.seq (.ops [oo 41 (.mov (.t 9)), oo 42 (.mov (.t 10)), oo 43 (.bin .add (.t 41) (.t 42)), oo 9 (.mov (.t 43))]) (.ops [oo 44 (.mov (.t 10)), oo 45 (.bin .mul (.t 44) (.v (.int .i64 2))), oo 10 (.mov (.t 45))]))))))
def F66 : AFn := ⟨70, 3, [.t 6, .cell 7 false 1], (.seq (.ops [oo 3 (.box 1 (.t 0)), oo 5 (.box 1 (.t 2)), oo 6 (.mov (.v (.int .i64 0))), oo 7 (.alloc 1 (.int .i64 0))]) (.seq (.ops [oo 13 (.mov (.t 1)), oo 14 (.mx (.t 13) [(.v (.int .i64 0))]), oo 15 (.load false 1 (.t 3)), oo 16 (.len (.t 15)), oo 17 (.mn (.t 14) [(.t 16)]), oo 1 (.mov (.t 17))]) (.seq (.ops [oo 18 (.mkf 89 [] [(.t 7), (.t 3), (.t 5)]), oo 8 (.mov (.t 18))]) (.seq (.ops [oo 19 (.mov (.t 1)), oo 9 (.mov (.t 19)), oo 10 (.mov (.v (.int .i64 1)))]) (.seq (CZ) (.seq (.ops [oo 46 (.mov (.t 9)), oo 47 (.mov (.t 10)), oo 48 (.bin .add (.t 46) (.t 47)), oo 49 (.bin .sub (.t 48) (.v (.int .i64 1))), oo 50 (.load false 1 (.t 3)), oo 51 (.len (.t 50)), oo 52 (.mn (.t 49) [(.t 51)]), oo 11 (.mov (.t 52))]) (.seq (CY) (.seq (.ops [oo 70 (.mov (.t 9)), oo 71 (.load false 1 (.t 7)), oo 72 (.mov (.t 70)), oo 73 (.store 1 (.t 7) (.t 71)), oo 68 (.mov (.t 70)), oo 69 (.mov (.t 71)), oo 6 (.mov (.t 72))]) .ret))))))))⟩
theorem c66 : aD Tryz.prog 66 = some F66 := by kernel_rfl
theorem MT {H : AH} {l : List (List Val)} {r : List Val} {s : Nat} {f : AF} {Q : AE → AF → AH → Prop} (hll : l.length < 549755813888) (hl : ∀ x ∈ l, x.length < 1099511627776) (hr : r.length < 1099511627776) (hs : s ≤ l.length)
    (e3 : f 3 = .ptr H.length 0 0) (e7 : f 7 = .ptr (H.length + 1 + 1) 0 0) (e8 : f 8 = .fn 89 [] [.ptr (H.length + 1 + 1) 0 0, .ptr H.length 0 0, .ptr (H.length + 1) 0 0]) (e9 : f 9 = .int .i64 s) (e10 : f 10 = .int .i64 1)
    (hQ : ∀ f (low step p : Nat), gal l r (l.length + 1) s 1 0 = (low, step, p) → low ≤ l.length → low + 1 = s + step → 1 ≤ step → p ≤ l.length + 1 → f 3 = .ptr H.length 0 0 → f 7 = .ptr (H.length + 1 + 1) 0 0 → f 8 = .fn 89 [] [.ptr (H.length + 1 + 1) 0 0, .ptr H.length 0 0, .ptr (H.length + 1) 0 0] → f 9 = .int .i64 low → f 10 = .int .i64 step → Q .normal f (FX H l r p)) :
    CZ.wp Tryz.prog Q f (FX H l r 0) := by
  unfold CZ
  simp only [push_cast, ↓reduceIte, Nat.reduceEqDiff, reduceCtorEq, Nat.reduceAdd, Nat.reduceLT, Nat.reduceLeDiff]
  generalize hG : gal l r (l.length + 1) s 1 0 = G at hQ
  refine aI (fun (q : Nat × Nat × Nat × Nat) f H' => H' = FX H l r q.2.2.2 ∧ q.2.1 ≤ l.length ∧ q.2.1 + 1 = s + q.2.2.1 ∧ 1 ≤ q.2.2.1 ∧ l.length < q.2.1 + q.1 ∧ q.2.2.2 + q.1 ≤ l.length + 1 ∧ G = gal l r q.1 q.2.1 q.2.2.1 q.2.2.2 ∧ f 3 = .ptr H.length 0 0 ∧ f 7 = .ptr (H.length + 1 + 1) 0 0 ∧ f 8 = .fn 89 [] [.ptr (H.length + 1 + 1) 0 0, .ptr H.length 0 0, .ptr (H.length + 1) 0 0] ∧ f 9 = .int .i64 q.2.1 ∧ f 10 = .int .i64 q.2.2.1) (fun q => q.1) (l.length + 1, s, 1, 0) ⟨rfl, hs, rfl, Nat.le_refl _, by dsimp only; omega, by dsimp only; omega, hG.symm, e3, e7, e8, e9, e10⟩ ?_
  clear e3 e7 e8 e9 e10
  rintro ⟨k, low, step, p⟩ f H' ⟨rfl, h1, h2, h3, h4, h5, h6, e3, e7, e8, e9, e10⟩
  dsimp only at h1 h2 h3 h4 h5 h6 e9 e10
  obtain ⟨k, rfl⟩ : ∃ k', k = k' + 1 := ⟨k - 1, by omega⟩
  simp only [gal] at h6
  have o0 := fx0 (H := H) (l := l) (r := r) (n := p)
  have pr : part false 1 0 (bO l) = some (bO l) := rfl
  have al : cZ (bO l) = some l.length := by simp [bO, cZ]
  have w1 : IntKind.i64.wrap ((low : Int) + step) = ((low + step : Nat) : Int) := by rw [aE (by omega) (by omega)]; omega
  have w2 : IntKind.i64.wrap (((low + step : Nat) : Int) - 1) = ((low + step - 1 : Nat) : Int) := by rw [aE (by omega) (by omega)]; omega
  have w3 : IntKind.i64.wrap ((step : Int) * 2) = ((2 * step : Nat) : Int) := by rw [aE (by omega) (by omega)]; omega
  by_cases c1 : low < l.length
  · have c1' : (low : Int) < l.length := by omega
    by_cases c2 : low + step - 1 < l.length
    · rw [if_pos c2] at h6
      have c2' : ((low + step - 1 : Nat) : Int) < l.length := by omega
      have fc := JQ (H := H) (l := l) (r := r) (n := p) (i := low + step - 1) (by omega) c2 hl hr
      have o1 := fx0 (H := H) (l := l) (r := r) (n := p + 1)
      generalize hm : low + step - 1 = m at h6 c2' w2 fc
      generalize hm2 : low + step = m2 at h6 w1 w2
      simp only [push_cast, ↓reduceIte, Nat.reduceEqDiff, reduceCtorEq, Nat.reduceAdd, Nat.reduceLT, Nat.reduceLeDiff, aB, aA, e3, e7, e8, e9, e10, o0, pr, al, c1', w1, w2, c2', decide_true]
      refine fc.mono fun x H' ⟨hx, hh⟩ => ?_
      subst hx hh
      cases ha : ahB l r m with
      | true =>
        rw [ha, if_pos rfl] at h6
        simp only [push_cast, ↓reduceIte, Nat.reduceEqDiff, reduceCtorEq, Nat.reduceAdd, Nat.reduceLT, Nat.reduceLeDiff, e3, e7, e8, e9, e10, w1, w3]
        exact ⟨(k, m2, 2 * step, p + 1), ⟨rfl, by dsimp only; omega, by dsimp only; omega, by dsimp only; omega, by dsimp only; omega, by dsimp only; omega, h6, rfl, rfl⟩, by dsimp only; omega⟩
      | false =>
        rw [ha, if_neg (by decide)] at h6
        simp only [push_cast, ↓reduceIte, Nat.reduceEqDiff, reduceCtorEq, Nat.reduceAdd, Nat.reduceLT, Nat.reduceLeDiff, e3, e7, e8, e9, e10, w1]
        exact hQ _ low step (p + 1) h6 h1 h2 h3 (by omega) e3 e7 e8 e9 e10
    · rw [if_neg c2] at h6
      have c2' : ¬ ((low + step - 1 : Nat) : Int) < l.length := by omega
      generalize hm : low + step - 1 = m at h6 c2' w2
      generalize hm2 : low + step = m2 at h6 w1 w2
      simp only [push_cast, ↓reduceIte, Nat.reduceEqDiff, reduceCtorEq, Nat.reduceAdd, Nat.reduceLT, Nat.reduceLeDiff, aB, aA, e3, e7, e8, e9, e10, o0, pr, al, c1', w1, w2, c2', decide_true, decide_false]
      exact hQ _ low step p h6 h1 h2 h3 (by omega) e3 e7 e8 e9 e10
  · have c1' : ¬ (low : Int) < l.length := by omega
    rw [if_neg (by omega)] at h6
    simp only [push_cast, ↓reduceIte, Nat.reduceEqDiff, reduceCtorEq, Nat.reduceAdd, Nat.reduceLT, Nat.reduceLeDiff, aB, aA, e3, e7, e8, e9, e10, o0, pr, al, c1', decide_false]
    exact hQ _ low step p h6 h1 h2 h3 (by omega) e3 e7 e8 e9 e10
theorem MU {H : AH} {l : List (List Val)} {r : List Val} {low0 high0 p0 : Nat} {f : AF} {Q : AE → AF → AH → Prop} (hll : l.length < 549755813888) (hl : ∀ x ∈ l, x.length < 1099511627776) (hr : r.length < 1099511627776) (h0 : low0 ≤ high0) (h1 : high0 ≤ l.length) (hp : p0 ≤ l.length + 1)
    (e7 : f 7 = .ptr (H.length + 1 + 1) 0 0) (e8 : f 8 = .fn 89 [] [.ptr (H.length + 1 + 1) 0 0, .ptr H.length 0 0, .ptr (H.length + 1) 0 0]) (e9 : f 9 = .int .i64 low0) (e11 : f 11 = .int .i64 high0)
    (hQ : ∀ f (low p : Nat), bin l r (l.length + 1) low0 high0 p0 = (low, p) → f 7 = .ptr (H.length + 1 + 1) 0 0 → f 9 = .int .i64 low → Q .normal f (FX H l r p)) :
    CY.wp Tryz.prog Q f (FX H l r p0) := by
  unfold CY
  simp only [push_cast, ↓reduceIte, Nat.reduceEqDiff, reduceCtorEq, Nat.reduceAdd, Nat.reduceLT, Nat.reduceLeDiff]
  generalize hG : bin l r (l.length + 1) low0 high0 p0 = G at hQ
  refine aI (fun (q : Nat × Nat × Nat × Nat) f H' => H' = FX H l r q.2.2.2 ∧ q.2.1 ≤ q.2.2.1 ∧ q.2.2.1 ≤ l.length ∧ q.2.2.1 < q.2.1 + q.1 ∧ q.2.2.2 + q.1 ≤ l.length + 1 + l.length + 1 ∧ G = bin l r q.1 q.2.1 q.2.2.1 q.2.2.2 ∧ f 7 = .ptr (H.length + 1 + 1) 0 0 ∧ f 8 = .fn 89 [] [.ptr (H.length + 1 + 1) 0 0, .ptr H.length 0 0, .ptr (H.length + 1) 0 0] ∧ f 9 = .int .i64 q.2.1 ∧ f 11 = .int .i64 q.2.2.1) (fun q => q.1) (l.length + 1, low0, high0, p0) ⟨rfl, h0, h1, by dsimp only; omega, by dsimp only; omega, hG.symm, e7, e8, e9, e11⟩ ?_
  clear e7 e8 e9 e11 h0 h1 hp hG
  rintro ⟨k, low, high, p⟩ f H' ⟨rfl, h1, h2, h4, h5, h6, e7, e8, e9, e11⟩
  dsimp only at h1 h2 h4 h5 h6 e9 e11
  obtain ⟨k, rfl⟩ : ∃ k', k = k' + 1 := ⟨k - 1, by omega⟩
  simp only [bin] at h6
  by_cases c1 : low < high
  · have c1' : (low : Int) < high := by omega
    rw [if_pos c1] at h6
    have w1 : IntKind.i64.wrap ((high : Int) - low) = ((high - low : Nat) : Int) := by rw [aE (by omega) (by omega)]; omega
    have w2 : Int.tdiv ((high - low : Nat) : Int) 2 = (((high - low) / 2 : Nat) : Int) := by rw [Int.tdiv_eq_ediv_of_nonneg (by omega)]; omega
    have w3 : IntKind.i64.wrap (((high - low) / 2 : Nat) : Int) = (((high - low) / 2 : Nat) : Int) := by rw [aE (by omega) (by omega)]
    have w4 : IntKind.i64.wrap ((low : Int) + (((high - low) / 2 : Nat) : Int)) = ((low + (high - low) / 2 : Nat) : Int) := by rw [aE (by omega) (by omega)]; omega
    have w5 : IntKind.i64.wrap (((low + (high - low) / 2 : Nat) : Int) + 1) = ((low + (high - low) / 2 + 1 : Nat) : Int) := by rw [aE (by omega) (by omega)]; omega
    have hm1 : low + (high - low) / 2 < high := by omega
    have hm2 : low ≤ low + (high - low) / 2 := by omega
    have fc := JQ (H := H) (l := l) (r := r) (n := p) (i := low + (high - low) / 2) (by omega) (by omega) hl hr
    generalize low + (high - low) / 2 = m at h6 w4 w5 fc hm1 hm2
    generalize (high - low) / 2 = d2 at w2 w3 w4
    generalize high - low = d at w1 w2
    have wq : cK .quo (.int .i64 (d : Int)) (.int .i64 2) = some (.int .i64 (d2 : Int)) := by simp [cK, w2, w3]
    simp only [push_cast, ↓reduceIte, Nat.reduceEqDiff, reduceCtorEq, Nat.reduceAdd, Nat.reduceLT, Nat.reduceLeDiff, aB, aA, e7, e8, e9, e11, c1', w1, wq, w4, Option.map_some]
    refine fc.mono fun x H' ⟨hx, hh⟩ => ?_
    subst hx hh
    cases ha : ahB l r m with
    | true =>
      rw [ha, if_pos rfl] at h6
      simp only [push_cast, ↓reduceIte, Nat.reduceEqDiff, reduceCtorEq, Nat.reduceAdd, Nat.reduceLT, Nat.reduceLeDiff, e7, e8, e9, e11, w5]
      exact ⟨(k, m + 1, high, p + 1), ⟨rfl, by dsimp only; omega, by dsimp only; omega, by dsimp only; omega, by dsimp only; omega, h6, rfl, rfl⟩, by dsimp only; omega⟩
    | false =>
      rw [ha, if_neg (by decide)] at h6
      simp only [push_cast, ↓reduceIte, Nat.reduceEqDiff, reduceCtorEq, Nat.reduceAdd, Nat.reduceLT, Nat.reduceLeDiff, e7, e8, e9, e11]
      exact ⟨(k, low, m, p + 1), ⟨rfl, by dsimp only; omega, by dsimp only; omega, by dsimp only; omega, by dsimp only; omega, h6, rfl, rfl⟩, by dsimp only; omega⟩
  · have c1' : ¬ (low : Int) < high := by omega
    rw [if_neg (by omega)] at h6
    simp only [push_cast, ↓reduceIte, Nat.reduceEqDiff, reduceCtorEq, Nat.reduceAdd, Nat.reduceLT, Nat.reduceLeDiff, aB, aA, e7, e8, e9, e11, c1', decide_false]
    exact hQ _ low p h6 e7 e9
theorem RN (l : List (List Val)) (a : Int) (r : List Val) (H : AH) (hll : l.length < 549755813888) (hl : ∀ x ∈ l, x.length < 1099511627776) (hr : r.length < 1099511627776) :
    aC Tryz.prog 66 [bO l, .int .i64 a, aS r] H fun x H' => x = .tup [.int .i64 (HK l a r).1, .int .i64 (HK l a r).2] ∧ H' = H := by
  refine aG c66 (fun _ => rfl) (by simp [F66]) ?_
  unfold F66
  have pr : part false 1 0 (bO l) = some (bO l) := rfl
  have cr : cells (bO l) = [bO l] ∧ dH (bO l) = true := ⟨rfl, rfl⟩
  have cw : cells (aS r) = [aS r] ∧ dH (aS r) = true := ⟨rfl, rfl⟩
  have al : cZ (bO l) = some l.length := by simp [bO, cZ]
  have hst : (if (l.length : Int) < (if 0 > a then 0 else a) then (l.length : Int) else if 0 > a then 0 else a) = ((eS l.length a : Nat) : Int) := by unfold eS; split <;> split at * <;> omega
  have hsl : eS l.length a ≤ l.length := by unfold eS; omega
  simp only [push_cast, ↓reduceIte, Nat.reduceEqDiff, reduceCtorEq, Nat.reduceAdd, Nat.reduceLT, Nat.reduceLeDiff, aB, aA, pr, cr, cw, al]
  simp only [hst]
  clear hst
  have hfx : H ++ [aR.live 1 [bO l]] ++ [aR.live 1 [aS r]] ++ [aR.live 1 [AV.int IntKind.i64 0]] = FX H l r 0 := by simp [FX]
  rw [hfx]
  have hfp : HK l a r = bin l r (l.length + 1) (gal l r (l.length + 1) (eS l.length a) 1 0).1 (min ((gal l r (l.length + 1) (eS l.length a) 1 0).1 + (gal l r (l.length + 1) (eS l.length a) 1 0).2.1 - 1) l.length) (gal l r (l.length + 1) (eS l.length a) 1 0).2.2 := rfl
  generalize eS l.length a = s at hsl hfp
  refine MT hll hl hr hsl (by rfl) (by rfl) (by rfl) (by rfl) (by rfl) fun f low step p hg h1 h2 h4 h3 e3 e7 e8 e9 e10 => ?_
  rw [hg] at hfp
  dsimp only at hfp
  have o0 := fx0 (H := H) (l := l) (r := r) (n := p)
  have w1 : IntKind.i64.wrap ((low : Int) + step) = ((low + step : Nat) : Int) := by rw [aE (by omega) (by omega)]; omega
  have w2 : IntKind.i64.wrap (((low + step : Nat) : Int) - 1) = ((low + step - 1 : Nat) : Int) := by rw [aE (by omega) (by omega)]; omega
  have hmn : (if (l.length : Int) < ((low + step - 1 : Nat) : Int) then (l.length : Int) else ((low + step - 1 : Nat) : Int)) = ((min (low + step - 1) l.length : Nat) : Int) := by split <;> omega
  have hm1 : low ≤ min (low + step - 1) l.length := by omega
  have hm2 : min (low + step - 1) l.length ≤ l.length := by omega
  generalize min (low + step - 1) l.length = m at hmn hfp hm1 hm2
  generalize low + step - 1 = d at hmn w2
  generalize low + step = d2 at w1 w2
  simp only [push_cast, ↓reduceIte, Nat.reduceEqDiff, reduceCtorEq, Nat.reduceAdd, Nat.reduceLT, Nat.reduceLeDiff, aB, aA, e3, e7, e8, e9, e10, o0, pr, al, w1, w2, hmn]
  refine MU hll hl hr hm1 hm2 h3 (by exact e7) (by exact e8) (by exact e9) (by rfl) fun f low' q hb e7 e9 => ?_
  rw [hb] at hfp
  rw [hfp]
  have o2 := fx2 (H := H) (l := l) (r := r) (n := q)
  have s2 := fs2 (H := H) (l := l) (r := r) (n := q) (m := q)
  have pn : part false 1 0 (.int .i64 (q : Int)) = some (.int .i64 (q : Int)) := rfl
  have pc : kK (.int .i64 (q : Int)) 0 [.int .i64 (q : Int)] = .int .i64 (q : Int) := rfl
  simp only [push_cast, ↓reduceIte, Nat.reduceEqDiff, reduceCtorEq, Nat.reduceAdd, Nat.reduceLT, Nat.reduceLeDiff, aB, aA, e7, e9, o2, pn, pc, s2]
  exact List.prefix_append _ _
end Go.Eng
end
