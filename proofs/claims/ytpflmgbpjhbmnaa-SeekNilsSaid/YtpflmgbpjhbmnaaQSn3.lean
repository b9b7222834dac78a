/- KMom, KFront, KNil, KNew, KApp, KJoin, KBat, KAddB, KFrz, KOB, KOBL, KOBF, PGrp, KAdv, KSorted, KRuns, KCons, KAdd, KCheck, PCons, KNewB, KRun, PFind, KFind, KSeek. -/
import Derived.Test.YtpflmgbpjhbmnaaQSn2
import Derived.Test.YtpflmgbpjhbmnaaQSn1
section
set_option linter.unusedSimpArgs false
set_option linter.unusedVariables false
namespace Go.Eng
open Go Go.Proofs
theorem MW {n : Nat} : n < n + 1 + 1 := by omega
theorem MX {n : Nat} : n < n + 1 + 1 + 1 := by omega
theorem MY {n : Nat} : n < n + 1 + 1 + 1 + 1 := by omega
theorem wH {k : IntKind} {z : Int} : cells (.int k z) = [.int k z] := Eq.trans rfl rfl
theorem wI {x : ByteArray} : cells (.str x) = [.str x] := Eq.trans rfl rfl
theorem sI {x : Bool} : cells (.bool x) = [.bool x] := Eq.trans rfl rfl
theorem sJ {n : Nat} {l : List AV} {x : Bool} : cells (.list n l x) = [.list n l x] := Eq.trans rfl rfl
theorem wJ {a b c d e : Nat} {x : Bool} : cells (.ref a b c d e x) = [.ref a b c d e x] := Eq.trans rfl rfl
theorem sK : cells .nils = [.nils] := Eq.trans rfl rfl
theorem dF {H : AH} {t sz : Nat} {es : List AV} (h : t < H.length) : obj? (List.set H t (.live sz es)) t = some (sz, es) := by
  unfold obj?; rw [List.getElem?_set_self h]
theorem bK {H : AH} {t u : Nat} {o : aM} (h : t ≠ u) : obj? (List.set H t o) u = obj? H u := by
  unfold obj?; rw [List.getElem?_set_ne h]
theorem exJ {H : AH} : (∃ J, H = H ++ J) = True := eq_true ⟨[], by simp⟩
attribute [push_cast] exJ MW MX MY wH wI sI sJ wJ sK
def qQ (a b : Int) : Int × Int := if (0 < b ∧ a > IntKind.i64.wrap (9223372036854775807 - b)) ∨ (b < 0 ∧ a < IntKind.i64.wrap (-9223372036854775808 - b)) then (0, 60) else (IntKind.i64.wrap (a + b), 0)
def LK : AFn := ⟨27, 2, [.t 4, .t 5], (.seq (.ops [oo 4 (.mov (.v (.int .i64 0))), oo 5 (.mov (.v (.int .i64 0)))]) (.seq (.seq (.ops [oo 6 (.mov (.t 1)), oo 7 (.bin .gtr (.t 6) (.v (.int .i64 0))), oo 8 (.mov (.t 7)), og 9 8 true (.mov (.t 0)), og 10 8 true (.mov (.t 1)), og 11 8 true (.bin .sub (.v (.int .i64 9223372036854775807)) (.t 10)), og 12 8 true (.bin .gtr (.t 9) (.t 11)), oo 13 (.pick (.t 8) (.t 12) (.v (.bool false))), oo 14 (.mov (.t 13)), og 15 14 false (.mov (.t 1)), og 16 14 false (.bin .lss (.t 15) (.v (.int .i64 0))), og 17 14 false (.mov (.t 16)), og 18 17 true (.mov (.t 0)), og 19 17 true (.mov (.t 1)), og 20 17 true (.bin .sub (.v (.int .i64 (-9223372036854775808))) (.t 19)), og 21 17 true (.bin .lss (.t 18) (.t 20)), og 22 14 false (.pick (.t 17) (.t 21) (.v (.bool false))), oo 23 (.pick (.t 14) (.v (.bool true)) (.t 22))]) (.cond (.t 23) (.seq (.ops [oo 4 (.mov (.v (.int .i64 0))), oo 5 (.mov (.v (.int .i64 60)))]) .ret) .skip)) (.seq (.ops [oo 24 (.mov (.t 0)), oo 25 (.mov (.t 1)), oo 26 (.bin .add (.t 24) (.t 25)), oo 4 (.mov (.t 26)), oo 5 (.mov (.v (.int .i64 0)))]) .ret)))⟩
theorem MZ : aD Try.prog 100 = some LK := by kernel_rfl
theorem IR (a b : Int) (H : AH) : aC Try.prog 100 [.int .i64 a, .int .i64 b] H fun r H' => r = .tup [.int .i64 (qQ a b).1, .int .i64 (qQ a b).2] ∧ H' = H := by
  refine aP MZ (by simp [LK]) ?_
  unfold LK
  by_cases h1 : b > 0
  · have h3 : ¬ b < 0 := by omega
    by_cases h2 : a > IntKind.i64.wrap (9223372036854775807 - b)
    · simp only [push_cast, ↓reduceIte, Nat.reduceEqDiff, reduceCtorEq, Nat.reduceAdd, Nat.reduceLT, Nat.reduceLeDiff, h1, h2, h3, decide_true, decide_false]
      simp [qQ, h1, h2, h3]
    · simp only [push_cast, ↓reduceIte, Nat.reduceEqDiff, reduceCtorEq, Nat.reduceAdd, Nat.reduceLT, Nat.reduceLeDiff, h1, h2, h3, decide_true, decide_false]
      simp [qQ, h1, h2, h3]
  · by_cases h3 : b < 0
    · by_cases h2 : a < IntKind.i64.wrap (-9223372036854775808 - b)
      · simp only [push_cast, ↓reduceIte, Nat.reduceEqDiff, reduceCtorEq, Nat.reduceAdd, Nat.reduceLT, Nat.reduceLeDiff, h1, h2, h3, decide_true, decide_false]
        simp [qQ, h1, h2, h3]
      · simp only [push_cast, ↓reduceIte, Nat.reduceEqDiff, reduceCtorEq, Nat.reduceAdd, Nat.reduceLT, Nat.reduceLeDiff, h1, h2, h3, decide_true, decide_false]
        simp [qQ, h1, h2, h3]
    · simp only [push_cast, ↓reduceIte, Nat.reduceEqDiff, reduceCtorEq, Nat.reduceAdd, Nat.reduceLT, Nat.reduceLeDiff, h1, h3, decide_true, decide_false]
      simp [qQ, h1, h3]
def jK (a b : Tm) : Tm := ⟨if b.f0 > a.f0 then b.f0 else a.f0, if b.f1 > a.f1 then b.f1 else a.f1⟩
def pJ (a b : Tm) : Tm := ⟨if b.f0 < a.f0 then b.f0 else a.f0, if b.f1 < a.f1 then b.f1 else a.f1⟩
def LL : AFn := ⟨16, 2, [.cell 4 true 2], (.seq (.ops [oo 2 (.box 2 (.t 0)), oo 3 (.box 2 (.t 1)), oo 4 (.alloc 2 (.agg [(.int .i64 0), (.int .i64 0)]))]) (.seq (.ops [oo 5 (.faddr 0 (.t 2)), oo 6 (.load false 1 (.t 5)), oo 7 (.faddr 0 (.t 3)), oo 8 (.load false 1 (.t 7)), oo 9 (.mx (.t 6) [(.t 8)]), oo 10 (.faddr 1 (.t 2)), oo 11 (.load false 1 (.t 10)), oo 12 (.faddr 1 (.t 3)), oo 13 (.load false 1 (.t 12)), oo 14 (.mx (.t 11) [(.t 13)]), oo 15 (.build [(.int .i64 0), (.int .i64 0)] [(0, 1, (.t 9)), (1, 1, (.t 14))]), on (.store 2 (.t 4) (.t 15))]) .ret))⟩
theorem NA : aD Try.prog 128 = some LL := by kernel_rfl
theorem CC (a b : Tm) (H : AH) : aC Try.prog 128 [bC a, bC b] H fun r H' => r = bC (jK a b) ∧ H' = H := by
  refine aI NA (fun _ => rfl) (by simp [LL]) ?_
  unfold LL bC jK
  simp only [push_cast, ↓reduceIte, Nat.reduceEqDiff, reduceCtorEq, Nat.reduceAdd, Nat.reduceLT, Nat.reduceLeDiff, aB, aA]
  (repeat (first | exact List.prefix_refl _ | refine List.IsPrefix.trans ?_ (List.prefix_append _ _)))
def LM : AFn := ⟨16, 2, [.cell 4 true 2], (.seq (.ops [oo 2 (.box 2 (.t 0)), oo 3 (.box 2 (.t 1)), oo 4 (.alloc 2 (.agg [(.int .i64 0), (.int .i64 0)]))]) (.seq (.ops [oo 5 (.faddr 0 (.t 2)), oo 6 (.load false 1 (.t 5)), oo 7 (.faddr 0 (.t 3)), oo 8 (.load false 1 (.t 7)), oo 9 (.mn (.t 6) [(.t 8)]), oo 10 (.faddr 1 (.t 2)), oo 11 (.load false 1 (.t 10)), oo 12 (.faddr 1 (.t 3)), oo 13 (.load false 1 (.t 12)), oo 14 (.mn (.t 11) [(.t 13)]), oo 15 (.build [(.int .i64 0), (.int .i64 0)] [(0, 1, (.t 9)), (1, 1, (.t 14))]), on (.store 2 (.t 4) (.t 15))]) .ret))⟩
theorem NB : aD Try.prog 129 = some LM := by kernel_rfl
theorem IU (a b : Tm) (H : AH) : aC Try.prog 129 [bC a, bC b] H fun r H' => r = bC (pJ a b) ∧ H' = H := by
  refine aI NB (fun _ => rfl) (by simp [LM]) ?_
  unfold LM bC pJ
  simp only [push_cast, ↓reduceIte, Nat.reduceEqDiff, reduceCtorEq, Nat.reduceAdd, Nat.reduceLT, Nat.reduceLeDiff, aB, aA]
  (repeat (first | exact List.prefix_refl _ | refine List.IsPrefix.trans ?_ (List.prefix_append _ _)))
def LN : AFn := ⟨9, 2, [.t 4], (.seq (.ops [oo 4 (.mov (.v (.bool false)))]) (.seq (.ops [oo 5 (.mov (.t 0)), oo 6 (.mov (.t 1)), oo 7 (.call 61 [(.t 5), (.t 6)]), oo 8 (.bin .eql (.t 7) (.v (.int .i64 0))), oo 4 (.mov (.t 8))]) .ret))⟩
theorem NC : aD Try.prog 102 = some LN := by kernel_rfl
theorem CD (x y : AV) (a b : List Val) (H : AH) (hx : elems 3 x H = some (a.map gA)) (hy : elems 3 y H = some (b.map gA)) (ha : a.length < 1099511627776) (hb : b.length < 1099511627776) : aC Try.prog 102 [x, y] H fun r H' => r = .bool (decide (fB a b = 0)) ∧ H' = H := by
  refine aI NC (fun _ => rfl) (by simp [LN]) ?_
  unfold LN
  simp only [push_cast, ↓reduceIte, Nat.reduceEqDiff, reduceCtorEq, Nat.reduceAdd, Nat.reduceLT, Nat.reduceLeDiff]
  (refine aC.look (fQ x y a b H hx hy ha hb) ?_; try simp only [push_cast, ↓reduceIte, Nat.reduceEqDiff, reduceCtorEq, Nat.reduceAdd, Nat.reduceLT, Nat.reduceLeDiff, aB, aA])
  (repeat (first | exact List.prefix_refl _ | refine List.IsPrefix.trans ?_ (List.prefix_append _ _)))
theorem wK {β : Type} {enc : β → AV} {n : Nat} (h : ∀ x, cl n (enc x) = true) (l : List β) : cls n (l.map enc) = true := kJ.2 fun x hx => by
  obtain ⟨y, _, rfl⟩ := List.mem_map.1 hx
  exact h y
theorem MI (n : Nat) (x : Val) : cl n (gA x) = true := by simp [gA, cl, cls]
theorem MJ (n : Nat) (x : Tm) : cl n (bC x) = true := by simp [bC, cl, cls]
theorem jW (n : Nat) (l : List Val) : cl n (rowA l) = true := by
  unfold rowA
  exact wK (MI n) l
theorem EJ (n : Nat) (u : Upd) : cl n (upA u) = true := by
  have := jW n u.f0
  simp [upA, cl, cls, this]
theorem dL (x : AV) (l : List Val) (H : AH) (hx : elems 3 x H = some (l.map gA)) (hl : l.length < 1099511627776) : aC Try.prog 87 [x] H fun r H' => r = rowA l ∧ H' = H :=
  sH (bytes := 32) (z := .agg [.int .i64 0, .int .i64 0, .str ⟨#[]⟩]) (by kernel_rfl) x (l.map gA) H hx (by rw [List.length_map]; omega) (fun n => wK (MI n) l)
def AA (l : List Val) (k : Int) : AV := if k < 0 ∨ k > l.length then .tup [rowA [], rowA [], .int .i64 9] else .tup [rowA (l.take k.toNat), rowA (l.drop k.toNat), .int .i64 0]
theorem mS {f : AF} {sz : Nat} {l : List AV} {x : X} {k : Nat} (h : ev f x = .int .i64 (k : Int)) (hk : k ≤ l.length) : dV f sz (.list sz l false) none (some x) none = some (.list sz (l.take k) false) := by
  simp [dV, gY, h, nat?, hk]
theorem iT {f : AF} {sz : Nat} {l : List AV} {x : X} {k : Nat} (h : ev f x = .int .i64 (k : Int)) (hk : k ≤ l.length) : dV f sz (.list sz l false) (some x) none none = some (.list sz (l.drop k) false) := by
  simp [dV, gY, h, nat?, hk]
theorem wL (H : AH) {sz sz' : Nat} {x : AV} : dB H (.tup [.nils, .nils, x]) H (.tup [.list sz [] false, .list sz' [] false, x]) :=
  (dB.tup (i := 0) (dB.nils H sz) (vs := [.nils, .nils, x]) rfl).trans (dB.tup (i := 1) (dB.nils H sz') (vs := [.list sz [] false, .nils, x]) rfl)
def LO : AFn := ⟨23, 2, [.t 4, .t 5, .t 6], (.seq (.ops [oo 4 (.mov (.v .nils)), oo 5 (.mov (.v .nils)), oo 6 (.mov (.v (.int .i64 0)))]) (.seq (.seq (.ops [oo 7 (.mov (.t 1)), oo 8 (.bin .lss (.t 7) (.v (.int .i64 0))), oo 9 (.mov (.t 8)), og 10 9 false (.mov (.t 1)), og 11 9 false (.mov (.t 0)), og 12 9 false (.len (.t 11)), og 13 9 false (.bin .gtr (.t 10) (.t 12)), oo 14 (.pick (.t 9) (.v (.bool true)) (.t 13))]) (.cond (.t 14) (.seq (.ops [oo 4 (.mov (.v .nils)), oo 5 (.mov (.v .nils)), oo 6 (.mov (.v (.int .i64 9)))]) .ret) .skip)) (.seq (.ops [oo 23 (.mov (.t 0)), oo 24 (.mov (.t 1)), oo 25 (.slice 3 (.t 23) none (some (.t 24)) none), oo 27 (.mov (.t 0)), oo 28 (.mov (.t 1)), oo 29 (.slice 3 (.t 27) (some (.t 28)) none none), oo 26 (.call 87 [(.t 25)]), oo 30 (.call 87 [(.t 29)]), oo 31 (.mov (.t 26)), oo 32 (.mov (.t 30)), oo 33 (.mov (.v (.int .i64 0))), oo 15 (.mov (.t 23)), oo 16 (.mov (.t 24)), oo 17 (.mov (.t 25)), oo 19 (.mov (.t 27)), oo 20 (.mov (.t 28)), oo 21 (.mov (.t 29)), oo 18 (.mov (.t 26)), oo 22 (.mov (.t 30)), oo 4 (.mov (.t 31)), oo 5 (.mov (.t 32)), oo 6 (.mov (.t 33))]) .ret)))⟩
theorem ND : aD Try.prog 101 = some LO := by kernel_rfl
theorem LP (l : List Val) (k : Int) (H : AH) (hl : l.length < 1099511627776) : aC Try.prog 101 [rowA l, .int .i64 k] H fun r H' => r = AA l k ∧ H' = H := by
  refine cE ND (v := AA l k) (fun n => ?_) (by simp [LO]) ?_
  · unfold AA
    split <;> simp [cl, cls, jW]
  unfold LO
  have hl2 : dI (rowA l) = some l.length := by simp [rowA, dI]
  by_cases h1 : k < 0
  · simp only [push_cast, ↓reduceIte, Nat.reduceEqDiff, reduceCtorEq, Nat.reduceAdd, Nat.reduceLT, Nat.reduceLeDiff, h1, decide_true]
    exact ⟨H, by rw [AA, if_pos (.inl h1)]; exact wL H, List.prefix_refl _⟩
  · by_cases h2 : k > l.length
    · simp only [push_cast, ↓reduceIte, Nat.reduceEqDiff, reduceCtorEq, Nat.reduceAdd, Nat.reduceLT, Nat.reduceLeDiff, h1, h2, hl2, decide_true, decide_false]
      exact ⟨H, by rw [AA, if_pos (.inr h2)]; exact wL H, List.prefix_refl _⟩
    · obtain ⟨j, rfl⟩ : ∃ j : Nat, k = j := ⟨k.toNat, by omega⟩
      have e : AA l j = .tup [rowA (l.take j), rowA (l.drop j), .int .i64 0] := by
        rw [AA, if_neg (by omega)]
        rfl
      rw [e]
      simp only [push_cast, ↓reduceIte, Nat.reduceEqDiff, reduceCtorEq, Nat.reduceAdd, Nat.reduceLT, Nat.reduceLeDiff, h1, h2, hl2, decide_true, decide_false]
      unfold rowA
      rw [mS (k := j) (by rfl) (by rw [List.length_map]; omega)]
      simp only [push_cast, ↓reduceIte, Nat.reduceEqDiff, reduceCtorEq, Nat.reduceAdd, Nat.reduceLT, Nat.reduceLeDiff, ]
      rw [iT (k := j) (by rfl) (by rw [List.length_map]; omega)]
      simp only [push_cast, ↓reduceIte, Nat.reduceEqDiff, reduceCtorEq, Nat.reduceAdd, Nat.reduceLT, Nat.reduceLeDiff, ← List.map_take, ← List.map_drop]
      (refine aC.look (dL _ (l.take j) _ (by simp [elems]) (by simp only [List.length_take]; omega)) ?_; try simp only [push_cast, ↓reduceIte, Nat.reduceEqDiff, reduceCtorEq, Nat.reduceAdd, Nat.reduceLT, Nat.reduceLeDiff, aB, aA])
      (refine aC.look (dL _ (l.drop j) _ (by simp [elems]) (by simp only [List.length_drop]; omega)) ?_; try simp only [push_cast, ↓reduceIte, Nat.reduceEqDiff, reduceCtorEq, Nat.reduceAdd, Nat.reduceLT, Nat.reduceLeDiff, aB, aA])
      exact ⟨_, dB.refl _ _, by (repeat (first | exact List.prefix_refl _ | refine List.IsPrefix.trans ?_ (List.prefix_append _ _)))⟩
end Go.Eng
end
section
set_option linter.unusedSimpArgs false
set_option linter.unusedVariables false
namespace Go.Eng
open Go Go.Proofs
def dG : List Tm → Tm → Bool
  | [], _ => false
  | p :: r, t => if p.f0 > t.f0 then false else if p.f1 ≤ t.f1 then true else dG r t
def jX (l : List Tm) : AV := .list 2 (l.map bC) false
def LQ : AFn := ⟨24, 2, [.t 4], (.seq (.ops [oo 3 (.box 2 (.t 1)), oo 4 (.mov (.v (.bool false)))]) (.seq (.seq (.ops [oo 7 (.mov (.t 0)), oo 8 (.len (.t 7)), oo 9 (.mov (.v (.int .i64 0)))]) (.block 0 (.loop (.seq (.ops [oo 10 (.bin .lss (.t 9) (.t 8))]) (.seq (.cond (.t 10) .skip (.exit 0)) (.seq (.block 1 (.seq (.ops [oo 11 (.iaddr 2 (.t 7) (.t 9)), oo 12 (.load true 2 (.t 11)), oo 6 (.alloc 2 (.agg [(.int .i64 0), (.int .i64 0)])), on (.store 2 (.t 6) (.t 12))]) (.seq (.seq (.ops [oo 13 (.faddr 0 (.t 6)), oo 14 (.load false 1 (.t 13)), oo 15 (.faddr 0 (.t 3)), oo 16 (.load false 1 (.t 15)), oo 17 (.bin .gtr (.t 14) (.t 16))]) (.cond (.t 17) (.seq (.ops [oo 4 (.mov (.v (.bool false)))]) .ret) .skip)) (.seq (.ops [oo 18 (.faddr 1 (.t 6)), oo 19 (.load false 1 (.t 18)), oo 20 (.faddr 1 (.t 3)), oo 21 (.load false 1 (.t 20)), oo 22 (.bin .leq (.t 19) (.t 21))]) (.cond (.t 22) (.seq (.ops [oo 4 (.mov (.v (.bool true)))]) .ret) .skip))))) (.ops [oo 23 (.bin .add (.t 9) (.v (.int .i64 1))), oo 9 (.mov (.t 23))]))))))) (.seq (.ops [oo 4 (.mov (.v (.bool false)))]) .ret)))⟩
theorem NE : aD Try.prog 105 = some LQ := by kernel_rfl
theorem wM (x : AV) (l : List Tm) (t : Tm) (H : AH) (hx : elems 2 x H = some (l.map bC)) (hl : l.length < 1099511627776) : aC Try.prog 105 [x, bC t] H fun r H' => r = .bool (dG l t) ∧ H' = H := by
  refine aI NE (fun _ => rfl) (by simp [LQ]) ?_
  unfold LQ
  have hlx := aS hx
  simp only [push_cast, ↓reduceIte, Nat.reduceEqDiff, reduceCtorEq, Nat.reduceAdd, Nat.reduceLT, Nat.reduceLeDiff, aB, aA, hlx, bC]
  refine aJ (fun (i : Nat) f H' => (H ++ [aM.live 2 [.agg [.int .i64 t.f0, .int .i64 t.f1]]]) <+: H' ∧ i ≤ l.length ∧ f 9 = .int .i64 i ∧ f 7 = x ∧ f 8 = .int .i64 l.length ∧ f 3 = .ptr H.length 0 0 ∧ dG l t = dG (l.drop i) t) (fun i => l.length - i) 0 ?_ ?_
  · simp [uD]
  · rintro i f H' ⟨hp, h1, e9, e7, e8, e3, ho⟩
    have hb : obj? H' H.length = some (2, [.agg [.int .i64 t.f0, .int .i64 t.f1]]) := bO hp (bA _ _ _)
    have hlt := bJ hb
    have hp0 : H <+: H' := (List.prefix_append _ _).trans hp
    by_cases hi : i < l.length
    · have hi' : (i : Int) < l.length := by omega
      have ax : aF 2 x (.int .i64 (i : Int)) = some (ptk x i 0) := aN hx (by simpa using hi) _
      have lx : (l.map bC)[i]? = some (bC l[i]) := by simp [hi]
      have hd : dG l t = dG (l[i] :: l.drop (i + 1)) t := by rw [ho, List.drop_eq_getElem_cons hi]
      simp only [push_cast, ↓reduceIte, Nat.reduceEqDiff, reduceCtorEq, Nat.reduceAdd, Nat.reduceLT, Nat.reduceLeDiff, aB, aA, e9, e7, e8, e3, hlx, List.length_map, hi', ax, aU hx lx, aR, hp0, bC, hb, hlt]
      refine lS (fun h2 => ?_) fun h2 => lS (fun h3 => ?_) fun h3 => ⟨i + 1, ⟨by (repeat (first | exact List.prefix_refl _ | refine List.IsPrefix.trans ?_ (List.prefix_append _ _))); exact hp, hi, ?_, ?_⟩, by omega⟩
      · rw [hd, dG, if_pos h2]
      · rw [hd, dG, if_neg h2, if_pos h3]
      · rw [aG (by omega) (by omega)]; simp
      · rw [hd, dG, if_neg h2, if_neg h3]
    · have hi' : ¬ (i : Int) < l.length := by omega
      simp only [push_cast, ↓reduceIte, Nat.reduceEqDiff, reduceCtorEq, Nat.reduceAdd, Nat.reduceLT, Nat.reduceLeDiff, e9, e7, e8, hlx, List.length_map, hi', hp0]
      rw [ho, List.drop_eq_nil_of_le (by omega : l.length ≤ i), dG]
def JS : List Tm → Tm → Tm
  | [], _ => ⟨0, 0⟩
  | p :: r, t => r.foldl (fun b q => pJ b (jK t q)) (jK t p)
def F96 : AFn := ⟨31, 2, [.cell 4 true 2], (.seq (.ops [oo 3 (.box 2 (.t 1)), oo 4 (.alloc 2 (.agg [(.int .i64 0), (.int .i64 0)]))]) (.seq (.seq (.ops [oo 8 (.mov (.t 0)), oo 9 (.len (.t 8)), oo 10 (.bin .eql (.t 9) (.v (.int .i64 0)))]) (.cond (.t 10) (.seq (.ops [oo 11 (.build [(.int .i64 0), (.int .i64 0)] []), on (.store 2 (.t 4) (.t 11))]) .ret) .skip)) (.seq (.ops [oo 31 (.load true 2 (.t 3)), oo 32 (.mov (.t 0)), oo 33 (.iaddr 2 (.t 32) (.v (.int .i64 0))), oo 34 (.load true 2 (.t 33)), oo 36 (.alloc 2 (.agg [(.int .i64 0), (.int .i64 0)])), oo 35 (.call 128 [(.t 31), (.t 34)]), oo 37 (.store 2 (.t 36) (.t 35)), oo 12 (.mov (.t 31)), oo 13 (.mov (.t 32)), oo 14 (.mov (.t 33)), oo 15 (.mov (.t 34)), oo 5 (.mov (.t 36)), oo 16 (.mov (.t 35))]) (.seq (.seq (.ops [oo 17 (.mov (.t 0)), oo 18 (.slice 2 (.t 17) (some (.v (.int .i64 1))) none none), oo 19 (.len (.t 18)), oo 20 (.mov (.v (.int .i64 0)))]) (.block 0 (.loop (.seq (.ops [oo 21 (.bin .lss (.t 20) (.t 19))]) (.seq (.cond (.t 21) .skip (.exit 0)) (.seq (.block 1 (.seq (.ops [oo 22 (.iaddr 2 (.t 18) (.t 20)), oo 23 (.load true 2 (.t 22)), oo 7 (.alloc 2 (.agg [(.int .i64 0), (.int .i64 0)])), on (.store 2 (.t 7) (.t 23))]) (.ops [oo 31 (.load true 2 (.t 5)), oo 32 (.load true 2 (.t 3)), oo 33 (.load true 2 (.t 7)), oq 34 (.call 128 [(.t 32), (.t 33)]), oo 35 (.call 129 [(.t 31), (.t 34)]), oo 36 (.store 2 (.t 5) (.t 35)), oo 24 (.mov (.t 31)), oo 25 (.mov (.t 32)), oo 26 (.mov (.t 33)), oo 27 (.mov (.t 34)), oo 28 (.mov (.t 35))]))) (.ops [oo 29 (.bin .add (.t 20) (.v (.int .i64 1))), oo 20 (.mov (.t 29))]))))))) (.seq (.ops [oo 30 (.load true 2 (.t 5)), on (.store 2 (.t 4) (.t 30))]) .ret)))))⟩
theorem c96 : aD Try.prog 96 = some F96 := by kernel_rfl
theorem LR (l : List Tm) (t : Tm) (H : AH) (hl : l.length < 1099511627776) : aC Try.prog 96 [jX l, bC t] H fun r H' => r = bC (JS l t) ∧ H' = H := by
  refine aI c96 (fun _ => rfl) (by simp [F96]) ?_
  unfold F96
  have hlx : dI (jX l) = some l.length := by simp [jX, dI]
  cases l with
  | nil =>
    simp only [push_cast, ↓reduceIte, Nat.reduceEqDiff, reduceCtorEq, Nat.reduceAdd, Nat.reduceLT, Nat.reduceLeDiff, aB, aA, hlx, bC, List.length_nil]
    exact ⟨by (repeat (first | exact List.prefix_refl _ | refine List.IsPrefix.trans ?_ (List.prefix_append _ _))), rfl⟩
  | cons p l =>
    have hz : ¬ (((p :: l).length : Nat) : Int) = 0 := by rw [List.length_cons]; omega
    have ax0 : aF 2 (jX (p :: l)) (.int .i64 0) = some (.lptr 2 ((p :: l).map bC) 0 0) := by simp [jX, aF, nat?]
    have lx : ((p :: l).map bC)[0]? = some (bC p) := rfl
    have hl' : l.length < 1099511627775 := by rw [List.length_cons] at hl; omega
    generalize hm : (p :: l).length = m at hz hlx
    simp only [push_cast, ↓reduceIte, Nat.reduceEqDiff, reduceCtorEq, Nat.reduceAdd, Nat.reduceLT, Nat.reduceLeDiff, aB, aA, hlx, bC, hz, ax0, lx]
    (refine aC.look (CC t p _) ?_; simp only [push_cast, ↓reduceIte, Nat.reduceEqDiff, reduceCtorEq, Nat.reduceAdd, Nat.reduceLT, Nat.reduceLeDiff, aB, aA, bC, hlx])
    rw [jX, iT (k := 1) (by rfl) (by simp)]
    simp only [List.map_cons, List.drop_succ_cons, List.drop_zero]
    simp only [push_cast, ↓reduceIte, Nat.reduceEqDiff, reduceCtorEq, Nat.reduceAdd, Nat.reduceLT, Nat.reduceLeDiff, aB, aA, bC, List.length_map]
    refine aJ (fun (s : Nat × Tm) f H' => (H ++ [aM.live 2 [.agg [.int .i64 t.f0, .int .i64 t.f1]]]) <+: H' ∧ s.1 ≤ l.length ∧ f 20 = .int .i64 s.1 ∧ f 18 = .list 2 (l.map bC) false ∧ f 19 = .int .i64 l.length ∧ f 3 = .ptr H.length 0 0 ∧ f 4 = .ptr (H.length + 1) 0 0 ∧ f 5 = .ptr (H.length + 1 + 1) 0 0 ∧ obj? H' (H.length + 1) = some (2, [.agg [.int .i64 0, .int .i64 0]]) ∧ obj? H' (H.length + 1 + 1) = some (2, [.agg [.int .i64 s.2.f0, .int .i64 s.2.f1]]) ∧ JS (p :: l) t = (l.drop s.1).foldl (fun b q => pJ b (jK t q)) s.2) (fun s => l.length - s.1) (0, jK t p) ?_ ?_
    · exact ⟨by (repeat (first | exact List.prefix_refl _ | refine List.IsPrefix.trans ?_ (List.prefix_append _ _))), Nat.zero_le _, rfl, rfl, rfl, rfl, rfl, rfl, (kL (by simp)).trans (kK (by simp)), kK (by simp), rfl⟩
    · rintro ⟨i, b⟩ f H' ⟨hp, h1, e20, e18, e19, e3, e4, e5, o4, o5, ho⟩
      dsimp only at h1 e20 o5 ho
      have hb : obj? H' H.length = some (2, [.agg [.int .i64 t.f0, .int .i64 t.f1]]) := bO hp (bA _ _ _)
      have hlt := bJ hb
      have hlt4 := bJ o4
      have hlt5 := bJ o5
      have hp0 : H <+: H' := (List.prefix_append _ _).trans hp
      by_cases hi : i < l.length
      · have hi' : (i : Int) < l.length := by omega
        have ax : aF 2 (.list 2 (l.map bC) false) (.int .i64 (i : Int)) = some (.lptr 2 (l.map bC) i 0) := by simp [aF, nat?, hi]
        have lx : (l.map bC)[i]? = some (bC l[i]) := by simp [hi]
        simp only [push_cast, ↓reduceIte, Nat.reduceEqDiff, reduceCtorEq, Nat.reduceAdd, Nat.reduceLT, Nat.reduceLeDiff, aB, aA, e20, e18, e19, e3, e4, e5, hi', ax, lx, bC, hb, hlt, o5, hlt5]
        (refine aC.look (CC t l[i] _) ?_; simp only [push_cast, ↓reduceIte, Nat.reduceEqDiff, reduceCtorEq, Nat.reduceAdd, Nat.reduceLT, Nat.reduceLeDiff, aB, aA, bC, e5, hlt5, o5])
        (refine aC.look (IU b (jK t l[i]) _) ?_; simp only [push_cast, ↓reduceIte, Nat.reduceEqDiff, reduceCtorEq, Nat.reduceAdd, Nat.reduceLT, Nat.reduceLeDiff, aB, aA, bC, e5, hlt5, o5, e20, e18, e19, e3, e4])
        have hd : JS (p :: l) t = (l.drop (i + 1)).foldl (fun b q => pJ b (jK t q)) (pJ b (jK t l[i])) := by rw [ho, List.drop_eq_getElem_cons hi]; rfl
        refine ⟨(i + 1, pJ b (jK t l[i])), ⟨?_, hi, ?_, ?_, ?_, hd⟩, by dsimp only; omega⟩
        · exact aR (cP hp (by simp) _)
        · dsimp only; rw [aG (by omega) (by omega)]; simp
        · rw [kL (by simpa using hlt4), bK (by omega)]; exact o4
        · rw [kL (by simpa using hlt5), dF hlt5]
      · have hi' : ¬ (i : Int) < l.length := by omega
        simp only [push_cast, ↓reduceIte, Nat.reduceEqDiff, reduceCtorEq, Nat.reduceAdd, Nat.reduceLT, Nat.reduceLeDiff, aB, aA, e20, e18, e19, e3, e4, e5, hi', bC, hb, hlt, o5, hlt5, o4, hlt4, dF hlt4]
        rw [List.drop_eq_nil_of_le (by omega : l.length ≤ i)] at ho
        rw [ho]
        exact ⟨cP hp0 (by omega) _, rfl⟩
end Go.Eng
end
section
set_option linter.unusedSimpArgs false
set_option linter.unusedVariables false
set_option maxRecDepth 10000
namespace Go.Eng
open Go Go.Sort
theorem wN {P : Program} {n : FuncId} {sz : Nat} {ag : Bool} (hc : aD P n = some (BU sz ag)) (x k : AV) (H : AH) : aC P n [x, .int .i64 0, .int .i64 0, k] H fun _ H' => H' = H := by
  refine aP hc (by simp [BU]) ?_
  unfold BU
  have w1 : IntKind.i64.wrap 1 = 1 := by decide
  have c1 : ¬ (1 : Int) < 0 := by decide
  simp only [push_cast, ↓reduceIte, Nat.reduceEqDiff, reduceCtorEq, Nat.reduceAdd, Nat.reduceLT, Nat.reduceLeDiff, w1]
  refine aJ (fun (s : Unit) f H' => H' = H ∧ f 2 = .int .i64 0 ∧ f 8 = .int .i64 1) (fun _ => 0) () ⟨rfl, rfl, rfl⟩ ?_
  rintro ⟨⟩ f H' ⟨rfl, e2, e8⟩
  simp only [push_cast, ↓reduceIte, Nat.reduceEqDiff, reduceCtorEq, Nat.reduceAdd, Nat.reduceLT, Nat.reduceLeDiff, e2, e8, c1]
theorem EK {P : Program} {sz : Nat} {ag : Bool} {ki kh kb kc kr kp ke kq kz kl : FuncId} (D : Pdq P sz ag ki kh kb kc kr kp ke kq kz kl) (x k : AV) (z : Int) (H : AH) : aC P kz [x, .int .i64 0, .int .i64 0, .int .i64 z, k] H fun _ H' => H' = H := by
  refine aP D.pdq (by simp [IJ]) ?_
  unfold IJ pD
  have w1 : IntKind.i64.wrap 0 = 0 := by decide
  have c1 : (0 : Int) ≤ 12 := by decide
  simp only [push_cast, ↓reduceIte, Nat.reduceEqDiff, reduceCtorEq, Nat.reduceAdd, Nat.reduceLT, Nat.reduceLeDiff]
  refine aJ (fun (s : Unit) f H' => H' = H ∧ f 0 = x ∧ f 1 = .int .i64 0 ∧ f 2 = .int .i64 0 ∧ f 4 = k) (fun _ => 0) () ⟨rfl, rfl, rfl, rfl, rfl⟩ ?_
  rintro ⟨⟩ f H' ⟨rfl, e0, e1, e2, e4⟩
  simp only [push_cast, ↓reduceIte, Nat.reduceEqDiff, reduceCtorEq, Nat.reduceAdd, Nat.reduceLT, Nat.reduceLeDiff, e0, e1, e2, e4, w1, c1, Int.sub_self, decide_true]
  refine (wN D.ins x k _).mono fun r H' e => ?_
  subst e
  simp only [push_cast, ↓reduceIte, Nat.reduceEqDiff, reduceCtorEq, Nat.reduceAdd, Nat.reduceLT, Nat.reduceLeDiff]
theorem wP {P : Program} {n : FuncId} {sz : Nat} {ag : Bool} {ki kh kb kc kr kp ke kq kz kl : FuncId} (hc : aD P n = some (iP sz ag kz kl)) (D : Pdq P sz ag ki kh kb kc kr kp ke kq kz kl) (x k : AV) (H : AH) (hx : dI x = some 0) : aC P n [x, k] H fun _ H' => H' = H := by
  refine aP hc (by simp [iP]) ?_
  unfold iP
  obtain ⟨k4, k8, l1, l2⟩ := D.len
  have w1 : IntKind.u64.wrap 0 = 0 := by decide
  simp only [push_cast, ↓reduceIte, Nat.reduceEqDiff, reduceCtorEq, Nat.reduceAdd, Nat.reduceLT, Nat.reduceLeDiff, hx, w1]
  have h := lC l1 l2 0 (by omega) H
  refine aC.look h ?_
  simp only [push_cast, ↓reduceIte, Nat.reduceEqDiff, reduceCtorEq, Nat.reduceAdd, Nat.reduceLT, Nat.reduceLeDiff, w1]
  refine (EK D x k _ _).mono fun r H' e => ?_
  subst e
  simp only [push_cast, ↓reduceIte, Nat.reduceEqDiff, reduceCtorEq, Nat.reduceAdd, Nat.reduceLT, Nat.reduceLeDiff]
theorem EL {P : Program} {n : FuncId} {sz : Nat} {ag : Bool} {ki kr kw kz : FuncId} (hc : aD P n = some (BZ sz ag ki kz)) (D : Sta P sz ag ki kr kw kz) (x k : AV) (H : AH) : aC P n [x, .int .i64 0, k] H fun _ H' => H' = H := by
  refine aP hc (by simp [BZ]) ?_
  unfold BZ lH
  have c1 : ¬ (20 : Int) ≤ 0 := by decide
  simp only [push_cast, ↓reduceIte, Nat.reduceEqDiff, reduceCtorEq, Nat.reduceAdd, Nat.reduceLT, Nat.reduceLeDiff]
  refine aJ (fun (s : Unit) f H' => H' = H ∧ f 0 = x ∧ f 1 = .int .i64 0 ∧ f 2 = k ∧ f 6 = .int .i64 20 ∧ f 7 = .int .i64 0 ∧ f 8 = .int .i64 20) (fun _ => 0) () ⟨rfl, rfl, rfl, rfl, rfl, rfl, rfl⟩ ?_
  rintro ⟨⟩ f H' ⟨rfl, e0, e1, e2, e6, e7, e8⟩
  simp only [push_cast, ↓reduceIte, Nat.reduceEqDiff, reduceCtorEq, Nat.reduceAdd, Nat.reduceLT, Nat.reduceLeDiff, e0, e1, e2, e6, e7, e8, c1]
  refine (wN D.ins x k _).mono fun r H' e => ?_
  subst e
  unfold pG
  simp only [push_cast, ↓reduceIte, Nat.reduceEqDiff, reduceCtorEq, Nat.reduceAdd, Nat.reduceLT, Nat.reduceLeDiff, e0, e1, e2, e6]
  refine aJ (fun (s : Unit) f H2 => H2 = H' ∧ f 1 = .int .i64 0 ∧ f 6 = .int .i64 20) (fun _ => 0) () ?_ ?_
  · simp only [push_cast, ↓reduceIte, Nat.reduceEqDiff, reduceCtorEq, Nat.reduceAdd, Nat.reduceLT, Nat.reduceLeDiff, e1, e6]
  rintro ⟨⟩ f H2 ⟨rfl, e1, e6⟩
  have c2 : ¬ (20 : Int) < 0 := by decide
  simp only [push_cast, ↓reduceIte, Nat.reduceEqDiff, reduceCtorEq, Nat.reduceAdd, Nat.reduceLT, Nat.reduceLeDiff, e1, e6, c2]
theorem EM {P : Program} {n kt : FuncId} {sz : Nat} {ag : Bool} {ki kr kw kz : FuncId} (hc : aD P n = some (FT sz ag kt)) (ht : aD P kt = some (BZ sz ag ki kz)) (D : Sta P sz ag ki kr kw kz) (x k : AV) (H : AH) (hx : dI x = some 0) : aC P n [x, k] H fun _ H' => H' = H := by
  refine aP hc (by simp [FT]) ?_
  unfold FT
  simp only [push_cast, ↓reduceIte, Nat.reduceEqDiff, reduceCtorEq, Nat.reduceAdd, Nat.reduceLT, Nat.reduceLeDiff, hx]
  refine (EL ht D x k _).mono fun r H' e => ?_
  subst e
  simp only [push_cast, ↓reduceIte, Nat.reduceEqDiff, reduceCtorEq, Nat.reduceAdd, Nat.reduceLT, Nat.reduceLeDiff]
end Go.Eng
end
section
set_option linter.unusedSimpArgs false
set_option linter.unusedVariables false
set_option maxRecDepth 10000
namespace Go.Eng
open Go Go.Proofs
theorem dM {H0 H : AH} {sz : Nat} {v : AV} {l : List AV} (h : Own H0 H sz v l) : elems sz v H = some l := by
  rcases h with ⟨rfl, rfl⟩ | ⟨t, ex, _, rfl, ho⟩
  · rfl
  · simp [elems, ho]
theorem AB {H0 H : AH} {r : AV} {l : List Tm} (h : Own H0 H 2 r (l.map bC)) (hp : H0 <+: H) (hs : l.length < 1099511627776) :
    aC Try.prog 103 [r, .fn 104 [] []] H fun _ H' => Own H0 H' 2 r ((Stab.sortS jV l).map bC) ∧ H0 <+: H' := by
  have hlen := Stab.sortS_len EG l
  rcases h with ⟨rfl, e⟩ | ⟨t, ex, ht, rfl, ho⟩
  · have : l = [] := by simpa using e
    subst this
    exact (wP (by kernel_rfl) MG .nils _ H rfl).mono fun _ H' e => by rw [e]; exact ⟨.inl ⟨rfl, rfl⟩, hp⟩
  · have hlt := bJ ho
    rw [List.length_map]
    refine (IP ho hs).mono fun _ H' ⟨J, e⟩ => ?_
    subst e
    refine ⟨.inr ⟨t, ex, ht, by rw [List.length_map, hlen], bO (List.prefix_append _ _) (dF hlt)⟩, aR (cP hp ht _)⟩
theorem AD {H0 H : AH} {r : AV} {l : List Upd} (h : Own H0 H 4 r (l.map upA)) (hp : H0 <+: H) (hs : l.length < 1099511627776) (hl : cN l) :
    aC Try.prog 132 [r, .fn 99 [] []] H fun _ H' => Own H0 H' 4 r ((Stab.sortS fR l).map upA) ∧ H0 <+: H' := by
  have hlen := Stab.sortS_len EH l
  rcases h with ⟨rfl, e⟩ | ⟨t, ex, ht, rfl, ho⟩
  · have : l = [] := by simpa using e
    subst this
    exact (EM (n := 132) (kt := 148) (by kernel_rfl) (by kernel_rfl) MH .nils _ H rfl).mono fun _ H' e => by rw [e]; exact ⟨.inl ⟨rfl, rfl⟩, hp⟩
  · have hlt := bJ ho
    rw [List.length_map]
    refine (IQ hl ho hs).mono fun _ H' e => ?_
    subst e
    exact ⟨.inr ⟨t, ex, ht, by rw [List.length_map, hlen], dF hlt⟩, cP hp ht _⟩
theorem wT (x : AV) (l : List Tm) (H : AH) (hx : elems 2 x H = some (l.map bC)) (hl : l.length < 1099511627776) : aC Try.prog 65 [x] H fun r H' => Own H H' 2 r (l.map bC) ∧ H <+: H' :=
  gB (bytes := 16) (z := .agg [.int .i64 0, .int .i64 0]) (by kernel_rfl) x (l.map bC) H hx (by rw [List.length_map]; omega)
theorem EN (x : AV) (l : List Upd) (H : AH) (hx : elems 4 x H = some (l.map upA)) (hl : l.length < 1099511627776) : aC Try.prog 131 [x] H fun r H' => Own H H' 4 r (l.map upA) ∧ H <+: H' :=
  gB (bytes := 48) (z := .agg [.nils, .int .i64 0, .int .i64 0, .int .i64 0]) (by kernel_rfl) x (l.map upA) H hx (by rw [List.length_map]; omega)
theorem dN {H : AH} {sz t : Nat} {e : AV} {ex : Bool} (h : t = H.length) : elems sz (.ref sz t 0 1 1 ex) (H ++ [.live sz [e]]) = some [e] := by
  simp only [elems, kK h, Option.bind_some]
  simp
def AG (l : List Tm) : List Tm := (Stab.sortS jV l).foldl (fun out t => if dG out t = true then out else out ++ [t]) []
def F67 : AFn := ⟨29, 1, [.t 2], (.seq (.ops [oo 2 (.mov (.v .nils))]) (.seq (.ops [oo 3 (.mov (.v .nils))]) (.seq (.ops [oo 7 (.mov (.t 0)), oo 8 (.call 65 [(.t 7)]), oo 0 (.mov (.t 8))]) (.seq (.ops [oo 9 (.mov (.t 0)), oo 10 (.call 103 [(.t 9), (.v (.fn 104 [] []))])]) (.seq (.seq (.ops [oo 11 (.mov (.t 0)), oo 12 (.len (.t 11)), oo 13 (.mov (.v (.int .i64 0)))]) (.block 0 (.loop (.seq (.ops [oo 14 (.bin .lss (.t 13) (.t 12))]) (.seq (.cond (.t 14) .skip (.exit 0)) (.seq (.block 1 (.seq (.ops [oo 15 (.iaddr 2 (.t 11) (.t 13)), oo 16 (.load true 2 (.t 15)), oo 5 (.alloc 2 (.agg [(.int .i64 0), (.int .i64 0)])), on (.store 2 (.t 5) (.t 16))]) (.seq (.ops [oo 17 (.mov (.t 3)), oo 18 (.mkf 105 [(.t 17)] []), oo 6 (.mov (.t 18))]) (.seq (.ops [oo 19 (.mov (.t 6)), oo 20 (.load true 2 (.t 5)), oo 21 (.callv (.t 19) [(.t 20)]), oo 22 (.un .not (.t 21))]) (.cond (.t 22) (.ops [oo 23 (.mov (.t 3)), oo 24 (.load true 2 (.t 5)), oo 25 (.bsl 2 1 (.agg [(.int .i64 0), (.int .i64 0)]) [(0, (.t 24))]), oo 26 (.app 2 16 (.t 23) (.t 25)), oo 3 (.mov (.t 26))]) .skip))))) (.ops [oo 27 (.bin .add (.t 13) (.v (.int .i64 1))), oo 13 (.mov (.t 27))]))))))) (.seq (.ops [oo 28 (.mov (.t 3)), oo 2 (.mov (.t 28))]) .ret))))))⟩
theorem c67 : aD Try.prog 67 = some F67 := by kernel_rfl
theorem LS (x : AV) (l : List Tm) (H : AH) (hx : elems 2 x H = some (l.map bC)) (hl : l.length < 1099511627776) : aC Try.prog 67 [x] H fun r H' => r = jX (AG l) ∧ H' = H := by
  refine cE c67 (v := jX (AG l)) (fun n => wK (MJ n) _) (by simp [F67]) ?_
  unfold F67
  have hlen := Stab.sortS_len EG l
  simp only [push_cast, ↓reduceIte, Nat.reduceEqDiff, reduceCtorEq, Nat.reduceAdd, Nat.reduceLT, Nat.reduceLeDiff]
  refine (wT x l H hx hl).mono fun r H1 ⟨h1, p1⟩ => ?_
  simp only [push_cast, ↓reduceIte, Nat.reduceEqDiff, reduceCtorEq, Nat.reduceAdd, Nat.reduceLT, Nat.reduceLeDiff]
  refine (AB h1 p1 hl).mono fun _ H2 ⟨h2, p2⟩ => ?_
  have hr := aS (dM h2)
  have he := dM h2
  unfold AG
  generalize Stab.sortS jV l = S at hr he hlen
  generalize l.length = n at hl hlen
  simp only [push_cast, ↓reduceIte, Nat.reduceEqDiff, reduceCtorEq, Nat.reduceAdd, Nat.reduceLT, Nat.reduceLeDiff, hr, List.length_map, hlen]
  refine aJ (fun (s : Nat × List Tm) f H' => H2 <+: H' ∧ s.1 ≤ n ∧ f 13 = .int .i64 s.1 ∧ f 11 = r ∧ f 12 = .int .i64 n ∧ Own H2 H' 2 (f 3) (s.2.map bC) ∧ s.2.length ≤ s.1 ∧ S.foldl (fun out t => if dG out t = true then out else out ++ [t]) [] = (S.drop s.1).foldl (fun out t => if dG out t = true then out else out ++ [t]) s.2) (fun s => n - s.1) (0, []) ?_ ?_
  · exact ⟨List.prefix_refl _, Nat.zero_le _, rfl, rfl, rfl, .inl ⟨rfl, rfl⟩, Nat.le_refl _, rfl⟩
  · rintro ⟨i, out⟩ f H' ⟨hp, h1, e13, e11, e12, ho, hlo, hd⟩
    dsimp only at h1 e13 ho hlo hd
    generalize hv : f 3 = v at ho
    by_cases hi : i < n
    · have hi' : (i : Int) < n := by omega
      have hi2 : i < S.length := by omega
      have ax : aF 2 r (.int .i64 (i : Int)) = some (ptk r i 0) := aN he (by rw [List.length_map]; exact hi2) _
      have lx : (S.map bC)[i]? = some (bC S[i]) := by simp [hi2]
      rw [List.drop_eq_getElem_cons hi2, List.foldl_cons] at hd
      by_cases ha : dG out S[i] = true
      · rw [if_pos ha] at hd
        simp only [push_cast, ↓reduceIte, Nat.reduceEqDiff, reduceCtorEq, Nat.reduceAdd, Nat.reduceLT, Nat.reduceLeDiff, aB, aA, e13, e11, e12, hi', ax, aU he lx, aR, hp, bC, hv]
        (refine aC.look (wM v out S[i] _ (bB (dM ho) (List.prefix_append _ _)) (by omega)) ?_; simp only [push_cast, ↓reduceIte, Nat.reduceEqDiff, reduceCtorEq, Nat.reduceAdd, Nat.reduceLT, Nat.reduceLeDiff, aB, aA, ha, e13, e11, e12, hv])
        refine ⟨(i + 1, out), ⟨aR hp, hi, ?_, ho.mono, by dsimp only; omega, hd⟩, by dsimp only; omega⟩
        dsimp only; rw [aG (by omega) (by omega)]; simp
      · rw [if_neg ha] at hd
        rw [Bool.not_eq_true] at ha
        simp only [push_cast, ↓reduceIte, Nat.reduceEqDiff, reduceCtorEq, Nat.reduceAdd, Nat.reduceLT, Nat.reduceLeDiff, aB, aA, e13, e11, e12, hi', ax, aU he lx, aR, hp, bC, hv]
        (refine aC.look (wM v out S[i] _ (bB (dM ho) (List.prefix_append _ _)) (by omega)) ?_; simp only [push_cast, ↓reduceIte, Nat.reduceEqDiff, reduceCtorEq, Nat.reduceAdd, Nat.reduceLT, Nat.reduceLeDiff, aB, aA, ha, e13, e11, e12, hv])
        refine ho.mono.mono.xapp (aR (aR hp)) (xs := [bC S[i]]) (dN (by simp)) (by simp only [List.length_map, List.length_cons, List.length_nil]; omega) fun v' H4 ho' hp' => ?_
        simp only [push_cast, ↓reduceIte, Nat.reduceEqDiff, reduceCtorEq, Nat.reduceAdd, Nat.reduceLT, Nat.reduceLeDiff, e13, e11, e12]
        refine ⟨(i + 1, out ++ [S[i]]), ⟨hp', hi, ?_, ?_, ?_, hd⟩, by dsimp only; omega⟩
        · dsimp only; rw [aG (by omega) (by omega)]; simp
        · rw [List.map_append]; exact ho'
        · dsimp only; rw [List.length_append]; simp only [List.length_cons, List.length_nil]; omega
    · have hi' : ¬ (i : Int) < n := by omega
      simp only [push_cast, ↓reduceIte, Nat.reduceEqDiff, reduceCtorEq, Nat.reduceAdd, Nat.reduceLT, Nat.reduceLeDiff, e13, e11, e12, hi', hv]
      rw [List.drop_eq_nil_of_le (by omega : S.length ≤ i)] at hd
      obtain ⟨H3, w1, w2⟩ := ho.weak hp
      exact ⟨H3, by rw [hd]; exact w1, (p2.trans w2)⟩
end Go.Eng
end
section
set_option linter.unusedSimpArgs false
set_option linter.unusedVariables false
namespace Go.Eng
open Go
def idx : AV → Option Nat
  | .ref _ t _ _ _ _ => some t
  | _ => none
def kill (v : AV) (H : AH) : AH :=
  match v with
  | .ref _ t _ _ _ false => List.set H t .dead
  | _ => H
theorem qR {v : AV} {H : AH} : (kill v H).length = H.length := by
  unfold kill; split <;> simp
theorem gT {v : AV} {H : AH} {t : Nat} (h : idx v ≠ some t) : obj? (kill v H) t = obj? H t := by
  unfold kill
  split
  · rename_i sz u a b c
    exact bK (fun e => h (by rw [idx, e]))
  · rfl
theorem Own.app_eq {H0 H : AH} {sz bytes : Nat} {v x : AV} {l xs : List AV} (h : Own H0 H sz v l) (hx : elems sz x H = some xs) (hne : xs ≠ []) (hb : (l.length + xs.length) * bytes ≤ 140737488355328) :
    lR sz bytes v x H = some (.ref sz H.length 0 (l ++ xs).length (l ++ xs).length false, kill v H ++ [aM.live sz (l ++ xs)]) := by
  have hpos := List.length_pos_iff.2 hne
  rcases h with ⟨rfl, rfl⟩ | ⟨t, ex, ht, rfl, ho⟩
  · have he0 : elems sz .nils H = some [] := rfl
    unfold lR
    simp only [hx, he0, Option.bind_some]
    rw [if_neg hne, if_pos hb]
    rfl
  · have he : elems sz (.ref sz t 0 l.length l.length ex) H = some l := by
      simp [elems, ho]
    cases ex with
    | true =>
      unfold lR
      simp only [hx, he, Option.bind_some]
      rw [if_neg hne, if_pos hb, if_neg (by omega)]
      rfl
    | false =>
      unfold lR
      simp only [hx, he, Option.bind_some]
      rw [if_neg hne, if_pos hb, if_neg (by omega)]
      simp [fresh, kill]
theorem Own.kept {H0 H J : AH} {sz : Nat} {v w : AV} {l : List AV} (h : Own H0 H sz w l) (hne : ∀ t, idx w = some t → idx v ≠ some t) : Own H0 (kill v H ++ J) sz w l := by
  rcases h with h | ⟨t, ex, ht, rfl, ho⟩
  · exact .inl h
  · refine .inr ⟨t, ex, ht, rfl, ?_⟩
    rw [← gT (hne t rfl)] at ho
    exact bO (List.prefix_append _ _) ho
theorem Own.fresh {H0 H : AH} {sz : Nat} {v : AV} {l : List AV} (hp : H0 <+: H) : Own H0 (kill v H ++ [aM.live sz l]) sz (.ref sz H.length 0 l.length l.length false) l :=
  .inr ⟨H.length, false, hp.length_le, rfl, by rw [← qR (v := v)]; exact bA _ _ _⟩
theorem Own.killed {H0 H J : AH} {sz : Nat} {v : AV} {l : List AV} (h : Own H0 H sz v l) (hp : H0 <+: H) : H0 <+: kill v H ++ J := by
  refine aR ?_
  rcases h with ⟨rfl, _⟩ | ⟨t, ex, ht, rfl, _⟩
  · exact hp
  · cases ex with
    | true => exact hp
    | false => exact cP hp ht _
theorem Own.idx_lt {H0 H : AH} {sz : Nat} {v : AV} {l : List AV} (h : Own H0 H sz v l) {t : Nat} (ht : idx v = some t) : H0.length ≤ t ∧ t < H.length := by
  rcases h with ⟨rfl, _⟩ | ⟨u, ex, hu, rfl, ho⟩
  · cases ht
  · cases ht; exact ⟨hu, bJ ho⟩
end Go.Eng
end
section
set_option linter.unusedSimpArgs false
set_option linter.unusedVariables false
set_option maxRecDepth 10000
namespace Go.Eng
open Go Go.Proofs
def bG (l : List (List Val)) : AV := .list 1 (l.map rowA) false
def F73 : AFn := ⟨19, 1, [.t 2], (.seq (.ops [oo 2 (.mov (.v .nils))]) (.seq (.ops [oo 3 (.mov (.v .nils))]) (.seq (.seq (.ops [oo 6 (.mov (.t 0)), oo 7 (.len (.t 6)), oo 8 (.mov (.v (.int .i64 0)))]) (.block 0 (.loop (.seq (.ops [oo 9 (.bin .lss (.t 8) (.t 7))]) (.seq (.cond (.t 9) .skip (.exit 0)) (.seq (.block 1 (.seq (.ops [oo 10 (.iaddr 1 (.t 6) (.t 8)), oo 11 (.load false 1 (.t 10)), oo 5 (.mov (.t 11))]) (.ops [oo 12 (.mov (.t 3)), oo 13 (.mov (.t 5)), oo 14 (.call 87 [(.t 13)]), oo 15 (.bsl 1 1 .nils [(0, (.t 14))]), oo 16 (.app 1 24 (.t 12) (.t 15)), oo 3 (.mov (.t 16))]))) (.ops [oo 17 (.bin .add (.t 8) (.v (.int .i64 1))), oo 8 (.mov (.t 17))]))))))) (.seq (.ops [oo 18 (.mov (.t 3)), oo 2 (.mov (.t 18))]) .ret))))⟩
theorem c73 : aD Try.prog 73 = some F73 := by kernel_rfl
theorem AJ (x : AV) (l : List (List Val)) (H : AH) (hx : elems 1 x H = some (l.map rowA)) (hl : l.length < 1099511627776) (hs : ∀ r ∈ l, r.length < 1099511627776) : aC Try.prog 73 [x] H fun r H' => r = bG l ∧ H' = H := by
  refine cE c73 (v := bG l) (fun n => wK (jW n) _) (by simp [F73]) ?_
  unfold F73
  have hr := aS hx
  simp only [push_cast, ↓reduceIte, Nat.reduceEqDiff, reduceCtorEq, Nat.reduceAdd, Nat.reduceLT, Nat.reduceLeDiff, hr, List.length_map]
  refine aJ (fun (i : Nat) f H' => H <+: H' ∧ i ≤ l.length ∧ f 8 = .int .i64 i ∧ f 6 = x ∧ f 7 = .int .i64 l.length ∧ Own H H' 1 (f 3) ((l.take i).map rowA)) (fun i => l.length - i) 0 ?_ ?_
  · exact ⟨List.prefix_refl _, Nat.zero_le _, rfl, rfl, rfl, .inl ⟨rfl, rfl⟩⟩
  · rintro i f H' ⟨hp, h1, e8, e6, e7, ho⟩
    generalize hv : f 3 = v at ho
    by_cases hi : i < l.length
    · have hi' : (i : Int) < l.length := by omega
      have ax : aF 1 x (.int .i64 (i : Int)) = some (ptk x i 0) := aN hx (by rw [List.length_map]; exact hi) _
      have lx : (l.map rowA)[i]? = some (rowA l[i]) := by simp [hi]
      have ht : l.take (i + 1) = l.take i ++ [l[i]] := (List.take_append_getElem hi).symm
      have hsr := hs _ (List.getElem_mem hi)
      generalize l[i] = r at lx ht hsr
      have pr : part false 1 0 (rowA r) = some (rowA r) := rfl
      have sr : cS (rowA r) = true := rfl
      have cr : cells (rowA r) = [rowA r] := rfl
      simp only [push_cast, ↓reduceIte, Nat.reduceEqDiff, reduceCtorEq, Nat.reduceAdd, Nat.reduceLT, Nat.reduceLeDiff, aB, aA, e8, e6, e7, hi', ax, aU hx lx, hp, hv, pr]
      (refine aC.look (dL _ r _ rfl hsr) ?_; simp only [push_cast, ↓reduceIte, Nat.reduceEqDiff, reduceCtorEq, Nat.reduceAdd, Nat.reduceLT, Nat.reduceLeDiff, aB, aA, e8, e6, e7, hv, sr, cr])
      refine ho.mono.xapp (aR hp) (xs := [rowA r]) (dN rfl) (by simp only [List.length_map, List.length_take, List.length_cons, List.length_nil]; omega) fun v' H4 ho' hp' => ?_
      simp only [push_cast, ↓reduceIte, Nat.reduceEqDiff, reduceCtorEq, Nat.reduceAdd, Nat.reduceLT, Nat.reduceLeDiff, e8, e6, e7]
      refine ⟨i + 1, ⟨hp', hi, ?_, ?_⟩, by omega⟩
      · rw [aG (by omega) (by omega)]; simp
      · rw [ht, List.map_append]; exact ho'
    · have hi' : ¬ (i : Int) < l.length := by omega
      simp only [push_cast, ↓reduceIte, Nat.reduceEqDiff, reduceCtorEq, Nat.reduceAdd, Nat.reduceLT, Nat.reduceLeDiff, e8, e6, e7, hi', hv]
      rw [List.take_of_length_le (by omega)] at ho
      obtain ⟨H3, w1, w2⟩ := ho.weak hp
      exact ⟨H3, w1, w2⟩
end Go.Eng
end
section
set_option linter.unusedSimpArgs false
set_option linter.unusedVariables false
set_option maxRecDepth 10000
namespace Go.Eng
open Go Go.Proofs
theorem bft : (false != true) = true := Eq.trans rfl rfl
theorem btf : (true != false) = true := Eq.trans rfl rfl
attribute [push_cast] bft btf
structure Bt where
  key : Int
  weight : Int
  since : List Tm
  keys : List (List Val)
  kends : List Int
  rests : List (List Val)
  rends : List Int
  times : List Tm
  ws : List Int
def lT (z : Int) : AV := .int .i64 z
def AK (l : List Int) : AV := .list 1 (l.map lT) false
def xW (b : Bt) : AV := .agg [.int .i64 b.key, .int .i64 b.weight, jX b.since, bG b.keys, AK b.kends, bG b.rests, AK b.rends, jX b.times, AK b.ws]
def gK (b : Bt) : AV := .lptr 9 [xW b] 0 0
structure AL (b : Bt) : Prop where
  since : b.since.length < 1099511627776
  keys : b.keys.length < 1099511627776
  kl : ∀ r ∈ b.keys, r.length < 1099511627776
  rests : b.rests.length < 1099511627776
  rl : ∀ r ∈ b.rests, r.length < 1099511627776
def F35 : AFn := ⟨9, 1, [.t 2], (.seq (.ops [oo 2 (.mov (.v (.int .i64 0)))]) (.seq (.seq (.ops [oo 3 (.mov (.t 0)), oo 4 (.eqn 0 false (.t 3))]) (.cond (.t 4) (.seq (.ops [oo 2 (.mov (.v (.int .i64 0)))]) .ret) .skip)) (.seq (.ops [oo 5 (.mov (.t 0)), oo 6 (.nilc (.t 5)), oo 7 (.faddr 0 (.t 6)), oo 8 (.load false 1 (.t 7)), oo 2 (.mov (.t 8))]) .ret)))⟩
theorem c35 : aD Try.prog 35 = some F35 := by kernel_rfl
theorem IV (b : Bt) (H : AH) : aC Try.prog 35 [gK b] H fun r H' => r = .int .i64 b.key ∧ H' = H := by
  refine aI c35 (fun _ => rfl) (by simp [F35]) ?_
  unfold F35 gK
  simp only [push_cast, ↓reduceIte, Nat.reduceEqDiff, reduceCtorEq, Nat.reduceAdd, Nat.reduceLT, Nat.reduceLeDiff, aB, aA, xW]
  (repeat (first | exact List.prefix_refl _ | refine List.IsPrefix.trans ?_ (List.prefix_append _ _)))
def F33 : AFn := ⟨10, 1, [.t 2], (.seq (.ops [oo 2 (.mov (.v (.int .i64 0)))]) (.seq (.seq (.ops [oo 3 (.mov (.t 0)), oo 4 (.eqn 0 false (.t 3))]) (.cond (.t 4) (.seq (.ops [oo 2 (.mov (.v (.int .i64 0)))]) .ret) .skip)) (.seq (.ops [oo 5 (.mov (.t 0)), oo 6 (.nilc (.t 5)), oo 7 (.faddr 7 (.t 6)), oo 8 (.load false 1 (.t 7)), oo 9 (.len (.t 8)), oo 2 (.mov (.t 9))]) .ret)))⟩
theorem c33 : aD Try.prog 33 = some F33 := by kernel_rfl
theorem AM (b : Bt) (H : AH) : aC Try.prog 33 [gK b] H fun r H' => r = .int .i64 b.times.length ∧ H' = H := by
  refine aI c33 (fun _ => rfl) (by simp [F33]) ?_
  unfold F33 gK
  simp only [push_cast, ↓reduceIte, Nat.reduceEqDiff, reduceCtorEq, Nat.reduceAdd, Nat.reduceLT, Nat.reduceLeDiff, aB, aA, xW, jX, List.length_map]
  (repeat (first | exact List.prefix_refl _ | refine List.IsPrefix.trans ?_ (List.prefix_append _ _)))
def F30 : AFn := ⟨10, 1, [.t 2], (.seq (.ops [oo 2 (.mov (.v .nils))]) (.seq (.seq (.ops [oo 3 (.mov (.t 0)), oo 4 (.eqn 0 false (.t 3))]) (.cond (.t 4) (.seq (.ops [oo 2 (.mov (.v .nils))]) .ret) .skip)) (.seq (.ops [oo 5 (.mov (.t 0)), oo 6 (.nilc (.t 5)), oo 7 (.faddr 3 (.t 6)), oo 8 (.load false 1 (.t 7)), oo 9 (.call 73 [(.t 8)]), oo 2 (.mov (.t 9))]) .ret)))⟩
theorem c30 : aD Try.prog 30 = some F30 := by kernel_rfl
theorem IW (b : Bt) (hb : AL b) (H : AH) : aC Try.prog 30 [gK b] H fun r H' => r = bG b.keys ∧ H' = H := by
  refine aI c30 (fun n => wK (jW n) _) (by simp [F30]) ?_
  unfold F30 gK
  simp only [push_cast, ↓reduceIte, Nat.reduceEqDiff, reduceCtorEq, Nat.reduceAdd, Nat.reduceLT, Nat.reduceLeDiff, aB, aA, xW, bG]
  refine aC.look (AJ _ b.keys _ rfl hb.keys hb.kl) ?_
  simp only [push_cast, ↓reduceIte, Nat.reduceEqDiff, reduceCtorEq, Nat.reduceAdd, Nat.reduceLT, Nat.reduceLeDiff]
  exact ⟨List.prefix_refl _, rfl⟩
end Go.Eng
end
section
set_option linter.unusedVariables false
namespace Go.Eng
open Go
def sP (l : List Int) : List Int := l.set (l.length - 1) (l.getD (l.length - 1) 0 + 1)
def gD (a b : List Val) : Bool := decide (fB a b = 0)
def iU (l : List (List Val)) (r : List Val) : Bool :=
  match l.getLast? with
  | none => true
  | some x => !gD x r
def sQ (b : Bt) (k : List Val) : Bt := { b with keys := b.keys ++ [k], kends := b.kends ++ [(b.rests.length : Int)] }
def lJ (b : Bt) (r : List Val) : Bt := { b with rests := b.rests ++ [r], rends := b.rends ++ [(b.times.length : Int)], kends := sP b.kends }
def gV (b : Bt) (t : Tm) (w : Int) : Bt := { b with times := b.times ++ [t], ws := b.ws ++ [w], rends := sP b.rends }
def iV (b : Bt) (u : Upd) : Bt :=
  if iU b.keys (u.f0.take b.key.toNat) = true then gV (lJ (sQ b (u.f0.take b.key.toNat)) (u.f0.drop b.key.toNat)) u.f1 u.f2
  else if iU b.rests (u.f0.drop b.key.toNat) = true then gV (lJ b (u.f0.drop b.key.toNat)) u.f1 u.f2
  else gV b u.f1 u.f2
theorem lK (b : Bt) (u : Upd) : (iV b u).key = b.key ∧ (iV b u).weight = b.weight ∧ (iV b u).since = b.since ∧ (iV b u).times = b.times ++ [u.f1] ∧ (iV b u).ws = b.ws ++ [u.f2] := by
  unfold iV
  split
  · exact ⟨rfl, rfl, rfl, rfl, rfl⟩
  · split <;> exact ⟨rfl, rfl, rfl, rfl, rfl⟩
def bH (b : Bt) (l : List Upd) : Bt := l.foldl iV b
theorem jY (l : List Upd) : ∀ b : Bt, (bH b l).key = b.key ∧ (bH b l).weight = b.weight ∧ (bH b l).since = b.since ∧ (bH b l).times = b.times ++ l.map (·.f1) ∧ (bH b l).ws = b.ws ++ l.map (·.f2) := by
  induction l with
  | nil => intro b; simp [bH]
  | cons u r ih =>
    intro b
    obtain ⟨a1, a2, a3, a4, a5⟩ := lK b u
    obtain ⟨h1, h2, h3, h4, h5⟩ := ih (iV b u)
    exact ⟨h1.trans a1, h2.trans a2, h3.trans a3, by rw [show bH b (u :: r) = bH (iV b u) r from rfl, h4, a4]; simp, by rw [show bH b (u :: r) = bH (iV b u) r from rfl, h5, a5]; simp⟩
end Go.Eng
end
section
set_option linter.unusedVariables false
set_option linter.unusedSimpArgs false
namespace Go.Eng
open Go
theorem dB.lptr {H H' : AH} {sz i k m : Nat} {cs : List AV} {v v' : AV} (h : dB H v H' v') (hc : cs[m]? = some v) (sv : cS v' = true) : dB H (.lptr sz [.agg cs] i k) H' (.lptr sz [.agg (cs.set m v')] i k) := fun K w cv hr r => by
  cases r with
  | lptr hb hn hs hrr =>
    obtain ⟨K', e1, e2, e3⟩ := h K w _ hr (hrr 0 m (.agg cs) v rfl hc)
    refine ⟨K', e1, e2, .lptr (e1.le.fz _ _ hb) (by simpa using hn) (fun x hx => ?_) fun i' k' x y hx hy => ?_⟩
    · have := hs (.agg cs) (by simp)
      rw [List.mem_singleton] at hx
      subst hx
      refine ⟨by simpa [cells] using this.1, fun y hy => ?_⟩
      rcases List.mem_or_eq_of_mem_set hy with h | h
      · exact this.2 y h
      · rw [h]; exact sv
    · have hi0 : i' = 0 := by
        cases i' with
        | zero => rfl
        | succ n => simp at hx
      subst hi0
      simp only [List.getElem?_cons_zero, Option.some.injEq] at hx
      subst hx
      simp only [cells] at hy
      rw [List.getElem?_set] at hy
      split at hy
      · rename_i e
        split at hy
        · cases hy; rw [← e]; exact e3
        · cases hy
      · exact (hrr 0 k' (.agg cs) y rfl hy).mono e1.le
theorem dB.ptr {H : AH} {t i k sz : Nat} {es : List AV} (h : obj? H t = some (sz, es)) : dB H (.ptr t i k) (List.set H t .dead) (.lptr sz es i k) := fun K w cv hr r => by
  cases r with
  | ptr hp =>
    rename_i p
    have hl := obj?_some h
    have L := hr.live t p sz es hp hl
    obtain ⟨o, h1, h2, h3⟩ := hr.frozen hp hl
    refine ⟨_, h3, h2, ?_⟩
    obtain ⟨cs, T, hb, hs, hrd⟩ := L.block
    have ho : o = .cells cs T (0, 0) := by rw [hb] at h1; exact (Option.some.inj h1).symm
    subst ho
    have hsz := L.psz
    have := Nat.mul_le_mul_right sz L.len
    have key := RelV.lptr (K := K.freeze p.b (.cells cs T (0, 0))) (sz := sz) (l := es) (i := i) (k := k) (b := p.b) (off := p.off) (cs := cs) (T := T) (fr := (0, 0)) (by simp [KW.freeze]) (by omega) L.fit (fun i k x y hx hy => (hrd _ _ _ _ hx hy).mono h3.le)
    unfold aZ.at
    rw [hsz]
    exact key
end Go.Eng
end
section
set_option linter.unusedVariables false
namespace Go.Eng
open Go
theorem Own.dead {H0 H : AH} {sz t : Nat} {w : AV} {l : List AV} (h : Own H0 H sz w l) (hne : idx w ≠ some t) : Own H0 (List.set H t .dead) sz w l := by
  rcases h with h | ⟨u, ex, hu, rfl, ho⟩
  · exact .inl h
  · refine .inr ⟨u, ex, hu, rfl, ?_⟩
    rw [bK (fun e => hne (by rw [idx, e]))]
    exact ho
end Go.Eng
end
section
set_option linter.unusedVariables false
namespace Go.Eng
open Go
structure OBL (H0 H : AH) (t : Nat) (hd vs : List AV) (ls : List (Nat × List AV)) : Prop where
  pre : H0 <+: H
  lt : H0.length ≤ t
  ob : obj? H t = some (hd.length + vs.length, [.agg (hd ++ vs)])
  own : ∀ (i : Nat) v l, vs[i]? = some v → ls[i]? = some l → Own H0 H l.1 v l.2
  ap : ∀ (i j : Nat) v w u, i ≠ j → vs[i]? = some v → vs[j]? = some w → idx v = some u → idx w ≠ some u
  apt : ∀ (i : Nat) v, vs[i]? = some v → idx v ≠ some t
  len : vs.length = ls.length
theorem Own.set_other {H0 H : AH} {sz t : Nat} {w : AV} {l : List AV} {o : aM} (h : Own H0 H sz w l) (hne : idx w ≠ some t) : Own H0 (List.set H t o) sz w l := by
  rcases h with h | ⟨u, ex, hu, rfl, ho⟩
  · exact .inl h
  · refine .inr ⟨u, ex, hu, rfl, ?_⟩
    rw [bK (fun e => hne (by rw [idx, e]))]
    exact ho
theorem OBL.app {H0 H : AH} {t j sz : Nat} {hd vs : List AV} {ls : List (Nat × List AV)} {v : AV} {l xs : List AV} (O : OBL H0 H t hd vs ls) (hj : vs[j]? = some v) (hl : ls[j]? = some (sz, l)) :
    OBL H0 (List.set (kill v H ++ [.live sz (l ++ xs)]) t (.live (hd.length + vs.length) [.agg (hd ++ vs.set j (.ref sz H.length 0 (l ++ xs).length (l ++ xs).length false))])) t hd (vs.set j (.ref sz H.length 0 (l ++ xs).length (l ++ xs).length false)) (ls.set j (sz, l ++ xs)) := by
  have ov := O.own _ _ _ hj hl
  have ht := bJ O.ob
  have hlt : t < (kill v H ++ [aM.live sz (l ++ xs)]).length := by rw [List.length_append, qR]; omega
  have old : ∀ (i : Nat) w, (vs.set j (.ref sz H.length 0 (l ++ xs).length (l ++ xs).length false))[i]? = some w → (i = j ∧ w = .ref sz H.length 0 (l ++ xs).length (l ++ xs).length false) ∨ (i ≠ j ∧ vs[i]? = some w) := fun i w h => by
    rw [List.getElem?_set] at h
    split at h
    · rename_i e
      split at h
      · cases h; exact .inl ⟨e.symm, rfl⟩
      · cases h
    · rename_i e; exact .inr ⟨fun x => e x.symm, h⟩
  have low : ∀ (i : Nat) w u, vs[i]? = some w → idx w = some u → u < H.length := fun i w u h1 h2 => by
    have h3 : i < ls.length := by rw [← O.len]; exact (List.getElem?_eq_some_iff.1 h1).1
    exact ((O.own i w _ h1 (List.getElem?_eq_getElem h3)).idx_lt h2).2
  refine ⟨cP (ov.killed O.pre) O.lt _, O.lt, by rw [dF hlt, List.length_set], fun i w m h1 h2 => ?_, fun a b x y u hab h1 h2 hu => ?_, fun i w h1 => ?_, by simpa using O.len⟩
  · rcases old i w h1 with ⟨rfl, rfl⟩ | ⟨hne, h3⟩
    · rw [List.getElem?_set_self (List.getElem?_eq_some_iff.1 hl).1] at h2
      cases h2
      exact (Own.fresh O.pre).set_other (fun e => by cases e; omega)
    · rw [List.getElem?_set_ne (fun e => hne e.symm)] at h2
      exact ((O.own i w m h3 h2).kept (fun u hu => O.ap i j w v u hne h3 hj hu)).set_other (O.apt i w h3)
  · rcases old a x h1 with ⟨rfl, rfl⟩ | ⟨n1, h3⟩ <;> rcases old b y h2 with ⟨rfl, rfl⟩ | ⟨n2, h4⟩
    · exact absurd rfl hab
    · cases hu; exact fun e => absurd (low _ _ _ h4 e) (by omega)
    · have := low _ _ _ h3 hu
      exact fun e => by cases e; omega
    · exact O.ap a b x y u hab h3 h4 hu
  · rcases old i w h1 with ⟨rfl, rfl⟩ | ⟨n1, h3⟩
    · exact fun e => by cases e; omega
    · exact O.apt i w h3
theorem OBL.put {H0 H : AH} {t j sz u n c : Nat} {ex : Bool} {hd vs : List AV} {ls : List (Nat × List AV)} {l l' : List AV} (O : OBL H0 H t hd vs ls) (hj : vs[j]? = some (.ref sz u 0 n c ex)) (hl : ls[j]? = some (sz, l)) (hlen : l'.length = l.length) :
    OBL H0 (List.set H u (.live sz l')) t hd vs (ls.set j (sz, l')) := by
  have ov := O.own _ _ _ hj hl
  have hu := ov.idx_lt (t := u) rfl
  have hut : u ≠ t := fun e => O.apt j _ hj (by rw [idx, e])
  refine ⟨cP O.pre hu.1 _, O.lt, by rw [bK hut]; exact O.ob, fun i w m h1 h2 => ?_, O.ap, O.apt, by simpa using O.len⟩
  by_cases hij : i = j
  · subst hij
    rw [List.getElem?_set_self (List.getElem?_eq_some_iff.1 hl).1] at h2
    cases h2
    rw [hj] at h1
    cases h1
    rcases ov with ⟨h, _⟩ | ⟨u', ex', hu', e, ho⟩
    · cases h
    · cases e
      exact .inr ⟨u, ex, hu.1, by simp only [hlen], dF hu.2⟩
  · rw [List.getElem?_set_ne (fun e => hij e.symm)] at h2
    exact (O.own i w m h1 h2).set_other (fun e => O.ap j i _ w u (fun e => hij e.symm) hj h1 rfl e)
end Go.Eng
end
section
set_option linter.unusedVariables false
set_option linter.unusedSimpArgs false
namespace Go.Eng
open Go
def deads (v : AV) (H : AH) : AH :=
  match v with
  | .ref _ t _ _ _ _ => List.set H t .dead
  | _ => H
def fzA (l : Nat × List AV) : AV := .list l.1 l.2 false
theorem Own.weakd {H0 H : AH} {sz : Nat} {v : AV} {l : List AV} (h : Own H0 H sz v l) : dB H v (deads v H) (.list sz l false) := by
  rcases h with ⟨rfl, rfl⟩ | ⟨t, ex, ht, rfl, ho⟩
  · exact dB.nils H sz
  · have := Frz.ref (off := 0) (n := l.length) (c := l.length) (ex := ex) ho (by omega)
    simpa [deads] using this.weak
theorem Own.deads_pre {H0 H : AH} {sz : Nat} {v : AV} {l : List AV} (h : Own H0 H sz v l) (hp : H0 <+: H) : H0 <+: deads v H := by
  rcases h with ⟨rfl, _⟩ | ⟨t, ex, ht, rfl, _⟩
  · exact hp
  · exact cP hp ht _
theorem Own.deads {H0 H : AH} {sz : Nat} {v w : AV} {l : List AV} (h : Own H0 H sz w l) (hne : ∀ t, idx v = some t → idx w ≠ some t) : Own H0 (Eng.deads v H) sz w l := by
  unfold Eng.deads
  split
  · rename_i sz' t a b c d
    exact h.dead (hne t rfl)
  · exact h
theorem OBL.frzN {H0 H : AH} {t : Nat} {hd vs : List AV} {ls : List (Nat × List AV)} (O : OBL H0 H t hd vs ls) : ∀ m, m ≤ vs.length → ∃ H', dB H (.ptr t 0 0) H' (.lptr (hd.length + vs.length) [.agg (hd ++ ((ls.take m).map fzA ++ vs.drop m))] 0 0) ∧ H0 <+: H' ∧ ∀ (i : Nat) v l, m ≤ i → vs[i]? = some v → ls[i]? = some l → Own H0 H' l.1 v l.2
  | 0, _ => ⟨_, dB.ptr O.ob, cP O.pre O.lt _, fun i v l _ h1 h2 => (O.own i v l h1 h2).dead (O.apt i v h1)⟩
  | m + 1, hm => by
    obtain ⟨H', h1, h2, h3⟩ := OBL.frzN O m (by omega)
    have hm2 : m < ls.length := by rw [← O.len]; omega
    have e1 : vs[m]? = some vs[m] := List.getElem?_eq_getElem (by omega)
    have e2 : ls[m]? = some ls[m] := List.getElem?_eq_getElem hm2
    have o := h3 m _ _ (Nat.le_refl _) e1 e2
    refine ⟨deads vs[m] H', ?_, o.deads_pre h2, fun i v l hi g1 g2 => (h3 i v l (by omega) g1 g2).deads fun u hu => O.ap m i _ _ u (by omega) e1 g1 hu⟩
    have hl : ((ls.take m).map fzA).length = m := by rw [List.length_map, List.length_take]; omega
    have hc : (hd ++ ((ls.take m).map fzA ++ vs.drop m))[hd.length + m]? = some vs[m] := by
      rw [List.getElem?_append_right (by omega), List.getElem?_append_right (by omega), hl, List.getElem?_drop]
      simp
    have key := h1.trans (dB.lptr (sz := hd.length + vs.length) (i := 0) (k := 0) o.weakd hc rfl)
    have e3 : (hd ++ ((ls.take m).map fzA ++ vs.drop m)).set (hd.length + m) (.list ls[m].1 ls[m].2 false) = hd ++ ((ls.take (m + 1)).map fzA ++ vs.drop (m + 1)) := by
      rw [List.set_append_right _ _ (by omega), List.set_append_right _ _ (by omega), hl, Nat.add_sub_cancel_left, Nat.sub_self, List.drop_eq_getElem_cons (show m < vs.length by omega), List.set_cons_zero, List.take_succ_eq_append_getElem hm2, List.map_append, List.append_assoc]
      rfl
    rw [e3] at key
    exact key
theorem OBL.frz {H0 H : AH} {t : Nat} {hd vs : List AV} {ls : List (Nat × List AV)} (O : OBL H0 H t hd vs ls) : ∃ H', dB H (.ptr t 0 0) H' (.lptr (hd.length + vs.length) [.agg (hd ++ ls.map fzA)] 0 0) ∧ H0 <+: H' := by
  obtain ⟨H', h1, h2, _⟩ := O.frzN vs.length (Nat.le_refl _)
  refine ⟨H', ?_, h2⟩
  rw [List.drop_eq_nil_of_le (Nat.le_refl _), List.append_nil, O.len, List.take_of_length_le (Nat.le_refl _), ← O.len] at h1
  exact h1
theorem OBL.hd {H0 H : AH} {t : Nat} {hd hd' vs : List AV} {ls : List (Nat × List AV)} (O : OBL H0 H t hd vs ls) (hl : hd'.length = hd.length) : OBL H0 (List.set H t (.live (hd.length + vs.length) [.agg (hd' ++ vs)])) t hd' vs ls := by
  have ht := bJ O.ob
  exact ⟨cP O.pre O.lt _, O.lt, by rw [dF ht, hl], fun i v l h1 h2 => (O.own i v l h1 h2).set_other (O.apt i v h1), O.ap, O.apt, O.len⟩
end Go.Eng
end
section
namespace Go.Eng
open Go
set_option linter.unusedVariables false
set_option linter.unusedSimpArgs false
def Bt.none_ (key weight : Int) (since : List Tm) : Bt := ⟨key, weight, since, [], [], [], [], [], []⟩
def jB : Nat → List Nat → List Int
  | _, [] => []
  | a, n :: r => ((a + n : Nat) : Int) :: jB (a + n) r
theorem cZ (l : List Nat) : ∀ (a n : Nat), jB a (l ++ [n]) = jB a l ++ [((a + l.sum + n : Nat) : Int)] := by
  induction l with
  | nil => intro a n; simp [jB]
  | cons x r ih => intro a n; simp [jB, ih, Nat.add_assoc]
theorem qS (l : List Nat) : ∀ a, (jB a l).length = l.length := by
  induction l with
  | nil => intro a; rfl
  | cons x r ih => intro a; simp [jB, ih]
theorem eG (l : List Nat) (n : Nat) : sP (jB 0 (l ++ [n])) = jB 0 (l ++ [n + 1]) := by
  rw [cZ, cZ]
  unfold sP
  have h : (jB 0 l ++ [((0 + l.sum + n : Nat) : Int)]).length - 1 = (jB 0 l).length := by simp
  rw [h]
  simp [List.getD_eq_getElem?_getD, List.set_append]
  omega
abbrev Rst := List Val × List (Tm × Int)
abbrev Gr := List (List Val × List Rst)
structure Gs (b : Bt) (g : Gr) : Prop where
  keys : b.keys = g.map (·.1)
  kends : b.kends = jB 0 (g.map (·.2.length))
  rests : b.rests = (g.flatMap (·.2)).map (·.1)
  rends : b.rends = jB 0 ((g.flatMap (·.2)).map (·.2.length))
  times : b.times = ((g.flatMap (·.2)).flatMap (·.2)).map (·.1)
  ws : b.ws = ((g.flatMap (·.2)).flatMap (·.2)).map (·.2)
  ne1 : ∀ x ∈ g, x.2 ≠ []
  ne2 : ∀ y ∈ g.flatMap (·.2), y.2 ≠ []
theorem wU (key weight : Int) (since : List Tm) : Gs (Bt.none_ key weight since) [] :=
  ⟨rfl, rfl, rfl, rfl, rfl, rfl, fun _ h => absurd h List.not_mem_nil, fun _ h => absurd h List.not_mem_nil⟩
theorem CE (b : Bt) (g : Gr) (h : Gs b g) (k r : List Val) (t : Tm) (d : Int) : Gs (gV (lJ (sQ b k) r) t d) (g ++ [(k, [(r, [(t, d)])])]) := by
  refine ⟨by simp [gV, lJ, sQ, h.keys], ?_, by simp [gV, lJ, sQ, h.rests], ?_, by simp [gV, lJ, sQ, h.times], by simp [gV, lJ, sQ, h.ws], ?_, ?_⟩
  · show sP (b.kends ++ [(b.rests.length : Int)]) = _
    rw [h.kends, List.map_append]
    have e : b.rests.length = (g.map (·.2.length)).sum := by rw [h.rests, List.length_map, List.length_flatMap]
    have e2 : jB 0 (g.map (·.2.length)) ++ [(b.rests.length : Int)] = jB 0 (g.map (·.2.length) ++ [0]) := by rw [cZ, e]; simp
    rw [e2, eG]
    rfl
  · show sP (b.rends ++ [(b.times.length : Int)]) = _
    rw [h.rends, List.flatMap_append, List.map_append]
    have e : b.times.length = ((g.flatMap (·.2)).map (·.2.length)).sum := by rw [h.times, List.length_map, List.length_flatMap]
    have e2 : jB 0 ((g.flatMap (·.2)).map (·.2.length)) ++ [(b.times.length : Int)] = jB 0 ((g.flatMap (·.2)).map (·.2.length) ++ [0]) := by rw [cZ, e]; simp
    rw [e2, eG]
    rfl
  · intro x hx
    rcases List.mem_append.1 hx with hx | hx
    · exact h.ne1 x hx
    · rw [List.mem_singleton.1 hx]; simp
  · intro y hy
    rw [List.flatMap_append] at hy
    rcases List.mem_append.1 hy with hy | hy
    · exact h.ne2 y hy
    · simp at hy; rw [hy]; simp
theorem EO (b : Bt) (g : Gr) (k0 : List Val) (rs : List Rst) (h : Gs b (g ++ [(k0, rs)])) (r : List Val) (t : Tm) (d : Int) : Gs (gV (lJ b r) t d) (g ++ [(k0, rs ++ [(r, [(t, d)])])]) := by
  refine ⟨by have := h.keys; simpa [gV, lJ] using this, ?_, by have := h.rests; simp [gV, lJ, this], ?_, by have := h.times; simp [gV, lJ, this], by have := h.ws; simp [gV, lJ, this], ?_, ?_⟩
  · show sP b.kends = _
    rw [h.kends, List.map_append, List.map_append]
    show sP (jB 0 (_ ++ [rs.length])) = jB 0 (_ ++ [(rs ++ [(r, [(t, d)])]).length])
    rw [eG]
    simp
  · show sP (b.rends ++ [(b.times.length : Int)]) = _
    have e : b.times.length = (((g ++ [(k0, rs)]).flatMap (·.2)).map (·.2.length)).sum := by rw [h.times, List.length_map, List.length_flatMap]
    have e2 : b.rends ++ [(b.times.length : Int)] = jB 0 (((g ++ [(k0, rs)]).flatMap (·.2)).map (·.2.length) ++ [0]) := by rw [cZ, h.rends, e]; simp
    rw [e2, eG]
    simp
  · intro x hx
    rcases List.mem_append.1 hx with hx | hx
    · exact h.ne1 x (List.mem_append_left _ hx)
    · rw [List.mem_singleton.1 hx]; simp
  · intro y hy
    have hy2 : y ∈ (g ++ [(k0, rs)]).flatMap (·.2) ∨ y = (r, [(t, d)]) := by
      simp at hy ⊢
      rcases hy with hy | hy | hy
      · exact .inl (.inl hy)
      · exact .inl (.inr hy)
      · exact .inr hy
    rcases hy2 with hy2 | hy2
    · exact h.ne2 y hy2
    · rw [hy2]; simp
theorem EP (b : Bt) (g : Gr) (k0 : List Val) (rs : List Rst) (r0 : List Val) (ts : List (Tm × Int)) (h : Gs b (g ++ [(k0, rs ++ [(r0, ts)])])) (t : Tm) (d : Int) : Gs (gV b t d) (g ++ [(k0, rs ++ [(r0, ts ++ [(t, d)])])]) := by
  refine ⟨by have := h.keys; simpa [gV] using this, by have := h.kends; simpa [gV] using this, by have := h.rests; simpa [gV] using this, ?_, by have := h.times; simp [gV, this], by have := h.ws; simp [gV, this], ?_, ?_⟩
  · show sP b.rends = _
    rw [h.rends]
    have e : ∀ q : List (Tm × Int), ((g ++ [(k0, rs ++ [(r0, q)])]).flatMap (·.2)).map (·.2.length) = ((g.flatMap (·.2)).map (·.2.length) ++ rs.map (·.2.length)) ++ [q.length] := by intro q; simp
    rw [e, e, eG]
    simp
  · intro x hx
    rcases List.mem_append.1 hx with hx | hx
    · exact h.ne1 x (List.mem_append_left _ hx)
    · rw [List.mem_singleton.1 hx]; simp
  · intro y hy
    have hy2 : y ∈ (g ++ [(k0, rs ++ [(r0, ts)])]).flatMap (·.2) ∨ y = (r0, ts ++ [(t, d)]) := by
      simp at hy ⊢
      rcases hy with hy | hy | hy
      · exact .inl (.inl hy)
      · exact .inl (.inr (.inl hy))
      · exact .inr hy
    rcases hy2 with hy2 | hy2
    · exact h.ne2 y hy2
    · rw [hy2]; simp
def xX (n : Nat) (g : Gr) (u : Upd) : Gr :=
  match g.getLast? with
  | none => g ++ [(u.f0.take n, [(u.f0.drop n, [(u.f1, u.f2)])])]
  | some x =>
    if gD x.1 (u.f0.take n) = true then
      match x.2.getLast? with
      | none => g.dropLast ++ [(x.1, [(u.f0.drop n, [(u.f1, u.f2)])])]
      | some y => if gD y.1 (u.f0.drop n) = true then g.dropLast ++ [(x.1, x.2.dropLast ++ [(y.1, y.2 ++ [(u.f1, u.f2)])])] else g.dropLast ++ [(x.1, x.2 ++ [(u.f0.drop n, [(u.f1, u.f2)])])]
    else g ++ [(u.f0.take n, [(u.f0.drop n, [(u.f1, u.f2)])])]
def NF (n : Nat) (l : List Upd) : Gr := l.foldl (xX n) []
theorem AN (n : Nat) (u : Upd) : xX n [] u = [(u.f0.take n, [(u.f0.drop n, [(u.f1, u.f2)])])] := rfl
theorem AO (n : Nat) (g : Gr) (x : List Val × List Rst) (u : Upd) (h : gD x.1 (u.f0.take n) = false) : xX n (g ++ [x]) u = g ++ [x] ++ [(u.f0.take n, [(u.f0.drop n, [(u.f1, u.f2)])])] := by
  simp [xX, h]
theorem wV (n : Nat) (g : Gr) (k0 : List Val) (rs : List Rst) (y : Rst) (u : Upd) (h : gD k0 (u.f0.take n) = true) (h2 : gD y.1 (u.f0.drop n) = false) : xX n (g ++ [(k0, rs ++ [y])]) u = g ++ [(k0, rs ++ [y] ++ [(u.f0.drop n, [(u.f1, u.f2)])])] := by
  simp [xX, h, h2]
theorem wW (n : Nat) (g : Gr) (k0 : List Val) (rs : List Rst) (y : Rst) (u : Upd) (h : gD k0 (u.f0.take n) = true) (h2 : gD y.1 (u.f0.drop n) = true) : xX n (g ++ [(k0, rs ++ [y])]) u = g ++ [(k0, rs ++ [(y.1, y.2 ++ [(u.f1, u.f2)])])] := by
  simp [xX, h, h2]
theorem eM (l : List (List Val)) (x k : List Val) : iU (l ++ [x]) k = !gD x k := by simp [iU]
theorem lL {α : Type} (l : List α) (h : l ≠ []) : ∃ r x, l = r ++ [x] := ⟨l.dropLast, l.getLast h, (List.dropLast_concat_getLast h).symm⟩
theorem EQ (b : Bt) (g : Gr) (u : Upd) (h : Gs b g) : Gs (iV b u) (xX b.key.toNat g u) := by
  unfold iV
  by_cases hg : g = []
  · subst hg
    have hk : b.keys = [] := h.keys
    rw [if_pos (by rw [hk]; rfl), AN]
    exact CE b [] h _ _ _ _
  · obtain ⟨g', ⟨k0, rs⟩, rfl⟩ := lL g hg
    obtain ⟨rs', y, rfl⟩ := lL rs (h.ne1 (k0, rs) (by simp))
    have hk : b.keys = g'.map (·.1) ++ [k0] := by rw [h.keys]; simp
    have hr : b.rests = ((g'.flatMap (·.2)) ++ rs').map (·.1) ++ [y.1] := by rw [h.rests]; simp
    have n1 : iU b.keys (u.f0.take b.key.toNat) = !gD k0 (u.f0.take b.key.toNat) := by rw [hk, eM]
    have n2 : iU b.rests (u.f0.drop b.key.toNat) = !gD y.1 (u.f0.drop b.key.toNat) := by rw [hr, eM]
    cases e1 : gD k0 (u.f0.take b.key.toNat) with
    | false =>
      rw [n1, e1, if_pos (by decide), AO _ _ _ _ e1]
      exact CE b _ h _ _ _ _
    | true =>
      rw [n1, e1, if_neg (by decide), n2]
      cases e2 : gD y.1 (u.f0.drop b.key.toNat) with
      | false =>
        rw [if_pos (by decide), wV _ _ _ _ _ _ e1 e2]
        exact EO b g' k0 _ h _ _ _
      | true =>
        rw [if_neg (by decide), wW _ _ _ _ _ _ e1 e2]
        exact EP b g' k0 rs' y.1 y.2 h _ _
theorem mT (l : List Upd) : ∀ (b : Bt) (g : Gr), Gs b g → Gs (bH b l) (l.foldl (xX b.key.toNat) g) := by
  induction l with
  | nil => exact fun b g h => h
  | cons u r ih =>
    intro b g h
    have h1 := ih (iV b u) _ (EQ b g u h)
    rw [(lK b u).1] at h1
    exact h1
theorem pK {α β : Type} (f : α → List β) : ∀ g : List α, (∀ x ∈ g, f x ≠ []) → g.length ≤ (g.flatMap f).length
  | [], _ => Nat.zero_le _
  | x :: r, h => by
    have h1 := pK f r (fun y hy => h y (List.mem_cons_of_mem _ hy))
    have h2 : 0 < (f x).length := List.length_pos_iff.2 (h x List.mem_cons_self)
    simp only [List.flatMap_cons, List.length_append, List.length_cons]
    omega
end Go.Eng
end
section
set_option linter.unusedSimpArgs false
set_option linter.unusedVariables false
set_option maxRecDepth 10000
namespace Go.Eng
open Go Go.Proofs
def upsA (l : List Upd) : AV := .list 4 (l.map upA) false
def xY (f : List Tm) (u : Upd) : Upd := ⟨u.f0, JS f u.f1, u.f2⟩
def F63 : AFn := ⟨29, 2, [.t 4], (.seq (.ops [oo 4 (.mov (.v .nils))]) (.seq (.ops [oo 5 (.mov (.v .nils))]) (.seq (.seq (.ops [oo 8 (.mov (.t 0)), oo 9 (.len (.t 8)), oo 10 (.mov (.v (.int .i64 0)))]) (.block 0 (.loop (.seq (.ops [oo 11 (.bin .lss (.t 10) (.t 9))]) (.seq (.cond (.t 11) .skip (.exit 0)) (.seq (.block 1 (.seq (.ops [oo 12 (.iaddr 4 (.t 8) (.t 10)), oo 13 (.load true 4 (.t 12)), oo 7 (.alloc 4 (.agg [.nils, (.int .i64 0), (.int .i64 0), (.int .i64 0)])), on (.store 4 (.t 7) (.t 13))]) (.ops [oo 29 (.mov (.t 5)), oo 30 (.faddr 0 (.t 7)), oo 31 (.load false 1 (.t 30)), oo 33 (.mov (.t 1)), oo 34 (.faddr 1 (.t 7)), oo 35 (.load true 2 (.t 34)), oo 37 (.faddr 3 (.t 7)), oo 38 (.load false 1 (.t 37)), oq 32 (.call 87 [(.t 31)]), oq 36 (.call 96 [(.t 33), (.t 35)]), oo 39 (.build [.nils, (.int .i64 0), (.int .i64 0), (.int .i64 0)] [(0, 1, (.t 32)), (1, 2, (.t 36)), (3, 1, (.t 38))]), oo 40 (.bsl 4 1 (.agg [.nils, (.int .i64 0), (.int .i64 0), (.int .i64 0)]) [(0, (.t 39))]), oo 41 (.app 4 48 (.t 29) (.t 40)), oo 42 (.mov (.t 41)), oo 14 (.mov (.t 29)), oo 15 (.mov (.t 30)), oo 16 (.mov (.t 31)), oo 18 (.mov (.t 33)), oo 19 (.mov (.t 34)), oo 20 (.mov (.t 35)), oo 22 (.mov (.t 37)), oo 23 (.mov (.t 38)), oo 17 (.mov (.t 32)), oo 21 (.mov (.t 36)), oo 24 (.mov (.t 39)), oo 25 (.mov (.t 40)), oo 26 (.mov (.t 41)), oo 5 (.mov (.t 42))]))) (.ops [oo 27 (.bin .add (.t 10) (.v (.int .i64 1))), oo 10 (.mov (.t 27))]))))))) (.seq (.ops [oo 28 (.mov (.t 5)), oo 4 (.mov (.t 28))]) .ret))))⟩
theorem c63 : aD Try.prog 63 = some F63 := by kernel_rfl
theorem wX (x : AV) (l : List Upd) (fr : List Tm) (H : AH) (hx : elems 4 x H = some (l.map upA)) (hl : l.length < 1099511627776) (hf : fr.length < 1099511627776) (hs : cN l) : aC Try.prog 63 [x, jX fr] H fun r H' => r = upsA (l.map (xY fr)) ∧ H' = H := by
  refine cE c63 (v := upsA (l.map (xY fr))) (fun n => wK (EJ n) _) (by simp [F63]) ?_
  unfold F63
  have hr := aS hx
  simp only [push_cast, ↓reduceIte, Nat.reduceEqDiff, reduceCtorEq, Nat.reduceAdd, Nat.reduceLT, Nat.reduceLeDiff, hr, List.length_map]
  refine aJ (fun (i : Nat) f H' => H <+: H' ∧ i ≤ l.length ∧ f 10 = .int .i64 i ∧ f 8 = x ∧ f 9 = .int .i64 l.length ∧ f 1 = jX fr ∧ Own H H' 4 (f 5) (((l.take i).map (xY fr)).map upA)) (fun i => l.length - i) 0 ?_ ?_
  · exact ⟨List.prefix_refl _, Nat.zero_le _, rfl, rfl, rfl, rfl, .inl ⟨rfl, rfl⟩⟩
  · rintro i f H' ⟨hp, h1, e10, e8, e9, e1, ho⟩
    generalize hv : f 5 = v at ho
    by_cases hi : i < l.length
    · have hi' : (i : Int) < l.length := by omega
      have ax : aF 4 x (.int .i64 (i : Int)) = some (ptk x i 0) := aN hx (by rw [List.length_map]; exact hi) _
      have lx : (l.map upA)[i]? = some (upA l[i]) := by simp [hi]
      have ht : (l.take (i + 1)).map (xY fr) = (l.take i).map (xY fr) ++ [xY fr l[i]] := by rw [← List.take_append_getElem hi, List.map_append]; rfl
      have hsr := hs _ (List.getElem_mem hi)
      generalize l[i] = u at lx ht hsr
      simp only [push_cast, ↓reduceIte, Nat.reduceEqDiff, reduceCtorEq, Nat.reduceAdd, Nat.reduceLT, Nat.reduceLeDiff, aB, aA, e10, e8, e9, e1, hi', ax, aU hx lx, aR, hp, upA, hv, rowA]
      (refine aC.look (dL _ u.f0 _ rfl hsr) ?_; simp only [push_cast, ↓reduceIte, Nat.reduceEqDiff, reduceCtorEq, Nat.reduceAdd, Nat.reduceLT, Nat.reduceLeDiff, aB, aA, e10, e8, e9, e1, hv, rowA])
      (refine aC.look (LR fr u.f1 _ hf) ?_; simp only [push_cast, ↓reduceIte, Nat.reduceEqDiff, reduceCtorEq, Nat.reduceAdd, Nat.reduceLT, Nat.reduceLeDiff, aB, aA, e10, e8, e9, e1, hv, bC])
      refine ho.mono.mono.xapp (aR (aR hp)) (xs := [upA (xY fr u)]) (dN (by simp)) (by simp only [List.length_map, List.length_take, List.length_cons, List.length_nil]; omega) fun v' H4 ho' hp' => ?_
      simp only [push_cast, ↓reduceIte, Nat.reduceEqDiff, reduceCtorEq, Nat.reduceAdd, Nat.reduceLT, Nat.reduceLeDiff, e10, e8, e9, e1]
      refine ⟨i + 1, ⟨hp', hi, ?_, ?_⟩, by omega⟩
      · rw [aG (by omega) (by omega)]; simp
      · rw [ht, List.map_append]; exact ho'
    · have hi' : ¬ (i : Int) < l.length := by omega
      simp only [push_cast, ↓reduceIte, Nat.reduceEqDiff, reduceCtorEq, Nat.reduceAdd, Nat.reduceLT, Nat.reduceLeDiff, e10, e8, e9, hi', hv]
      rw [List.take_of_length_le (by omega)] at ho
      obtain ⟨H3, w1, w2⟩ := ho.weak hp
      exact ⟨H3, w1, w2⟩
end Go.Eng
end
section
set_option linter.unusedSimpArgs false
set_option linter.unusedVariables false
set_option maxRecDepth 10000
namespace Go.Eng
open Go Go.Proofs
def F98 : AFn := ⟨12, 2, [.t 4], (.seq (.ops [oo 4 (.mov (.v .nils))]) (.seq (.ops [oo 6 (.mov (.t 0)), oo 7 (.call 131 [(.t 6)]), oo 5 (.mov (.t 7))]) (.seq (.ops [oo 8 (.mov (.t 5)), oo 9 (.mov (.t 1)), oo 10 (.call 132 [(.t 8), (.t 9)])]) (.seq (.ops [oo 11 (.mov (.t 5)), oo 4 (.mov (.t 11))]) .ret))))⟩
theorem c98 : aD Try.prog 98 = some F98 := by kernel_rfl
theorem AP (x : AV) (l : List Upd) (H : AH) (hx : elems 4 x H = some (l.map upA)) (hl : l.length < 1099511627776) (hs : cN l) : aC Try.prog 98 [x, .fn 99 [] []] H fun r H' => r = upsA (Stab.sortS fR l) ∧ H' = H := by
  refine cE c98 (v := upsA (Stab.sortS fR l)) (fun n => wK (EJ n) _) (by simp [F98]) ?_
  unfold F98
  simp only [push_cast, ↓reduceIte, Nat.reduceEqDiff, reduceCtorEq, Nat.reduceAdd, Nat.reduceLT, Nat.reduceLeDiff]
  refine (EN x l H hx hl).mono fun r H1 ⟨h1, p1⟩ => ?_
  simp only [push_cast, ↓reduceIte, Nat.reduceEqDiff, reduceCtorEq, Nat.reduceAdd, Nat.reduceLT, Nat.reduceLeDiff]
  refine (AD h1 p1 hl hs).mono fun _ H2 ⟨h2, p2⟩ => ?_
  simp only [push_cast, ↓reduceIte, Nat.reduceEqDiff, reduceCtorEq, Nat.reduceAdd, Nat.reduceLT, Nat.reduceLeDiff]
  obtain ⟨H3, w1, w2⟩ := h2.weak p2
  exact ⟨H3, w1, w2⟩
end Go.Eng
end
section
set_option linter.unusedSimpArgs false
set_option linter.unusedVariables false
set_option maxRecDepth 10000
namespace Go.Eng
open Go Go.Proofs
def F97 : AFn := ⟨6, 2, [.t 4], (.seq (.ops [oo 2 (.box 1 (.t 0)), oo 3 (.box 1 (.t 1)), oo 4 (.mov (.v .nilf))]) (.seq (.ops [oo 5 (.mkf 130 [] [(.t 2), (.t 3)]), oo 4 (.mov (.t 5))]) .ret))⟩
theorem c97 : aD Try.prog 97 = some F97 := by kernel_rfl
theorem IX (l : List Upd) (H : AH) : aC Try.prog 97 [upsA l, .fn 99 [] []] H fun r H' => r = .fn 130 [] [.ptr H.length 0 0, .ptr (H.length + 1) 0 0] ∧ H' = H ++ [.live 1 [upsA l]] ++ [.live 1 [.fn 99 [] []]] := by
  refine aP c97 (by simp [F97]) ?_
  unfold F97
  have c1 : cells (.fn 99 [] []) = [.fn 99 [] []] := rfl
  simp only [push_cast, ↓reduceIte, Nat.reduceEqDiff, reduceCtorEq, Nat.reduceAdd, Nat.reduceLT, Nat.reduceLeDiff, aB, aA, upsA, c1]
def eH : List Upd → Nat
  | [] => 0
  | x :: r => (r.takeWhile fun y => decide (fR x y = 0)).length + 1
theorem wY (l : List Upd) : eH l ≤ l.length := by
  cases l with
  | nil => exact Nat.le_refl _
  | cons x r =>
    have := (List.takeWhile_prefix (fun y => decide (fR x y = 0)) (l := r)).length_le
    simp only [eH, List.length_cons]; omega
def lM : AC := (.block 2 (.loop (.seq (.seq (.ops [oo 35 (.mov (.t 4)), oo 36 (.load false 1 (.t 1)), oo 37 (.len (.t 36)), oo 38 (.bin .lss (.t 35) (.t 37)), oo 39 (.mov (.t 38)), og 40 39 true (.load false 1 (.t 2)), og 41 39 true (.load false 1 (.t 1)), og 42 39 true (.iaddr 4 (.t 41) (.v (.int .i64 0))), og 43 39 true (.load true 4 (.t 42)), og 44 39 true (.load false 1 (.t 1)), og 45 39 true (.mov (.t 4)), og 46 39 true (.iaddr 4 (.t 44) (.t 45)), og 47 39 true (.load true 4 (.t 46)), og 48 39 true (.callv (.t 40) [(.t 43), (.t 47)]), og 49 39 true (.bin .eql (.t 48) (.v (.int .i64 0))), oo 50 (.pick (.t 39) (.t 49) (.v (.bool false))), oo 8 (.mov (.t 35)), oo 9 (.mov (.t 36)), oo 10 (.mov (.t 37)), oo 11 (.mov (.t 38)), oo 12 (.mov (.t 39)), oo 13 (.mov (.t 40)), oo 14 (.mov (.t 41)), oo 15 (.mov (.t 42)), oo 16 (.mov (.t 43)), oo 17 (.mov (.t 44)), oo 18 (.mov (.t 45)), oo 19 (.mov (.t 46)), oo 20 (.mov (.t 47)), oo 21 (.mov (.t 48)), oo 22 (.mov (.t 49)), oo 23 (.mov (.t 50))]) (.cond (.t 23) .skip (.exit 2))) (.block 3 (.ops [oo 24 (.mov (.t 4)), oo 25 (.bin .add (.t 24) (.v (.int .i64 1))), oo 4 (.mov (.t 25))])))))
def wZ : AC := (.block 0 (.loop (.seq (.seq (.ops [oo 5 (.load false 1 (.t 1)), oo 6 (.len (.t 5)), oo 7 (.bin .gtr (.t 6) (.v (.int .i64 0)))]) (.cond (.t 7) .skip (.exit 0))) (.block 1 (.seq (.ops [oo 4 (.mov (.v (.int .i64 1)))]) (.seq (lM) (.seq (.seq (.ops [oo 26 (.mov (.t 0)), oo 27 (.load false 1 (.t 1)), oo 28 (.mov (.t 4)), oo 29 (.slice 4 (.t 27) none (some (.t 28)) none), oo 30 (.callv (.t 26) [(.t 29)]), oo 31 (.un .not (.t 30))]) (.cond (.t 31) .ret .skip)) (.ops [oo 32 (.load false 1 (.t 1)), oo 33 (.mov (.t 4)), oo 34 (.slice 4 (.t 32) (some (.t 33)) none none), on (.store 1 (.t 1) (.t 34))]))))))))
def LT : AFn := ⟨35, 1, [], (wZ)⟩
theorem NG : aD Try.prog 130 = some LT := by kernel_rfl
theorem ER {t p q : Nat} {x : Upd} {r : List Upd} {H : AH} (hl : (x :: r).length < 1099511627776) (hs : cN (x :: r)) (hp : obj? H p = some (1, [upsA (x :: r)])) (hq : obj? H q = some (1, [.fn 99 [] []])) {f : AF} {Q : AE → AF → AH → Prop}
    (e0 : f 0 = .yld t) (e1 : f 1 = .ptr p 0 0) (e2 : f 2 = .ptr q 0 0) (e4 : f 4 = .int .i64 1)
    (hQ : ∀ f, f 0 = .yld t → f 1 = .ptr p 0 0 → f 2 = .ptr q 0 0 → f 4 = .int .i64 (eH (x :: r) : Nat) → Q .normal f H) : lM.wp Try.prog Q f H := by
  unfold lM
  simp only [push_cast, ↓reduceIte, Nat.reduceEqDiff, reduceCtorEq, Nat.reduceAdd, Nat.reduceLT, Nat.reduceLeDiff]
  have hg : eH (x :: r) = (r.takeWhile fun y => decide (fR x y = 0)).length + 1 := rfl
  generalize eH (x :: r) = g at hg hQ
  refine aJ (fun (i : Nat) f H' => H' = H ∧ 1 ≤ i ∧ i ≤ r.length + 1 ∧ f 0 = .yld t ∧ f 1 = .ptr p 0 0 ∧ f 2 = .ptr q 0 0 ∧ f 4 = .int .i64 i ∧ g = ((r.drop (i - 1)).takeWhile fun y => decide (fR x y = 0)).length + i) (fun i => r.length + 1 - i) 1 ⟨rfl, Nat.le_refl _, by omega, e0, e1, e2, e4, hg⟩ ?_
  rintro i f H' ⟨rfl, h1, h2, e0, e1, e2, e4, ho⟩
  have hx := hs x (by simp)
  rw [List.length_cons] at hl
  have la : dI (upsA (x :: r)) = some (r.length + 1) := by simp [upsA, dI]
  have pl : ∀ l, part false 1 0 (upsA l) = some (upsA l) := fun _ => rfl
  have pf : ∀ k, part false 1 0 (.fn k [] []) = some (.fn k [] []) := fun _ => rfl
  by_cases hi : i < r.length + 1
  · have hi' : (i : Int) < ((r.length + 1 : Nat) : Int) := by omega
    have hj : i - 1 < r.length := by omega
    have hy := hs (r[i - 1]) (List.mem_cons_of_mem _ (List.getElem_mem hj))
    have ax0 : aF 4 (upsA (x :: r)) (.int .i64 0) = some (.lptr 4 ((x :: r).map upA) 0 0) := by simp [upsA, aF, nat?]
    have ax : aF 4 (upsA (x :: r)) (.int .i64 (i : Int)) = some (.lptr 4 ((x :: r).map upA) i 0) := by simp [upsA, aF, nat?, hi]
    have lx0 : ((x :: r).map upA)[0]? = some (upA x) := rfl
    have lx : ((x :: r).map upA)[i]? = some (upA r[i - 1]) := by
      obtain ⟨j, rfl⟩ : ∃ j, i = j + 1 := ⟨i - 1, by omega⟩
      simp at hj
      simp [hj]
    rw [List.drop_eq_getElem_cons hj, List.takeWhile_cons] at ho
    generalize r[i - 1] = y at hy lx ho
    generalize hn : r.length + 1 = n at la hi' h2 hi
    generalize (x :: r).map upA = L at ax0 ax lx0 lx
    have px : ∀ u, part true 4 0 (upA u) = some (upA u) := fun _ => rfl
    by_cases hc : fR x y = 0
    · rw [if_pos (by simpa using hc)] at ho
      simp only [push_cast, ↓reduceIte, Nat.reduceEqDiff, reduceCtorEq, Nat.reduceAdd, Nat.reduceLT, Nat.reduceLeDiff, aB, aA, e0, e1, e2, e4, hp, hq, la, hi', decide_true, ax0, ax, lx0, lx, px, pl, pf, eL]
      (refine aC.look (gC _ _ x y _ (FU x _) (FU y _) hx hy) ?_; simp only [push_cast, ↓reduceIte, Nat.reduceEqDiff, reduceCtorEq, Nat.reduceAdd, Nat.reduceLT, Nat.reduceLeDiff, aB, aA, hc, e0, e1, e2, e4])
      refine ⟨i + 1, ⟨by omega, by omega, ?_, ?_⟩, by omega⟩
      · rw [aG (by omega) (by omega)]; simp
      · rw [show i + 1 - 1 = i - 1 + 1 by omega, ho, List.length_cons]; omega
    · rw [if_neg (by simpa using hc)] at ho
      simp only [push_cast, ↓reduceIte, Nat.reduceEqDiff, reduceCtorEq, Nat.reduceAdd, Nat.reduceLT, Nat.reduceLeDiff, aB, aA, e0, e1, e2, e4, hp, hq, la, hi', decide_true, ax0, ax, lx0, lx, px, pl, pf, eL]
      (refine aC.look (gC _ _ x y _ (FU x _) (FU y _) hx hy) ?_; simp only [push_cast, ↓reduceIte, Nat.reduceEqDiff, reduceCtorEq, Nat.reduceAdd, Nat.reduceLT, Nat.reduceLeDiff, aB, aA, hc, e0, e1, e2, e4])
      rw [show g = i by rw [ho]; simp] at hQ
      exact hQ _ e0 e1 e2 e4
  · have hi' : ¬ (i : Int) < ((r.length + 1 : Nat) : Int) := by omega
    generalize hn : r.length + 1 = n at la hi' h2 hi
    simp only [push_cast, ↓reduceIte, Nat.reduceEqDiff, reduceCtorEq, Nat.reduceAdd, Nat.reduceLT, Nat.reduceLeDiff, aB, aA, e0, e1, e2, e4, hp, hq, la, hi', decide_false, pl]
    rw [show g = i by rw [ho, List.drop_eq_nil_of_le (by omega)]; simp] at hQ
    exact hQ _ e0 e1 e2 e4
theorem xA {t p q : Nat} {J : List Upd → AH → Prop} {R' : AH → Prop} {l : List Upd} {H : AH} (hl : l.length < 1099511627776) (hs : cN l) (hJ : J l H) (hp : obj? H p = some (1, [upsA l])) (hq : obj? H q = some (1, [.fn 99 [] []])) (hpq : p ≠ q)
    (hstep : ∀ r H', r ≠ [] → r.length ≤ l.length → J r H' → obj? H' p = some (1, [upsA r]) → obj? H' q = some (1, [.fn 99 [] []]) → eQ Try.prog t [upsA (r.take (eH r))] H' fun b H2 => obj? H2 p = some (1, [upsA r]) ∧ obj? H2 q = some (1, [.fn 99 [] []]) ∧ ((b = .bool true ∧ J (r.drop (eH r)) (List.set H2 p (.live 1 [upsA (r.drop (eH r))]))) ∨ (b = .bool false ∧ R' H2)))
    (hend : ∀ H', J [] H' → R' H') : aC Try.prog 130 [.yld t, .ptr p 0 0, .ptr q 0 0] H fun _ H' => R' H' := by
  refine aP NG (by simp [LT]) ?_
  unfold LT
  unfold wZ
  have pl : ∀ l, part false 1 0 (upsA l) = some (upsA l) := fun _ => rfl
  have lp := bJ hp
  simp only [push_cast, ↓reduceIte, Nat.reduceEqDiff, reduceCtorEq, Nat.reduceAdd, Nat.reduceLT, Nat.reduceLeDiff]
  refine aJ (fun (r : List Upd) f H' => f 0 = .yld t ∧ f 1 = .ptr p 0 0 ∧ f 2 = .ptr q 0 0 ∧ obj? H' p = some (1, [upsA r]) ∧ obj? H' q = some (1, [.fn 99 [] []]) ∧ J r H' ∧ r.length ≤ l.length ∧ cN r) (fun r => r.length) l ⟨rfl, rfl, rfl, hp, hq, hJ, Nat.le_refl _, hs⟩ ?_
  rintro r f H' ⟨e0, e1, e2, op, oq, hj, hle, hsr⟩
  have la : dI (upsA r) = some r.length := by simp [upsA, dI]
  by_cases hr : r = []
  · subst hr
    simp only [push_cast, ↓reduceIte, Nat.reduceEqDiff, reduceCtorEq, Nat.reduceAdd, Nat.reduceLT, Nat.reduceLeDiff, e0, e1, e2, op, oq, la, pl, aB]
    rw [if_neg (by decide)]
    exact hend _ hj
  · have hr' : (r.length : Int) > 0 := by have := List.length_pos_iff.2 hr; omega
    simp only [push_cast, ↓reduceIte, Nat.reduceEqDiff, reduceCtorEq, Nat.reduceAdd, Nat.reduceLT, Nat.reduceLeDiff, e0, e1, e2, op, oq, la, pl, aB, hr']
    have hg := wY r
    have hg1 : 0 < eH r := by
      cases r with
      | nil => exact absurd rfl hr
      | cons x r => simp [eH]
    refine (fun {Q} (hQ : ∀ f, f 0 = .yld t → f 1 = .ptr p 0 0 → f 2 = .ptr q 0 0 → f 4 = .int .i64 (eH r : Nat) → Q .normal f H') => ?_ : ∀ {Q : AE → AF → AH → Prop}, (∀ f, f 0 = .yld t → f 1 = .ptr p 0 0 → f 2 = .ptr q 0 0 → f 4 = .int .i64 (eH r : Nat) → Q .normal f H') → lM.wp Try.prog Q _ H') (fun f e0 e1 e2 e4 => ?_)
    · cases r with
      | nil => exact absurd rfl hr
      | cons x r => exact ER (by omega) hsr op oq e0 e1 e2 rfl hQ
    have st := hstep r H' hr hle hj op oq
    generalize eH r = g at hg hg1 e4 st
    have sl : (if g ≤ (r.map upA).length then True else False) := by rw [if_pos (by rw [List.length_map]; exact hg)]; trivial
    have s1 : ∀ f x, ev f x = .int .i64 (g : Int) → dV f 4 (upsA r) none (some x) none = some (upsA (r.take g)) := fun f x h => by
      unfold upsA; rw [mS h (by rw [List.length_map]; exact hg), List.map_take]
    have s2 : ∀ f x, ev f x = .int .i64 (g : Int) → dV f 4 (upsA r) (some x) none none = some (upsA (r.drop g)) := fun f x h => by
      unfold upsA; rw [iT h (by rw [List.length_map]; exact hg), List.map_drop]
    simp only [push_cast, ↓reduceIte, Nat.reduceEqDiff, reduceCtorEq, Nat.reduceAdd, Nat.reduceLT, Nat.reduceLeDiff, e0, e1, e2, e4, op, oq, pl, aB]
    rw [s1 _ _ (by rfl)]
    simp only [push_cast, ↓reduceIte, Nat.reduceEqDiff, reduceCtorEq, Nat.reduceAdd, Nat.reduceLT, Nat.reduceLeDiff]
    refine st.mono fun b H2 ⟨o1, o2, h⟩ => ?_
    have lp2 := bJ o1
    rcases h with ⟨rfl, h⟩ | ⟨rfl, h⟩
    · simp only [push_cast, ↓reduceIte, Nat.reduceEqDiff, reduceCtorEq, Nat.reduceAdd, Nat.reduceLT, Nat.reduceLeDiff, e0, e1, e2, e4, o1, pl, aB]
      rw [s2 _ _ (by rfl)]
      have cu : cells (upsA (r.drop g)) = [upsA (r.drop g)] := rfl
      have cv : ∀ l, cS (upsA l) = true := fun _ => rfl
      have pc : lQ (upsA r) 0 [upsA (r.drop g)] = upsA (r.drop g) := rfl
      have cr : cells (upsA r) = [upsA r] := rfl
      simp only [push_cast, ↓reduceIte, Nat.reduceEqDiff, reduceCtorEq, Nat.reduceAdd, Nat.reduceLT, Nat.reduceLeDiff, aB, aA, e0, e1, e2, e4, o1, cu, cv, cr, pc]
      exact ⟨r.drop g, ⟨dF lp2, by rw [bK hpq]; exact o2, h, by rw [List.length_drop]; omega, fun u hu => hsr u (List.mem_of_mem_drop hu)⟩, by rw [List.length_drop]; omega⟩
    · simp only [push_cast, ↓reduceIte, Nat.reduceEqDiff, reduceCtorEq, Nat.reduceAdd, Nat.reduceLT, Nat.reduceLeDiff]
      exact h
end Go.Eng
end
section
set_option linter.unusedSimpArgs false
set_option linter.unusedVariables false
set_option maxRecDepth 10000
namespace Go.Eng
open Go Go.Proofs
theorem xB (a b : Int) : (qQ a b).2 = 0 ∨ (qQ a b).2 = 60 := by
  unfold qQ; split <;> simp
def CF : Int → List Upd → Option Int
  | n, [] => some n
  | n, u :: r => if (qQ n u.f2).2 = 0 then CF (qQ n u.f2).1 r else none
def iW (l : List Upd) : Option (List Upd) :=
  match CF 0 l with
  | none => none
  | some n => if n = 0 then some [] else some [⟨(l.headD ⟨[], ⟨0, 0⟩, 0⟩).f0, (l.headD ⟨[], ⟨0, 0⟩, 0⟩).f1, n⟩]
def dX : List Upd → List (List Upd) → Option (List Upd)
  | out, [] => some out
  | out, l :: r => (iW l).bind fun x => dX (out ++ x) r
def gO : Nat → List Upd → List (List Upd)
  | 0, _ => []
  | _ + 1, [] => []
  | k + 1, x :: r => (x :: r).take (eH (x :: r)) :: gO k ((x :: r).drop (eH (x :: r)))
theorem mU : ∀ (k m : Nat) (l : List Upd), l.length ≤ k → l.length ≤ m → gO k l = gO m l
  | 0, m, [], _, _ => by cases m <;> rfl
  | k + 1, 0, [], _, _ => rfl
  | k + 1, m + 1, [], _, _ => rfl
  | 0, m, x :: r, h, _ => by simp at h
  | k + 1, 0, x :: r, _, h => by simp at h
  | k + 1, m + 1, x :: r, h1, h2 => by
    simp only [gO]
    have : 0 < eH (x :: r) := by simp [eH]
    simp only [List.length_cons] at h1 h2
    rw [mU k m _ (by rw [List.length_drop, List.length_cons]; omega) (by rw [List.length_drop, List.length_cons]; omega)]
theorem xC {r : List Upd} (h : r ≠ []) : gO r.length r = r.take (eH r) :: gO (r.drop (eH r)).length (r.drop (eH r)) := by
  cases r with
  | nil => exact absurd rfl h
  | cons x r =>
    have : 0 < eH (x :: r) := by simp [eH]
    simp only [List.length_cons, gO]
    rw [mU r.length _ _ (by rw [List.length_drop, List.length_cons]; omega) (Nat.le_refl _)]
def dA (l : List Upd) : List Upd × Int :=
  match dX [] (gO l.length (Stab.sortS fR l)) with
  | some o => (o, 0)
  | none => ([], 60)
def xD : AC := (.block 2 (.loop (.seq (.ops [oo 17 (.bin .lss (.t 16) (.t 15))]) (.seq (.cond (.t 17) .skip (.exit 2)) (.seq (.block 3 (.seq (.ops [oo 18 (.iaddr 4 (.t 14) (.t 16)), oo 19 (.load true 4 (.t 18)), oo 9 (.alloc 4 (.agg [.nils, (.int .i64 0), (.int .i64 0), (.int .i64 0)])), on (.store 4 (.t 9) (.t 19))]) (.seq (.ops [oo 21 (.mov (.t 6)), oo 22 (.faddr 3 (.t 9)), oo 23 (.load false 1 (.t 22)), oo 24 (.call 100 [(.t 21), (.t 23)]), oo 20 (.mov (.t 24)), oo 25 (.ext (.t 20) 0), oo 26 (.ext (.t 20) 1), oo 6 (.mov (.t 25)), oo 7 (.mov (.t 26))]) (.seq (.ops [oo 27 (.mov (.t 7)), oo 28 (.bin .neq (.t 27) (.v (.int .i64 0)))]) (.cond (.t 28) (.seq (.ops [oo 29 (.mov (.t 7)), on (.store 1 (.t 2) (.v .nils)), on (.store 1 (.t 3) (.t 29))]) .ret) .skip))))) (.ops [oo 30 (.bin .add (.t 16) (.v (.int .i64 1))), oo 16 (.mov (.t 30))]))))))
def F64 : AFn := ⟨48, 1, [.cell 2 false 1, .cell 3 false 1], (.seq (.ops [oo 2 (.alloc 1 .nils), oo 3 (.alloc 1 (.int .i64 0))]) (.seq (.ops [oo 4 (.alloc 1 .nils)]) (.seq (.seq (.ops [oo 10 (.mov (.t 0)), oo 11 (.call 98 [(.t 10), (.v (.fn 99 [] []))]), oo 12 (.call 97 [(.t 11), (.v (.fn 99 [] []))])]) (.block 0 (.rangeF 48 (.t 12) [13] (.ops [oo 5 (.mov (.t 13))]) (.block 1 (.seq (.ops [oo 6 (.mov (.v (.int .i64 0))), oo 7 (.mov (.v (.int .i64 0)))]) (.seq (.seq (.ops [oo 14 (.mov (.t 5)), oo 15 (.len (.t 14)), oo 16 (.mov (.v (.int .i64 0)))]) (xD)) (.seq (.ops [oo 31 (.mov (.t 6)), oo 32 (.bin .neq (.t 31) (.v (.int .i64 0)))]) (.cond (.t 32) (.ops [oo 48 (.load false 1 (.t 4)), oo 49 (.mov (.t 5)), oo 50 (.iaddr 4 (.t 49) (.v (.int .i64 0))), oo 51 (.faddr 0 (.t 50)), oo 52 (.load false 1 (.t 51)), oo 54 (.mov (.t 5)), oo 55 (.iaddr 4 (.t 54) (.v (.int .i64 0))), oo 56 (.faddr 1 (.t 55)), oo 57 (.load true 2 (.t 56)), oo 58 (.mov (.t 6)), oq 53 (.call 87 [(.t 52)]), oo 59 (.build [.nils, (.int .i64 0), (.int .i64 0), (.int .i64 0)] [(0, 1, (.t 53)), (1, 2, (.t 57)), (3, 1, (.t 58))]), oo 60 (.bsl 4 1 (.agg [.nils, (.int .i64 0), (.int .i64 0), (.int .i64 0)]) [(0, (.t 59))]), oo 61 (.app 4 48 (.t 48) (.t 60)), oo 62 (.store 1 (.t 4) (.t 61)), oo 33 (.mov (.t 48)), oo 34 (.mov (.t 49)), oo 35 (.mov (.t 50)), oo 36 (.mov (.t 51)), oo 37 (.mov (.t 52)), oo 39 (.mov (.t 54)), oo 40 (.mov (.t 55)), oo 41 (.mov (.t 56)), oo 42 (.mov (.t 57)), oo 43 (.mov (.t 58)), oo 38 (.mov (.t 53)), oo 44 (.mov (.t 59)), oo 45 (.mov (.t 60)), oo 46 (.mov (.t 61))]) .skip)))))))) (.seq (.ops [oo 47 (.load false 1 (.t 4)), on (.store 1 (.t 2) (.t 47)), on (.store 1 (.t 3) (.v (.int .i64 0)))]) .ret))))⟩
theorem c64 : aD Try.prog 64 = some F64 := by kernel_rfl
def CB (H : AH) (a b v r : AV) (o : aM) : AH := H ++ [.live 1 [a], .live 1 [b], .live 1 [v], .live 1 [r], .live 1 [.fn 99 [] []], o]
theorem mV {H : AH} {a b v r : AV} {o : aM} : (CB H a b v r o).length = H.length + 6 := by simp [CB]
theorem cb0 {H X : AH} {a b v r : AV} {o : aM} : obj? (CB H a b v r o ++ X) H.length = some (1, [a]) := by simp [CB, obj?]
theorem cb1 {H X : AH} {a b v r : AV} {o : aM} : obj? (CB H a b v r o ++ X) (H.length + 1) = some (1, [b]) := by simp [CB, obj?, List.getElem?_append_right]
theorem cb2 {H X : AH} {a b v r : AV} {o : aM} : obj? (CB H a b v r o ++ X) (H.length + 1 + 1) = some (1, [v]) := by simp [CB, obj?, List.getElem?_append_right, Nat.add_assoc]
theorem cb3 {H X : AH} {a b v r : AV} {o : aM} : obj? (CB H a b v r o ++ X) (H.length + 3) = some (1, [r]) := by simp [CB, obj?, List.getElem?_append_right]
theorem cb4 {H X : AH} {a b v r : AV} {o : aM} : obj? (CB H a b v r o ++ X) (H.length + 4) = some (1, [.fn 99 [] []]) := by simp [CB, obj?, List.getElem?_append_right]
theorem cb5 {H X : AH} {a b v r : AV} {o : aM} : (CB H a b v r o ++ X)[H.length + 5]? = some o := by simp [CB, List.getElem?_append_right]
theorem cs0 {H X : AH} {a b v r a' : AV} {o : aM} : List.set (CB H a b v r o ++ X) H.length (.live 1 [a']) = CB H a' b v r o ++ X := by simp [CB, List.set_append_right]
theorem cs1 {H X : AH} {a b v r a' : AV} {o : aM} : List.set (CB H a b v r o ++ X) (H.length + 1) (.live 1 [a']) = CB H a a' v r o ++ X := by simp [CB, List.set_append_right]
theorem cs2 {H X : AH} {a b v r a' : AV} {o : aM} : List.set (CB H a b v r o ++ X) (H.length + 1 + 1) (.live 1 [a']) = CB H a b a' r o ++ X := by simp [CB, List.set_append_right, Nat.add_assoc]
theorem cs3 {H X : AH} {a b v r a' : AV} {o : aM} : List.set (CB H a b v r o ++ X) (H.length + 3) (.live 1 [a']) = CB H a b v a' o ++ X := by simp [CB, List.set_append_right]
theorem cs5 {H X : AH} {a b v r : AV} {o o' : aM} : List.set (CB H a b v r o ++ X) (H.length + 5) o' = CB H a b v r o' ++ X := by simp [CB, List.set_append_right]
theorem AQ {g : List Upd} {H X : AH} {v r : AV} {o : aM} {f : AF} {Q : AE → AF → AH → Prop} (hl : g.length < 1099511627776)
    (e2 : f 2 = .ptr H.length 0 0) (e3 : f 3 = .ptr (H.length + 1) 0 0) (e4 : f 4 = .ptr (H.length + 1 + 1) 0 0) (e5 : f 5 = upsA g) (e6 : f 6 = .int .i64 0) (e14 : f 14 = upsA g) (e15 : f 15 = .int .i64 g.length) (e16 : f 16 = .int .i64 0)
    (h1 : ∀ f X' n, CF 0 g = some n → f 2 = .ptr H.length 0 0 → f 3 = .ptr (H.length + 1) 0 0 → f 4 = .ptr (H.length + 1 + 1) 0 0 → f 5 = upsA g → f 6 = .int .i64 n → Q .normal f (CB H .nils (.int .i64 0) v r o ++ (X ++ X')))
    (h2 : ∀ f X', CF 0 g = none → f 2 = .ptr H.length 0 0 → f 3 = .ptr (H.length + 1) 0 0 → Q .ret f (CB H .nils (.int .i64 60) v r o ++ (X ++ X'))) : xD.wp Try.prog Q f (CB H .nils (.int .i64 0) v r o ++ X) := by
  unfold xD
  simp only [push_cast, ↓reduceIte, Nat.reduceEqDiff, reduceCtorEq, Nat.reduceAdd, Nat.reduceLT, Nat.reduceLeDiff]
  refine aJ (fun (s : Nat × Int × AH) f H' => H' = CB H .nils (.int .i64 0) v r o ++ (X ++ s.2.2) ∧ s.1 ≤ g.length ∧ f 2 = .ptr H.length 0 0 ∧ f 3 = .ptr (H.length + 1) 0 0 ∧ f 4 = .ptr (H.length + 1 + 1) 0 0 ∧ f 5 = upsA g ∧ f 6 = .int .i64 s.2.1 ∧ f 14 = upsA g ∧ f 15 = .int .i64 g.length ∧ f 16 = .int .i64 s.1 ∧ CF 0 g = CF s.2.1 (g.drop s.1)) (fun s => g.length - s.1) (0, 0, []) ⟨by simp, Nat.zero_le _, e2, e3, e4, e5, e6, e14, e15, e16, rfl⟩ ?_
  rintro ⟨i, n, Y⟩ f H' ⟨rfl, hi0, e2, e3, e4, e5, e6, e14, e15, e16, hs⟩
  dsimp only at hi0 e6 e16 hs
  by_cases hi : i < g.length
  · have hi' : (i : Int) < g.length := by omega
    have ax : aF 4 (upsA g) (.int .i64 (i : Int)) = some (.lptr 4 (g.map upA) i 0) := by simp [upsA, aF, nat?, hi]
    have lx : (g.map upA)[i]? = some (upA g[i]) := by simp [hi]
    rw [List.drop_eq_getElem_cons hi] at hs
    simp only [CF] at hs
    generalize g[i] = u at lx hs
    have o0 := cb0 (H := H) (X := X ++ Y) (a := .nils) (b := .int .i64 0) (v := v) (r := r) (o := o)
    have o1 := fun a => cb1 (H := H) (X := X ++ Y) (a := a) (b := .int .i64 0) (v := v) (r := r) (o := o)
    have s0 := fun a' => cs0 (H := H) (X := X ++ Y) (a := .nils) (b := .int .i64 0) (v := v) (r := r) (o := o) (a' := a')
    have s1 := fun a a' => cs1 (H := H) (X := X ++ Y) (a := a) (b := .int .i64 0) (v := v) (r := r) (o := o) (a' := a')
    have hlen := fun a b => mV (H := H) (a := a) (b := b) (v := v) (r := r) (o := o)
    have w1 : H.length < H.length + 6 + (X.length + Y.length) := by omega
    have w2 : H.length + 1 < H.length + 6 + (X.length + Y.length) := by omega
    by_cases hc : (qQ n u.f2).2 = 0
    · rw [if_pos hc] at hs
      simp only [push_cast, ↓reduceIte, Nat.reduceEqDiff, reduceCtorEq, Nat.reduceAdd, Nat.reduceLT, Nat.reduceLeDiff, aB, aA, e2, e3, e4, e5, e6, e14, e15, e16, hi', ax, lx, upA, rowA]
      (refine aC.look (IR n u.f2 _) ?_; simp only [push_cast, ↓reduceIte, Nat.reduceEqDiff, reduceCtorEq, Nat.reduceAdd, Nat.reduceLT, Nat.reduceLeDiff, aB, aA, e2, e3, e4, e5, e6, e14, e15, e16, hc])
      refine ⟨(i + 1, (qQ n u.f2).1, Y ++ [.live 4 [upA u]]), ⟨by simp only [List.append_assoc]; rfl, hi, rfl, ?_, hs⟩, by dsimp only; omega⟩
      dsimp only; rw [aG (by omega) (by omega)]; simp
    · rw [if_neg hc] at hs
      have hc2 := (xB n u.f2).resolve_left hc
      have c60 : ¬ (60 : Int) = 0 := by decide
      simp only [push_cast, ↓reduceIte, Nat.reduceEqDiff, reduceCtorEq, Nat.reduceAdd, Nat.reduceLT, Nat.reduceLeDiff, aB, aA, e2, e3, e4, e5, e6, e14, e15, e16, hi', ax, lx, upA, rowA]
      (refine aC.look (IR n u.f2 _) ?_; simp only [push_cast, ↓reduceIte, Nat.reduceEqDiff, reduceCtorEq, Nat.reduceAdd, Nat.reduceLT, Nat.reduceLeDiff, aB, aA, e2, e3, e4, e5, e6, e14, e15, e16, hc2, c60, hlen, w1, w2, o0, o1, s0, s1])
      simp only [List.append_assoc]
      exact h2 _ _ hs e2 e3
  · have hi' : ¬ (i : Int) < g.length := by omega
    simp only [push_cast, ↓reduceIte, Nat.reduceEqDiff, reduceCtorEq, Nat.reduceAdd, Nat.reduceLT, Nat.reduceLeDiff, e15, e16, hi']
    rw [List.drop_eq_nil_of_le (by omega)] at hs
    exact h1 _ Y n hs e2 e3 e4 e5 e6
theorem mW {H X : AH} {a b v r a' b' v' r' w : AV} {o o' : aM} {l : List AV} {sz : Nat} (h : Own (CB H a b v r o) (CB H a b v r o ++ X) sz w l) : Own (CB H a' b' v' r' o') (CB H a' b' v' r' o' ++ X) sz w l := by
  rcases h with h | ⟨t, ex, ht, e, ho⟩
  · exact .inl h
  · rw [mV] at ht
    refine .inr ⟨t, ex, by rw [mV]; exact ht, e, ?_⟩
    have key : ∀ a b v r o, obj? (CB H a b v r o ++ X) t = obj? X (t - (H.length + 6)) := by
      intro a b v r o
      unfold obj?
      rw [List.getElem?_append_right (by rw [mV]; omega), mV]
    rw [key] at ho ⊢
    exact ho
theorem dH {H0 H : AH} {sz : Nat} {w : AV} {l : List AV} (h : Own H0 H sz w l) : cS w = true ∧ cells w = [w] ∧ part false 1 0 w = some w ∧ (∀ x, lQ w 0 [x] = x) := by
  rcases h with ⟨rfl, _⟩ | ⟨t, ex, _, rfl, _⟩ <;> exact ⟨rfl, rfl, rfl, fun _ => rfl⟩
theorem wRf {P : Program} {n : Nat} {x : X} {ps : List Nat} {a b : AC} {Q : AE → AF → AH → Prop} {f : AF} {H : AH} {g : FuncId} {a1 bs : List AV} (h : ev f x = .fn g a1 bs)
    (hh : ∀ lp, qC P n lp ps a b → aC P g (a1 ++ [.yld H.length] ++ bs) (H ++ [.loop f lp .ready none]) fun r H' => ∃ st pd, H'[H.length]? = some (aM.loop f lp st pd) ∧ st ≠ .busy ∧ Q (pd.getD .normal) f (H'.set H.length .dead)) : (AC.rangeF n x ps a b).wp P Q f H := by
  simp only [AC.wp, h]
  exact hh
def xE (l : List Upd) : AV := .tup [upsA (dA l).1, .int .i64 (dA l).2]
theorem IY (x : AV) (l : List Upd) (H : AH) (hx : elems 4 x H = some (l.map upA)) (hl : l.length < 1099511627776) (hs : cN l) : aC Try.prog 64 [x] H fun r H' => r = xE l ∧ H' = H := by
  refine cE c64 (v := xE l) (fun n => ?_) (by simp [F64]) ?_
  · have : cl n (upsA (dA l).1) = true := wK (EJ n) _
    simp [xE, cl, cls, this]
  unfold F64
  simp only [push_cast, ↓reduceIte, Nat.reduceEqDiff, reduceCtorEq, Nat.reduceAdd, Nat.reduceLT, Nat.reduceLeDiff]
  (refine aC.look (AP x l _ (bB hx (by (repeat (first | exact List.prefix_refl _ | refine List.IsPrefix.trans ?_ (List.prefix_append _ _))))) hl hs) ?_; try simp only [push_cast, ↓reduceIte, Nat.reduceEqDiff, reduceCtorEq, Nat.reduceAdd, Nat.reduceLT, Nat.reduceLeDiff, aB, aA])
  have hlen := Stab.sortS_len EH l
  have hsS : cN (Stab.sortS fR l) := fun u hu => hs u ((Stab.sortS_mem l u).1 hu)
  unfold xE dA
  rw [← hlen] at hl ⊢
  generalize Stab.sortS fR l = S at hl hsS ⊢
  clear hlen hs hx
  refine (IX S _).mono fun r H1 ⟨e, e1⟩ => ?_
  subst e e1
  simp only [push_cast, ↓reduceIte, Nat.reduceEqDiff, reduceCtorEq, Nat.reduceAdd, Nat.reduceLT, Nat.reduceLeDiff]
  refine wRf (by rfl) fun lp hb => ?_
  generalize hF : put _ _ _ = F
  have e2 : F 2 = .ptr H.length 0 0 := by rw [← hF]; rfl
  have e3 : F 3 = .ptr (H.length + 1) 0 0 := by rw [← hF]; rfl
  have e4 : F 4 = .ptr (H.length + 1 + 1) 0 0 := by rw [← hF]; rfl
  clear hF
  have hN : (H ++ [aM.live 1 [AV.nils]] ++ [aM.live 1 [AV.int IntKind.i64 0]] ++ [aM.live 1 [AV.nils]] ++ [aM.live 1 [upsA S]] ++ [aM.live 1 [AV.fn 99 [] []]]).length = H.length + 5 := by simp
  rw [hN]
  have hCB : H ++ [aM.live 1 [AV.nils]] ++ [aM.live 1 [AV.int IntKind.i64 0]] ++ [aM.live 1 [AV.nils]] ++ [aM.live 1 [upsA S]] ++ [aM.live 1 [AV.fn 99 [] []]] ++ [aM.loop F lp LoopState.ready none] = CB H .nils (.int .i64 0) .nils (upsA S) (aM.loop F lp LoopState.ready none) ++ [] := by simp [CB]
  rw [hCB]
  generalize hQ : bT 0 _ = Q
  have pre0 : ∀ a b v r o X, H <+: CB H a b v r o ++ X := fun a b v r o X => by unfold CB; rw [List.append_assoc]; exact List.prefix_append _ _
  have q2 : ∀ v r X, dX [] (gO S.length S) = none → Q .ret F (CB H .nils (.int .i64 60) v r .dead ++ X) := fun v r X hn => by
    rw [← hQ, hn]
    simp only [push_cast, ↓reduceIte, Nat.reduceEqDiff, reduceCtorEq, Nat.reduceAdd, Nat.reduceLT, Nat.reduceLeDiff, e2, e3, e4, aB, cb0, cb1]
    exact (show ∃ H2, dB (CB H .nils (.int .i64 60) v r .dead ++ X) (.tup [.nils, .int .i64 60]) H2 (.tup [upsA [], .int .i64 60]) ∧ H <+: H2 from ⟨_, dB.tup (i := 0) (dB.nils _ 4) rfl, pre0 _ _ _ _ _ _⟩)
  have q1 : ∀ v r X out, Own (CB H .nils (.int .i64 0) v r .dead) (CB H .nils (.int .i64 0) v r .dead ++ X) 4 v (out.map upA) → dX [] (gO S.length S) = some out → Q .normal F (CB H .nils (.int .i64 0) v r .dead ++ X) := fun v r X out ho hn => by
    rw [← hQ, hn]
    have pv := dH ho
    have c0 := cb0 (H := H) (X := X) (a := .nils) (b := .int .i64 0) (v := v) (r := r) (o := .dead)
    have c1 := fun a b => cb1 (H := H) (X := X) (a := a) (b := b) (v := v) (r := r) (o := .dead)
    have c2 := cb2 (H := H) (X := X) (a := .nils) (b := .int .i64 0) (v := v) (r := r) (o := .dead)
    have pn : lQ .nils 0 [v] = v := rfl
    have pi : lQ (.int .i64 0) 0 [.int .i64 0] = .int .i64 0 := rfl
    have d0 := fun a' => cb0 (H := H) (X := X) (a := a') (b := .int .i64 0) (v := v) (r := r) (o := .dead)
    have s0 := fun a' => cs0 (H := H) (X := X) (a := .nils) (b := .int .i64 0) (v := v) (r := r) (o := .dead) (a' := a')
    have s1 := fun a a' => cs1 (H := H) (X := X) (a := a) (b := .int .i64 0) (v := v) (r := r) (o := .dead) (a' := a')
    simp only [push_cast, ↓reduceIte, Nat.reduceEqDiff, reduceCtorEq, Nat.reduceAdd, Nat.reduceLT, Nat.reduceLeDiff, e2, e3, e4, aB, aA, c0, c1, c2, d0, s0, s1, pn, pi, pv.1, pv.2.1, pv.2.2.1]
    obtain ⟨H3, w1, w2⟩ := (mW (a' := v) (b' := .int .i64 0) (v' := v) (r' := r) (o' := .dead) ho).weak (List.prefix_append _ _)
    have p0 : H <+: CB H v (.int .i64 0) v r .dead := by unfold CB; exact List.prefix_append _ _
    exact (show ∃ H2, dB (CB H v (.int .i64 0) v r .dead ++ X) (.tup [v, .int .i64 0]) H2 (.tup [upsA out, .int .i64 0]) ∧ H <+: H2 from ⟨_, dB.tup (i := 0) w1 rfl, p0.trans w2⟩)
  clear hQ hN hCB
  show aC Try.prog 130 [.yld (H.length + 5), .ptr (H.length + 3) 0 0, .ptr (H.length + 4) 0 0] _ _
  refine xA (J := fun rest H' => ∃ out v X, H' = CB H .nils (.int .i64 0) v (upsA rest) (.loop F lp .ready none) ++ X ∧ Own (CB H .nils (.int .i64 0) v (upsA rest) (.loop F lp .ready none)) (CB H .nils (.int .i64 0) v (upsA rest) (.loop F lp .ready none) ++ X) 4 v (out.map upA) ∧ out.length + rest.length ≤ S.length ∧ dX [] (gO S.length S) = dX out (gO rest.length rest) ∧ cN rest) (R' := fun H' => ∃ st pd, H'[H.length + 5]? = some (aM.loop F lp st pd) ∧ st ≠ .busy ∧ Q (pd.getD .normal) F (List.set H' (H.length + 5) .dead)) hl hsS ⟨[], .nils, [], rfl, .inl ⟨rfl, rfl⟩, by simp, rfl, hsS⟩ cb3 cb4 (by omega) ?_ ?_
  · rintro rest H' hr hle ⟨out, v, X, rfl, ho, hlo, hd, hsr⟩ _ _
    have hg := wY rest
    have hg1 : 0 < eH rest := by
      cases rest with
      | nil => exact absurd rfl hr
      | cons x r => simp [eH]
    rw [xC hr] at hd
    have hgl : (rest.take (eH rest)).length = eH rest := by rw [List.length_take]; omega
    have la : dI (upsA (rest.take (eH rest))) = some (eH rest) := by simp only [upsA, dI, List.length_map, hgl]
    have hmem : cN (rest.take (eH rest)) := fun u hu => hsr u (List.mem_of_mem_take hu)
    have hsd : cN (rest.drop (eH rest)) := fun u hu => hsr u (List.mem_of_mem_drop hu)
    generalize hG : rest.take (eH rest) = G at hd hgl la hmem ⊢
    generalize eH rest = g at hg hg1 hd hgl la hsd ⊢
    refine hb.ycalls cb5 rfl ?_
    unfold BR BR
    simp only [push_cast, ↓reduceIte, Nat.reduceEqDiff, reduceCtorEq, Nat.reduceAdd, Nat.reduceLT, Nat.reduceLeDiff]
    refine ⟨none, cb5, ?_⟩
    rw [cs5]
    simp only [push_cast, ↓reduceIte, Nat.reduceEqDiff, reduceCtorEq, Nat.reduceAdd, Nat.reduceLT, Nat.reduceLeDiff, la]
    refine AQ (g := G) (by omega) e2 e3 e4 rfl rfl rfl (by rw [hgl]; rfl) rfl ?_ ?_
    · intro f X' n hn f2 f3 f4 f5 f6
      by_cases hz : n = 0
      · have hd2 : dX [] (gO S.length S) = dX out (gO (rest.drop g).length (rest.drop g)) := by rw [hd]; simp only [dX, iW, hn, if_pos hz, Option.bind_some, List.append_nil]
        simp only [push_cast, ↓reduceIte, Nat.reduceEqDiff, reduceCtorEq, Nat.reduceAdd, Nat.reduceLT, Nat.reduceLeDiff, f6, hz]
        unfold uF
        refine ⟨.busy, none, cb5, ?_⟩
        dsimp only
        rw [cs5]
        have ho2 := ho.mono (J := X')
        rw [List.append_assoc] at ho2
        exact ⟨cb3, cb4, .inl ⟨rfl, out, v, X ++ X', cs3, mW ho2, by rw [List.length_drop]; omega, hd2, hsd⟩⟩
      · obtain ⟨u, G', rfl⟩ : ∃ u G', G = u :: G' := by
          cases G with
          | nil => simp at hgl; omega
          | cons u G' => exact ⟨u, G', rfl⟩
        have hd2 : dX [] (gO S.length S) = dX (out ++ [⟨u.f0, u.f1, n⟩]) (gO (rest.drop g).length (rest.drop g)) := by rw [hd]; simp only [dX, iW, hn, if_neg hz, Option.bind_some, List.headD_cons]
        have hu : u.f0.length < 1099511627776 := hmem u (by simp)
        have ax0 : aF 4 (upsA (u :: G')) (.int .i64 0) = some (.lptr 4 ((u :: G').map upA) 0 0) := by simp [upsA, aF, nat?]
        have lx0 : ((u :: G').map upA)[0]? = some (upA u) := rfl
        have pv := dH ho
        have c2 := cb2 (H := H) (X := X ++ X') (a := .nils) (b := .int .i64 0) (v := v) (r := upsA rest) (o := aM.loop F lp .busy none)
        generalize (u :: G').map upA = L at ax0 lx0
        simp only [push_cast, ↓reduceIte, Nat.reduceEqDiff, reduceCtorEq, Nat.reduceAdd, Nat.reduceLT, Nat.reduceLeDiff, aB, aA, f2, f3, f4, f5, f6, hz, ax0, lx0, c2, pv.1, pv.2.1, pv.2.2.1, eL, upA, rowA]
        (refine aC.look (dL _ u.f0 _ rfl hu) ?_; simp only [push_cast, ↓reduceIte, Nat.reduceEqDiff, reduceCtorEq, Nat.reduceAdd, Nat.reduceLT, Nat.reduceLeDiff, aB, aA, f2, f3, f4, f5, f6, rowA])
        have hb0 : Own (CB H .nils (.int .i64 0) v (upsA rest) (.loop F lp .busy none)) (CB H .nils (.int .i64 0) v (upsA rest) (.loop F lp .busy none) ++ (X ++ X')) 4 v (out.map upA) := by
          have := (mW (a' := .nils) (b' := .int .i64 0) (v' := v) (r' := upsA rest) (o' := .loop F lp .busy none) ho).mono (J := X')
          rw [List.append_assoc] at this
          exact this
        refine hb0.mono.xapp (aR (List.prefix_append _ _)) (xs := [upA ⟨u.f0, u.f1, n⟩]) (dN (by simp)) (by simp only [List.length_map, List.length_cons, List.length_nil]; omega) fun v' H4 ho' hp' => ?_
        obtain ⟨X4, rfl⟩ := hp'
        have pv' := dH ho'
        have c2' := cb2 (H := H) (X := X4) (a := .nils) (b := .int .i64 0) (v := v) (r := upsA rest) (o := aM.loop F lp .busy none)
        have s2 := fun a' => cs2 (H := H) (X := X4) (a := .nils) (b := .int .i64 0) (v := v) (r := upsA rest) (o := aM.loop F lp .busy none) (a' := a')
        simp only [push_cast, ↓reduceIte, Nat.reduceEqDiff, reduceCtorEq, Nat.reduceAdd, Nat.reduceLT, Nat.reduceLeDiff, f4, c2', pv'.1, pv'.2.1, pv.1, pv.2.1, pv.2.2.2, s2, aB, aA]
        unfold uF
        refine ⟨.busy, none, cb5, ?_⟩
        dsimp only
        rw [cs5]
        exact ⟨cb3, cb4, .inl ⟨rfl, out ++ [⟨u.f0, u.f1, n⟩], v', X4, cs3, by rw [List.map_append]; exact mW ho', by rw [List.length_append, List.length_drop]; simp only [List.length_cons, List.length_nil]; omega, hd2, hsd⟩⟩
    · intro f X' hn f2 f3
      have hd2 : dX [] (gO S.length S) = none := by rw [hd]; simp only [dX, iW, hn, Option.bind_none]
      simp only [push_cast, ↓reduceIte, Nat.reduceEqDiff, reduceCtorEq, Nat.reduceAdd, Nat.reduceLT, Nat.reduceLeDiff]
      unfold uF
      refine ⟨.busy, none, cb5, ?_⟩
      dsimp only
      rw [cs5]
      exact ⟨cb3, cb4, .inr ⟨rfl, .done, some .ret, cb5, by simp, by rw [cs5]; exact q2 _ _ _ hd2⟩⟩
  · rintro H' ⟨out, v, X, rfl, ho, hlo, hd, hsr⟩
    exact ⟨.ready, none, cb5, by simp, by rw [cs5]; exact q1 _ _ _ out (mW ho) (by rw [hd]; rfl)⟩
end Go.Eng
end
section
set_option linter.unusedVariables false
set_option linter.unusedSimpArgs false
set_option maxRecDepth 10000
namespace Go.Eng
open Go Go.Proofs
structure OBX (H0 H : AH) (t : Nat) (hd vs : List AV) (ls : List (Nat × List AV)) (B : Nat) (bx : Nat × List AV) : Prop where
  o : OBL H0 H t hd vs ls
  bo : obj? H B = some bx
  bt : B ≠ t
  ba : ∀ (i : Nat) v, vs[i]? = some v → idx v ≠ some B
theorem OBL.low {H0 H : AH} {t : Nat} {hd vs : List AV} {ls : List (Nat × List AV)} (O : OBL H0 H t hd vs ls) {i : Nat} {v : AV} {u : Nat} (hi : vs[i]? = some v) (hu : idx v = some u) : H0.length ≤ u ∧ u < H.length := by
  have h3 : i < ls.length := by rw [← O.len]; exact (List.getElem?_eq_some_iff.1 hi).1
  exact (O.own i v _ hi (List.getElem?_eq_getElem h3)).idx_lt hu
theorem OBL.mono {H0 H J : AH} {t : Nat} {hd vs : List AV} {ls : List (Nat × List AV)} (O : OBL H0 H t hd vs ls) : OBL H0 (H ++ J) t hd vs ls :=
  ⟨aR O.pre, O.lt, bO (List.prefix_append _ _) O.ob, fun i v l h1 h2 => (O.own i v l h1 h2).mono, O.ap, O.apt, O.len⟩
theorem OBL.box {H0 H : AH} {t : Nat} {hd vs : List AV} {ls : List (Nat × List AV)} (O : OBL H0 H t hd vs ls) (sz : Nat) (es : List AV) : OBX H0 (H ++ [.live sz es]) t hd vs ls H.length (sz, es) :=
  ⟨O.mono, bA _ _ _, fun e => by have := bJ O.ob; omega, fun i v h e => by have := (O.low h e).2; omega⟩
theorem OBX.app {H0 H : AH} {t j sz B : Nat} {bx : Nat × List AV} {hd vs : List AV} {ls : List (Nat × List AV)} {v : AV} {l xs : List AV} (O : OBX H0 H t hd vs ls B bx) (hj : vs[j]? = some v) (hl : ls[j]? = some (sz, l)) :
    OBX H0 (List.set (kill v H ++ [.live sz (l ++ xs)]) t (.live (hd.length + vs.length) [.agg (hd ++ vs.set j (.ref sz H.length 0 (l ++ xs).length (l ++ xs).length false))])) t hd (vs.set j (.ref sz H.length 0 (l ++ xs).length (l ++ xs).length false)) (ls.set j (sz, l ++ xs)) B bx := by
  have hB := bJ O.bo
  refine ⟨O.o.app hj hl, ?_, O.bt, fun i w h e => ?_⟩
  · rw [bK (fun e => O.bt e.symm)]
    have := gT (H := H) (O.ba j v hj)
    exact bO (List.prefix_append _ _) (this.trans O.bo)
  · rw [List.getElem?_set] at h
    split at h
    · split at h
      · cases h; cases e; omega
      · cases h
    · exact O.ba i w h e
theorem OBX.put {H0 H : AH} {t j sz u n c B : Nat} {bx : Nat × List AV} {ex : Bool} {hd vs : List AV} {ls : List (Nat × List AV)} {l l' : List AV} (O : OBX H0 H t hd vs ls B bx) (hj : vs[j]? = some (.ref sz u 0 n c ex)) (hl : ls[j]? = some (sz, l)) (hlen : l'.length = l.length) :
    OBX H0 (List.set H u (.live sz l')) t hd vs (ls.set j (sz, l')) B bx :=
  ⟨O.o.put hj hl hlen, by rw [bK (fun e => O.ba j _ hj (by rw [idx, e]))]; exact O.bo, O.bt, O.ba⟩
theorem OBX.mid {H0 H J : AH} {t j B : Nat} {bx : Nat × List AV} {hd vs : List AV} {ls : List (Nat × List AV)} {v : AV} (O : OBX H0 H t hd vs ls B bx) (hj : vs[j]? = some v) : obj? (kill v H ++ J) t = some (hd.length + vs.length, [.agg (hd ++ vs)]) := by
  have := gT (H := H) (O.o.apt j v hj)
  exact bO (List.prefix_append _ _) (this.trans O.o.ob)
theorem OBX.mono {H0 H J : AH} {t B : Nat} {bx : Nat × List AV} {hd vs : List AV} {ls : List (Nat × List AV)} (O : OBX H0 H t hd vs ls B bx) : OBX H0 (H ++ J) t hd vs ls B bx :=
  ⟨O.o.mono, bO (List.prefix_append _ _) O.bo, O.bt, O.ba⟩
theorem OBX.appd {H0 H : AH} {t sz B : Nat} {bx : Nat × List AV} {hd vs : List AV} {ls : List (Nat × List AV)} {v : AV} {l : List AV} (O : OBX H0 H t hd vs ls B bx) (j bytes : Nat) (x : AV) (hj : vs[j]? = some v) (hl : ls[j]? = some (sz, l)) (hb : (l.length + 1) * bytes ≤ 140737488355328) :
    ∃ v' Hm H2, lR sz bytes v (.ref sz H.length 0 1 1 true) (H ++ [.live sz [x]]) = some (v', Hm) ∧ obj? Hm t = some (hd.length + vs.length, [.agg (hd ++ vs)]) ∧ cells v' = [v'] ∧ cS v' = true ∧ List.set Hm t (.live (hd.length + vs.length) [.agg (hd ++ vs.set j v')]) = H2 ∧ OBX H0 H2 t hd (vs.set j v') (ls.set j (sz, l ++ [x])) B bx := by
  have O1 := O.mono (J := [.live sz [x]])
  have ow := O1.o.own j v _ hj hl
  refine ⟨_, _, _, ow.app_eq (xs := [x]) (dN (by simp)) (by simp) (by simpa using hb), O1.mid hj, rfl, rfl, rfl, O1.app hj hl⟩
theorem OBX.sc {H0 H : AH} {t B : Nat} {bx : Nat × List AV} {hd vs : List AV} {ls : List (Nat × List AV)} (O : OBX H0 H t hd vs ls B bx) {i : Nat} {v : AV} (h : vs[i]? = some v) : cS v = true ∧ cells v = [v] := by
  have h3 : i < ls.length := by rw [← O.o.len]; exact (List.getElem?_eq_some_iff.1 h).1
  have := dH (O.o.own i v _ h (List.getElem?_eq_getElem h3))
  exact ⟨this.1, this.2.1⟩
theorem lN {H0 H : AH} {sz : Nat} {v : AV} {l : List AV} (h : Own H0 H sz v l) : dI v = some l.length := by
  rcases h with ⟨rfl, rfl⟩ | ⟨t, ex, _, rfl, _⟩ <;> rfl
theorem OBX.al {H0 H : AH} {t B : Nat} {bx : Nat × List AV} {hd vs : List AV} {ls : List (Nat × List AV)} (O : OBX H0 H t hd vs ls B bx) {i : Nat} {v : AV} {l : Nat × List AV} (h : vs[i]? = some v) (h2 : ls[i]? = some l) : dI v = some l.2.length := lN (O.o.own i v l h h2)
theorem FV (k : List Val) : cells (rowA k) = [rowA k] ∧ cS (rowA k) = true := ⟨rfl, rfl⟩
def lsB (b : Bt) : List (Nat × List AV) := [(2, b.since.map bC), (1, b.keys.map rowA), (1, b.kends.map lT), (1, b.rests.map rowA), (1, b.rends.map lT), (2, b.times.map bC), (1, b.ws.map lT)]
def hdB (b : Bt) : List AV := [.int .i64 b.key, .int .i64 b.weight]
theorem FW {α : Type} {l : List α} (h : l.length = 7) : ∃ a b c d e f g, l = [a, b, c, d, e, f, g] := by
  match l, h with
  | [a, b, c, d, e, f, g], _ => exact ⟨a, b, c, d, e, f, g, rfl⟩
def BX (H0 H : AH) (t : Nat) (b : Bt) (B : Nat) (u : Upd) : Prop := ∃ vs, OBX H0 H t (hdB b) vs (lsB b) B (4, [upA u])
def pL : AC := (.cond (.t 42) (.seq (.ops [oo 43 (.mov (.t 0)), oo 44 (.mov (.t 0)), oo 45 (.nilc (.t 44)), oo 46 (.faddr 3 (.t 45)), oo 47 (.load false 1 (.t 46)), oo 48 (.mov (.t 4)), oo 49 (.bsl 1 1 .nils [(0, (.t 48))]), oo 50 (.app 1 24 (.t 47) (.t 49)), oo 51 (.nilc (.t 43)), oo 52 (.faddr 3 (.t 51)), on (.store 1 (.t 52) (.t 50))]) (.ops [oo 159 (.mov (.t 0)), oo 160 (.mov (.t 0)), oo 161 (.nilc (.t 160)), oo 162 (.faddr 4 (.t 161)), oo 163 (.load false 1 (.t 162)), oo 164 (.mov (.t 0)), oo 165 (.nilc (.t 164)), oo 166 (.faddr 5 (.t 165)), oo 167 (.load false 1 (.t 166)), oo 168 (.len (.t 167)), oo 169 (.bsl 1 1 (.int .i64 0) [(0, (.t 168))]), oo 170 (.app 1 8 (.t 163) (.t 169)), oo 171 (.nilc (.t 159)), oo 172 (.faddr 4 (.t 171)), oo 173 (.store 1 (.t 172) (.t 170)), oo 53 (.mov (.t 159)), oo 54 (.mov (.t 160)), oo 55 (.mov (.t 161)), oo 56 (.mov (.t 162)), oo 57 (.mov (.t 163)), oo 58 (.mov (.t 164)), oo 59 (.mov (.t 165)), oo 60 (.mov (.t 166)), oo 61 (.mov (.t 167)), oo 62 (.mov (.t 168)), oo 63 (.mov (.t 169)), oo 64 (.mov (.t 170)), oo 65 (.mov (.t 171)), oo 66 (.mov (.t 172))])) .skip)
def pM : AC := (.cond (.t 84) (.seq (.ops [oo 85 (.mov (.t 0)), oo 86 (.mov (.t 0)), oo 87 (.nilc (.t 86)), oo 88 (.faddr 5 (.t 87)), oo 89 (.load false 1 (.t 88)), oo 90 (.mov (.t 5)), oo 91 (.bsl 1 1 .nils [(0, (.t 90))]), oo 92 (.app 1 24 (.t 89) (.t 91)), oo 93 (.nilc (.t 85)), oo 94 (.faddr 5 (.t 93)), on (.store 1 (.t 94) (.t 92))]) (.seq (.ops [oo 159 (.mov (.t 0)), oo 160 (.mov (.t 0)), oo 161 (.nilc (.t 160)), oo 162 (.faddr 6 (.t 161)), oo 163 (.load false 1 (.t 162)), oo 164 (.mov (.t 0)), oo 165 (.nilc (.t 164)), oo 166 (.faddr 7 (.t 165)), oo 167 (.load false 1 (.t 166)), oo 168 (.len (.t 167)), oo 169 (.bsl 1 1 (.int .i64 0) [(0, (.t 168))]), oo 170 (.app 1 8 (.t 163) (.t 169)), oo 171 (.nilc (.t 159)), oo 172 (.faddr 6 (.t 171)), oo 173 (.store 1 (.t 172) (.t 170)), oo 95 (.mov (.t 159)), oo 96 (.mov (.t 160)), oo 97 (.mov (.t 161)), oo 98 (.mov (.t 162)), oo 99 (.mov (.t 163)), oo 100 (.mov (.t 164)), oo 101 (.mov (.t 165)), oo 102 (.mov (.t 166)), oo 103 (.mov (.t 167)), oo 104 (.mov (.t 168)), oo 105 (.mov (.t 169)), oo 106 (.mov (.t 170)), oo 107 (.mov (.t 171)), oo 108 (.mov (.t 172))]) (.ops [oo 159 (.mov (.t 0)), oo 160 (.nilc (.t 159)), oo 161 (.faddr 4 (.t 160)), oo 162 (.load false 1 (.t 161)), oo 163 (.mov (.t 0)), oo 164 (.nilc (.t 163)), oo 165 (.faddr 4 (.t 164)), oo 166 (.load false 1 (.t 165)), oo 167 (.len (.t 166)), oo 168 (.bin .sub (.t 167) (.v (.int .i64 1))), oo 169 (.iaddr 1 (.t 162) (.t 168)), oo 170 (.load false 1 (.t 169)), oo 171 (.bin .add (.t 170) (.v (.int .i64 1))), oo 172 (.iaddr 1 (.t 162) (.t 168)), oo 173 (.store 1 (.t 172) (.t 171)), oo 109 (.mov (.t 159)), oo 110 (.mov (.t 160)), oo 111 (.mov (.t 161)), oo 112 (.mov (.t 162)), oo 113 (.mov (.t 163)), oo 114 (.mov (.t 164)), oo 115 (.mov (.t 165)), oo 116 (.mov (.t 166)), oo 117 (.mov (.t 167)), oo 118 (.mov (.t 168)), oo 119 (.mov (.t 169)), oo 120 (.mov (.t 170)), oo 121 (.mov (.t 171)), oo 122 (.mov (.t 172))]))) .skip)
def pO : AC := (.seq (.ops [oo 159 (.mov (.t 0)), oo 160 (.mov (.t 0)), oo 161 (.nilc (.t 160)), oo 162 (.faddr 7 (.t 161)), oo 163 (.load false 1 (.t 162)), oo 164 (.faddr 1 (.t 3)), oo 165 (.load true 2 (.t 164)), oo 166 (.bsl 2 1 (.agg [(.int .i64 0), (.int .i64 0)]) [(0, (.t 165))]), oo 167 (.app 2 16 (.t 163) (.t 166)), oo 168 (.nilc (.t 159)), oo 169 (.faddr 7 (.t 168)), oo 170 (.store 1 (.t 169) (.t 167)), oo 123 (.mov (.t 159)), oo 124 (.mov (.t 160)), oo 125 (.mov (.t 161)), oo 126 (.mov (.t 162)), oo 127 (.mov (.t 163)), oo 128 (.mov (.t 164)), oo 129 (.mov (.t 165)), oo 130 (.mov (.t 166)), oo 131 (.mov (.t 167)), oo 132 (.mov (.t 168)), oo 133 (.mov (.t 169))]) (.seq (.ops [oo 159 (.mov (.t 0)), oo 160 (.mov (.t 0)), oo 161 (.nilc (.t 160)), oo 162 (.faddr 8 (.t 161)), oo 163 (.load false 1 (.t 162)), oo 164 (.faddr 3 (.t 3)), oo 165 (.load false 1 (.t 164)), oo 166 (.bsl 1 1 (.int .i64 0) [(0, (.t 165))]), oo 167 (.app 1 8 (.t 163) (.t 166)), oo 168 (.nilc (.t 159)), oo 169 (.faddr 8 (.t 168)), oo 170 (.store 1 (.t 169) (.t 167)), oo 134 (.mov (.t 159)), oo 135 (.mov (.t 160)), oo 136 (.mov (.t 161)), oo 137 (.mov (.t 162)), oo 138 (.mov (.t 163)), oo 139 (.mov (.t 164)), oo 140 (.mov (.t 165)), oo 141 (.mov (.t 166)), oo 142 (.mov (.t 167)), oo 143 (.mov (.t 168)), oo 144 (.mov (.t 169))]) (.ops [oo 159 (.mov (.t 0)), oo 160 (.nilc (.t 159)), oo 161 (.faddr 6 (.t 160)), oo 162 (.load false 1 (.t 161)), oo 163 (.mov (.t 0)), oo 164 (.nilc (.t 163)), oo 165 (.faddr 6 (.t 164)), oo 166 (.load false 1 (.t 165)), oo 167 (.len (.t 166)), oo 168 (.bin .sub (.t 167) (.v (.int .i64 1))), oo 169 (.iaddr 1 (.t 162) (.t 168)), oo 170 (.load false 1 (.t 169)), oo 171 (.bin .add (.t 170) (.v (.int .i64 1))), oo 172 (.iaddr 1 (.t 162) (.t 168)), oo 173 (.store 1 (.t 172) (.t 171)), oo 145 (.mov (.t 159)), oo 146 (.mov (.t 160)), oo 147 (.mov (.t 161)), oo 148 (.mov (.t 162)), oo 149 (.mov (.t 163)), oo 150 (.mov (.t 164)), oo 151 (.mov (.t 165)), oo 152 (.mov (.t 166)), oo 153 (.mov (.t 167)), oo 154 (.mov (.t 168)), oo 155 (.mov (.t 169)), oo 156 (.mov (.t 170)), oo 157 (.mov (.t 171)), oo 158 (.mov (.t 172))])))
def ES : AC := (.ops [oo 159 (.faddr 0 (.t 3)), oo 160 (.load false 1 (.t 159)), oo 161 (.mov (.t 0)), oo 162 (.nilc (.t 161)), oo 163 (.faddr 0 (.t 162)), oo 164 (.load false 1 (.t 163)), oo 165 (.call 101 [(.t 160), (.t 164)]), oo 166 (.mov (.t 165)), oo 167 (.ext (.t 166) 0), oo 168 (.ext (.t 166) 1), oo 169 (.ext (.t 166) 2), oo 170 (.mov (.t 167)), oo 171 (.mov (.t 168)), oo 172 (.mov (.t 169)), oo 9 (.mov (.t 159)), oo 10 (.mov (.t 160)), oo 11 (.mov (.t 161)), oo 12 (.mov (.t 162)), oo 13 (.mov (.t 163)), oo 14 (.mov (.t 164)), oo 15 (.mov (.t 165)), oo 8 (.mov (.t 166)), oo 16 (.mov (.t 167)), oo 17 (.mov (.t 168)), oo 18 (.mov (.t 169)), oo 4 (.mov (.t 170)), oo 5 (.mov (.t 171)), oo 6 (.mov (.t 172))])
def ET : AC := (.ops [oo 159 (.mov (.t 0)), oo 160 (.nilc (.t 159)), oo 161 (.faddr 3 (.t 160)), oo 162 (.load false 1 (.t 161)), oo 163 (.len (.t 162)), oo 164 (.bin .eql (.t 163) (.v (.int .i64 0))), oo 165 (.mov (.t 164)), og 166 165 false (.mov (.t 0)), og 167 165 false (.nilc (.t 166)), og 168 165 false (.faddr 3 (.t 167)), og 169 165 false (.load false 1 (.t 168)), og 170 165 false (.mov (.t 0)), og 171 165 false (.nilc (.t 170)), og 172 165 false (.faddr 3 (.t 171)), og 173 165 false (.load false 1 (.t 172)), og 174 165 false (.len (.t 173)), og 175 165 false (.bin .sub (.t 174) (.v (.int .i64 1))), og 176 165 false (.iaddr 1 (.t 169) (.t 175)), og 177 165 false (.load false 1 (.t 176)), og 178 165 false (.mov (.t 4)), og 179 165 false (.call 102 [(.t 177), (.t 178)]), og 180 165 false (.un .not (.t 179)), oo 181 (.pick (.t 165) (.v (.bool true)) (.t 180)), oo 182 (.mov (.t 181)), oo 19 (.mov (.t 159)), oo 20 (.mov (.t 160)), oo 21 (.mov (.t 161)), oo 22 (.mov (.t 162)), oo 23 (.mov (.t 163)), oo 24 (.mov (.t 164)), oo 25 (.mov (.t 165)), oo 26 (.mov (.t 166)), oo 27 (.mov (.t 167)), oo 28 (.mov (.t 168)), oo 29 (.mov (.t 169)), oo 30 (.mov (.t 170)), oo 31 (.mov (.t 171)), oo 32 (.mov (.t 172)), oo 33 (.mov (.t 173)), oo 34 (.mov (.t 174)), oo 35 (.mov (.t 175)), oo 36 (.mov (.t 176)), oo 37 (.mov (.t 177)), oo 38 (.mov (.t 178)), oo 39 (.mov (.t 179)), oo 40 (.mov (.t 180)), oo 41 (.mov (.t 181)), oo 7 (.mov (.t 182))])
def EU : AC := (.ops [oo 159 (.mov (.t 7)), oo 160 (.mov (.t 159)), og 161 160 false (.mov (.t 0)), og 162 160 false (.nilc (.t 161)), og 163 160 false (.faddr 5 (.t 162)), og 164 160 false (.load false 1 (.t 163)), og 165 160 false (.mov (.t 0)), og 166 160 false (.nilc (.t 165)), og 167 160 false (.faddr 5 (.t 166)), og 168 160 false (.load false 1 (.t 167)), og 169 160 false (.len (.t 168)), og 170 160 false (.bin .sub (.t 169) (.v (.int .i64 1))), og 171 160 false (.iaddr 1 (.t 164) (.t 170)), og 172 160 false (.load false 1 (.t 171)), og 173 160 false (.mov (.t 5)), og 174 160 false (.call 102 [(.t 172), (.t 173)]), og 175 160 false (.un .not (.t 174)), oo 176 (.pick (.t 160) (.v (.bool true)) (.t 175)), oo 67 (.mov (.t 159)), oo 68 (.mov (.t 160)), oo 69 (.mov (.t 161)), oo 70 (.mov (.t 162)), oo 71 (.mov (.t 163)), oo 72 (.mov (.t 164)), oo 73 (.mov (.t 165)), oo 74 (.mov (.t 166)), oo 75 (.mov (.t 167)), oo 76 (.mov (.t 168)), oo 77 (.mov (.t 169)), oo 78 (.mov (.t 170)), oo 79 (.mov (.t 171)), oo 80 (.mov (.t 172)), oo 81 (.mov (.t 173)), oo 82 (.mov (.t 174)), oo 83 (.mov (.t 175)), oo 84 (.mov (.t 176))])
def F66 : AFn := ⟨159, 2, [], (.seq (.ops [oo 3 (.box 4 (.t 1))]) (.seq (ES) (.seq (ET) (.seq (.seq (.ops [oo 42 (.mov (.t 7))]) (pL)) (.seq (.seq (EU) (pM)) (pO))))))⟩
theorem c66 : aD Try.prog 66 = some F66 := by kernel_rfl
theorem qT (z : Int) : part false 1 0 (.int .i64 z) = some (.int .i64 z) := Eq.trans rfl rfl
theorem qU (z y : Int) : lQ (.int .i64 z) 0 [.int .i64 y] = .int .i64 y := Eq.trans rfl rfl
theorem EV {H0 H : AH} {t B : Nat} {b : Bt} {u : Upd} {k r : List Val} {nk : Bool} {f : AF} {Q : AE → AF → AH → Prop} (O : BX H0 H t b B u) (hk : b.keys.length < 1099511627776) (hke : b.kends.length < 1099511627776)
    (e0 : f 0 = .ptr t 0 0) (e3 : f 3 = .ptr B 0 0) (e4 : f 4 = rowA k) (e5 : f 5 = rowA r) (e7 : f 7 = .bool nk) (e42 : f 42 = .bool nk)
    (hQ : ∀ f H, BX H0 H t (if nk = true then sQ b k else b) B u → f 0 = .ptr t 0 0 → f 3 = .ptr B 0 0 → f 5 = rowA r → f 7 = .bool nk → Q .normal f H) : pL.wp Try.prog Q f H := by
  unfold pL
  cases nk with
  | false =>
    simp only [push_cast, ↓reduceIte, Nat.reduceEqDiff, reduceCtorEq, Nat.reduceAdd, Nat.reduceLT, Nat.reduceLeDiff, e42]
    exact hQ _ _ (by simpa using O) e0 e3 e5 e7
  | true =>
    obtain ⟨vs, O⟩ := O
    obtain ⟨v0, v1, v2, v3, v4, v5, v6, rfl⟩ := FW (l := vs) O.o.len
    have ob := O.o.ob
    have ob1 := O.mono (J := [.live 1 [rowA k]]).o.ob
    obtain ⟨w1, Hm, H2, ap, md, c1, c2, st, O2⟩ := O.appd 1 24 (rowA k) rfl rfl (by simp only [List.length_map]; omega)
    have ob2 := O2.o.ob
    have a3 : dI v3 = some (b.rests.map rowA).length := O2.al (i := 3) rfl rfl
    have ob3 := O2.mono (J := [.live 1 [.int .i64 b.rests.length]]).o.ob
    obtain ⟨w2, Hn, H3, ap2, md2, d1, d2, st2, O3⟩ := O2.appd 2 8 (.int .i64 b.rests.length) rfl rfl (by simp only [List.length_map]; omega)
    simp only [hdB, List.cons_append, List.nil_append, List.length_cons, List.length_nil, List.set_cons_zero, List.set_cons_succ, Nat.reduceAdd, List.length_set] at ob ob1 ob2 ob3 md md2 st st2 O2 O3
    rw [List.length_map] at a3
    simp only [push_cast, ↓reduceIte, Nat.reduceEqDiff, reduceCtorEq, Nat.reduceAdd, Nat.reduceLT, Nat.reduceLeDiff, aB, aA, e0, e3, e4, e42, ob, ob1, md, ap, FV, st, c1, c2, ob2, a3, ob3, md2, ap2, st2, d1, d2, Option.map_some]
    have e : lsB (sQ b k) = ((lsB b).set 1 (1, List.map rowA b.keys ++ [rowA k])).set 2 (1, List.map lT b.kends ++ [.int .i64 b.rests.length]) := by simp [lsB, sQ, lT]
    exact hQ _ _ ⟨_, by rw [if_pos rfl, e]; exact O3⟩ e0 e3 e5 e7
theorem mX (l : List Int) (z : Int) : sP (l ++ [z]) = l ++ [z + 1] := by
  unfold sP
  simp
theorem OBX.inc {H0 H : AH} {t B : Nat} {bx : Nat × List AV} {hd vs : List AV} {ls : List (Nat × List AV)} {v : AV} {l : List AV} (O : OBX H0 H t hd vs ls B bx) (j : Nat) (x y : AV) (hj : vs[j]? = some v) (hl : ls[j]? = some (1, l ++ [x])) :
    ∃ u L H2, dI v = some (l.length + 1) ∧ aF 1 v (.int .i64 (l.length : Int)) = some (.ptr u l.length 0) ∧ obj? H u = some (1, L) ∧ L[l.length]? = some x ∧ List.set H u (.live 1 (L.set l.length y)) = H2 ∧ OBX H0 H2 t hd vs (ls.set j (1, l ++ [y])) B bx := by
  have o := O.o.own j v _ hj hl
  rcases o with ⟨_, h⟩ | ⟨u, ex, hu, rfl, ho⟩
  · simp at h
  · dsimp only at ho hj
    refine ⟨u, l ++ [x], _, by simp [dI], by simp [aF, nat?], ho, by simp, rfl, ?_⟩
    have := O.put (l' := l ++ [y]) hj hl (by simp)
    have e : (l ++ [x]).set l.length y = l ++ [y] := by simp
    rw [e]
    exact this
theorem EW {H0 H : AH} {t B : Nat} {b : Bt} {u : Upd} {r : List Val} {nr : Bool} {ks : List Int} {z : Int} {f : AF} {Q : AE → AF → AH → Prop} (O : BX H0 H t b B u) (hr : b.rests.length < 1099511627776) (hre : b.rends.length < 1099511627776) (hke : b.kends.length < 1099511627776)
    (hk : b.kends = ks ++ [z]) (hz : 0 ≤ z ∧ z < 1099511627776) (e0 : f 0 = .ptr t 0 0) (e3 : f 3 = .ptr B 0 0) (e5 : f 5 = rowA r) (e84 : f 84 = .bool nr)
    (hQ : ∀ f H, BX H0 H t (if nr = true then lJ b r else b) B u → f 0 = .ptr t 0 0 → f 3 = .ptr B 0 0 → Q .normal f H) : pM.wp Try.prog Q f H := by
  unfold pM
  cases nr with
  | false =>
    simp only [push_cast, ↓reduceIte, Nat.reduceEqDiff, reduceCtorEq, Nat.reduceAdd, Nat.reduceLT, Nat.reduceLeDiff, e84]
    exact hQ _ _ (by simpa using O) e0 e3
  | true =>
    obtain ⟨vs, O⟩ := O
    obtain ⟨v0, v1, v2, v3, v4, v5, v6, rfl⟩ := FW (l := vs) O.o.len
    have ob := O.o.ob
    have ob1 := O.mono (J := [.live 1 [rowA r]]).o.ob
    obtain ⟨w1, Hm, H2, ap, md, c1, c2, st, O2⟩ := O.appd 3 24 (rowA r) rfl rfl (by simp only [List.length_map]; omega)
    have ob2 := O2.o.ob
    have a5 : dI v5 = some (b.times.map bC).length := O2.al (i := 5) rfl rfl
    have ob3 := O2.mono (J := [.live 1 [.int .i64 b.times.length]]).o.ob
    obtain ⟨w2, Hn, H3, ap2, md2, d1, d2, st2, O3⟩ := O2.appd 4 8 (.int .i64 b.times.length) rfl rfl (by simp only [List.length_map]; omega)
    have ob4 := O3.o.ob
    have hkm : lsB b = (lsB b).set 2 (1, ks.map lT ++ [.int .i64 z]) := by simp [lsB, hk, lT]
    rw [hkm] at O3
    obtain ⟨p, L, H4, al2, ad, op, gx, st3, O4⟩ := O3.inc 2 (.int .i64 z) (.int .i64 (z + 1)) rfl rfl
    have w64 : IntKind.i64.wrap (z + 1) = z + 1 := aG (by omega) (by omega)
    have hkl : ks.length < 1099511627776 := by rw [hk] at hke; simp at hke; omega
    rw [List.length_map] at al2 ad gx st3
    have wl : IntKind.i64.wrap (((ks.length + 1 : Nat) : Int) - 1) = (ks.length : Int) := by rw [aG (by omega) (by omega)]; omega
    simp only [hdB, List.cons_append, List.nil_append, List.length_cons, List.length_nil, List.set_cons_zero, List.set_cons_succ, Nat.reduceAdd, List.length_set] at ob ob1 ob2 ob3 ob4 md md2 st st2 O2 O3 O4 ad al2
    rw [List.length_map] at a5
    generalize hq : ks.length + 1 = q at al2 wl
    simp only [push_cast, ↓reduceIte, Nat.reduceEqDiff, reduceCtorEq, Nat.reduceAdd, Nat.reduceLT, Nat.reduceLeDiff, aB, aA, e0, e3, e5, e84, ob, ob1, md, ap, FV, st, c1, c2, ob2, a5, ob3, md2, ap2, st2, d1, d2, Option.map_some, ob4, al2, wl, ad, op, gx, st3, w64, qT, qU]
    have e : lsB (lJ b r) = ((((lsB b).set 2 (1, List.map lT ks ++ [.int .i64 z])).set 3 (1, List.map rowA b.rests ++ [rowA r])).set 4 (1, List.map lT b.rends ++ [.int .i64 b.times.length])).set 2 (1, List.map lT ks ++ [.int .i64 (z + 1)]) := by simp [lsB, lJ, lT, hk, mX]
    exact hQ _ _ ⟨_, by rw [if_pos rfl, e]; exact O4⟩ e0 e3
theorem AS {H0 H : AH} {t B : Nat} {b : Bt} {u : Upd} {ks : List Int} {z : Int} {f : AF} {Q : AE → AF → AH → Prop} (O : BX H0 H t b B u) (ht : b.times.length < 1099511627776) (hw : b.ws.length < 1099511627776) (hre : b.rends.length < 1099511627776)
    (hk : b.rends = ks ++ [z]) (hz : 0 ≤ z ∧ z < 1099511627776) (e0 : f 0 = .ptr t 0 0) (e3 : f 3 = .ptr B 0 0)
    (hQ : ∀ f H, BX H0 H t (gV b u.f1 u.f2) B u → Q .normal f H) : pO.wp Try.prog Q f H := by
  obtain ⟨vs, O⟩ := O
  obtain ⟨v0, v1, v2, v3, v4, v5, v6, rfl⟩ := FW (l := vs) O.o.len
  have ob := O.o.ob
  have bo := O.bo
  have ob1 := O.mono (J := [.live 2 [bC u.f1]]).o.ob
  obtain ⟨w1, Hm, H2, ap, md, c1, c2, st, O2⟩ := O.appd 5 16 (bC u.f1) rfl rfl (by simp only [List.length_map]; omega)
  have ob2 := O2.o.ob
  have bo2 := O2.bo
  have ob3 := O2.mono (J := [.live 1 [.int .i64 u.f2]]).o.ob
  obtain ⟨w2, Hn, H3, ap2, md2, d1, d2, st2, O3⟩ := O2.appd 6 8 (.int .i64 u.f2) rfl rfl (by simp only [List.length_map]; omega)
  have ob4 := O3.o.ob
  have hkm : lsB b = (lsB b).set 4 (1, ks.map lT ++ [.int .i64 z]) := by simp [lsB, hk, lT]
  rw [hkm] at O3
  obtain ⟨p, L, H4, al2, ad, op, gx, st3, O4⟩ := O3.inc 4 (.int .i64 z) (.int .i64 (z + 1)) rfl rfl
  have w64 : IntKind.i64.wrap (z + 1) = z + 1 := aG (by omega) (by omega)
  have hkl : ks.length < 1099511627776 := by rw [hk] at hre; simp at hre; omega
  rw [List.length_map] at al2 ad gx st3
  have wl : IntKind.i64.wrap (((ks.length + 1 : Nat) : Int) - 1) = (ks.length : Int) := by rw [aG (by omega) (by omega)]; omega
  simp only [hdB, List.cons_append, List.nil_append, List.length_cons, List.length_nil, List.set_cons_zero, List.set_cons_succ, Nat.reduceAdd, List.length_set] at ob ob1 ob2 ob3 ob4 md md2 st st2 O2 O3 O4 ad al2
  generalize hq : ks.length + 1 = q at al2 wl
  have f1 : part true 2 1 (upA u) = some (bC u.f1) := rfl
  have f2 : part false 1 3 (upA u) = some (.int .i64 u.f2) := rfl
  have k1 : cells (bC u.f1) = [.int .i64 u.f1.f0, .int .i64 u.f1.f1] := rfl
  unfold pO
  simp only [push_cast, ↓reduceIte, Nat.reduceEqDiff, reduceCtorEq, Nat.reduceAdd, Nat.reduceLT, Nat.reduceLeDiff, aB, aA, e0, e3, ob, bo, ob1, md, ap, f1, f2, k1, st, c1, c2, ob2, bo2, ob3, md2, ap2, st2, d1, d2, Option.map_some, ob4, al2, wl, ad, op, gx, st3, w64, qT, qU]
  have e : lsB (gV b u.f1 u.f2) = ((((lsB b).set 4 (1, List.map lT ks ++ [.int .i64 z])).set 5 (2, List.map bC b.times ++ [bC u.f1])).set 6 (1, List.map lT b.ws ++ [.int .i64 u.f2])).set 4 (1, List.map lT ks ++ [.int .i64 (z + 1)]) := by simp [lsB, gV, lT, hk, mX]
  exact hQ _ _ ⟨_, by rw [e]; exact O4⟩
theorem OBX.last {H0 H : AH} {t B : Nat} {bx : Nat × List AV} {hd vs : List AV} {ls : List (Nat × List AV)} {v : AV} {l : List AV} (O : OBX H0 H t hd vs ls B bx) (j : Nat) (x : AV) (hj : vs[j]? = some v) (hl : ls[j]? = some (1, l ++ [x])) :
    ∃ u L, dI v = some (l.length + 1) ∧ aF 1 v (.int .i64 (l.length : Int)) = some (.ptr u l.length 0) ∧ obj? H u = some (1, L) ∧ L[l.length]? = some x := by
  obtain ⟨u, L, _, h1, h2, h3, h4, _⟩ := O.inc j x x hj hl
  exact ⟨u, L, h1, h2, h3, h4⟩
theorem lO (k : List Val) : part false 1 0 (rowA k) = some (rowA k) := Eq.trans rfl rfl
theorem LU {H0 H : AH} {t B : Nat} {b : Bt} {u : Upd} {k r : List Val} {f : AF} {Q : AE → AF → AH → Prop} (O : BX H0 H t b B u) (hk : b.keys.length < 1099511627776) (hkl : ∀ x ∈ b.keys, x.length < 1099511627776) (hkk : k.length < 1099511627776)
    (e0 : f 0 = .ptr t 0 0) (e3 : f 3 = .ptr B 0 0) (e4 : f 4 = rowA k) (e5 : f 5 = rowA r)
    (hQ : ∀ f, f 0 = .ptr t 0 0 → f 3 = .ptr B 0 0 → f 4 = rowA k → f 5 = rowA r → f 7 = .bool (iU b.keys k) → Q .normal f H) : ET.wp Try.prog Q f H := by
  obtain ⟨vs, O⟩ := O
  obtain ⟨v0, v1, v2, v3, v4, v5, v6, rfl⟩ := FW (l := vs) O.o.len
  have ob := O.o.ob
  unfold ET
  rcases List.eq_nil_or_concat b.keys with h | ⟨ks, x, h⟩
  · have al : dI v1 = some (b.keys.map rowA).length := O.al (i := 1) rfl rfl
    rw [h] at al
    simp only [hdB, List.cons_append, List.nil_append, List.length_cons, List.length_nil, List.set_cons_zero, List.set_cons_succ, Nat.reduceAdd, List.length_set] at ob
    rw [List.map_nil, List.length_nil] at al
    simp only [push_cast, ↓reduceIte, Nat.reduceEqDiff, reduceCtorEq, Nat.reduceAdd, Nat.reduceLT, Nat.reduceLeDiff, aB, aA, e0, e3, ob, al]
    exact hQ _ e0 e3 e4 e5 (by rw [h]; rfl)
  · rw [List.concat_eq_append] at h
    have hkm : lsB b = (lsB b).set 1 (1, ks.map rowA ++ [rowA x]) := by simp [lsB, h]
    rw [hkm] at O
    obtain ⟨p, L, al, ad, op, gx⟩ := O.last 1 (rowA x) rfl rfl
    rw [List.length_map] at al ad gx
    have hl : ks.length < 1099511627776 := by rw [h] at hk; simp at hk; omega
    have wl : IntKind.i64.wrap (((ks.length + 1 : Nat) : Int) - 1) = (ks.length : Int) := by rw [aG (by omega) (by omega)]; omega
    have ne : ¬ ((ks.length + 1 : Nat) : Int) = 0 := by omega
    simp only [hdB, List.cons_append, List.nil_append, List.length_cons, List.length_nil, List.set_cons_zero, List.set_cons_succ, Nat.reduceAdd, List.length_set] at ob
    generalize hq : ks.length + 1 = q at al wl ne
    simp only [push_cast, ↓reduceIte, Nat.reduceEqDiff, reduceCtorEq, Nat.reduceAdd, Nat.reduceLT, Nat.reduceLeDiff, aB, aA, e0, e3, e4, ob, al, ne, wl, ad, op, gx, lO, decide_false]
    (refine aC.look (CD _ _ x k _ rfl rfl (hkl x (by rw [h]; simp)) hkk) ?_; simp only [push_cast, ↓reduceIte, Nat.reduceEqDiff, reduceCtorEq, Nat.reduceAdd, Nat.reduceLT, Nat.reduceLeDiff, aB, aA, e0, e3, e4])
    exact hQ _ e0 e3 e4 e5 (by rw [h, eM]; rfl)
theorem LV {H0 H : AH} {t B : Nat} {b : Bt} {u : Upd} {r : List Val} {nk : Bool} {f : AF} {Q : AE → AF → AH → Prop} (O : BX H0 H t b B u) (hk : b.rests.length < 1099511627776) (hkl : ∀ x ∈ b.rests, x.length < 1099511627776) (hkk : r.length < 1099511627776) (hne : nk = false → b.rests ≠ [])
    (e0 : f 0 = .ptr t 0 0) (e3 : f 3 = .ptr B 0 0) (e5 : f 5 = rowA r) (e7 : f 7 = .bool nk)
    (hQ : ∀ f, f 0 = .ptr t 0 0 → f 3 = .ptr B 0 0 → f 5 = rowA r → f 84 = .bool (nk || iU b.rests r) → Q .normal f H) : EU.wp Try.prog Q f H := by
  obtain ⟨vs, O⟩ := O
  obtain ⟨v0, v1, v2, v3, v4, v5, v6, rfl⟩ := FW (l := vs) O.o.len
  have ob := O.o.ob
  unfold EU
  cases nk with
  | true =>
    simp only [hdB, List.cons_append, List.nil_append, List.length_cons, List.length_nil, List.set_cons_zero, List.set_cons_succ, Nat.reduceAdd, List.length_set] at ob
    simp only [push_cast, ↓reduceIte, Nat.reduceEqDiff, reduceCtorEq, Nat.reduceAdd, Nat.reduceLT, Nat.reduceLeDiff, aB, aA, e0, e3, e7, ob]
    exact hQ _ e0 e3 e5 rfl
  | false =>
    rcases List.eq_nil_or_concat b.rests with h | ⟨ks, x, h⟩
    · exact absurd h (hne rfl)
    · rw [List.concat_eq_append] at h
      have hkm : lsB b = (lsB b).set 3 (1, ks.map rowA ++ [rowA x]) := by simp [lsB, h]
      rw [hkm] at O
      obtain ⟨p, L, al, ad, op, gx⟩ := O.last 3 (rowA x) rfl rfl
      rw [List.length_map] at al ad gx
      have hl : ks.length < 1099511627776 := by rw [h] at hk; simp at hk; omega
      have wl : IntKind.i64.wrap (((ks.length + 1 : Nat) : Int) - 1) = (ks.length : Int) := by rw [aG (by omega) (by omega)]; omega
      simp only [hdB, List.cons_append, List.nil_append, List.length_cons, List.length_nil, List.set_cons_zero, List.set_cons_succ, Nat.reduceAdd, List.length_set] at ob
      generalize hq : ks.length + 1 = q at al wl
      simp only [push_cast, ↓reduceIte, Nat.reduceEqDiff, reduceCtorEq, Nat.reduceAdd, Nat.reduceLT, Nat.reduceLeDiff, aB, aA, e0, e3, e5, e7, ob, al, wl, ad, op, gx, lO, decide_false]
      (refine aC.look (CD _ _ x r _ rfl rfl (hkl x (by rw [h]; simp)) hkk) ?_; simp only [push_cast, ↓reduceIte, Nat.reduceEqDiff, reduceCtorEq, Nat.reduceAdd, Nat.reduceLT, Nat.reduceLeDiff, aB, aA, e0, e3, e5, e7])
      exact hQ _ e0 e3 e5 (by rw [h, eM]; rfl)
theorem LW {H0 H : AH} {t B : Nat} {b : Bt} {u : Upd} {f : AF} {Q : AE → AF → AH → Prop} (O : BX H0 H t b B u) (hu : u.f0.length < 1099511627776) (hk : 0 ≤ b.key ∧ b.key ≤ u.f0.length)
    (e0 : f 0 = .ptr t 0 0) (e3 : f 3 = .ptr B 0 0)
    (hQ : ∀ f, f 0 = .ptr t 0 0 → f 3 = .ptr B 0 0 → f 4 = rowA (u.f0.take b.key.toNat) → f 5 = rowA (u.f0.drop b.key.toNat) → Q .normal f H) : ES.wp Try.prog Q f H := by
  obtain ⟨vs, O⟩ := O
  obtain ⟨v0, v1, v2, v3, v4, v5, v6, rfl⟩ := FW (l := vs) O.o.len
  have ob := O.o.ob
  have bo := O.bo
  have f1 : part false 1 0 (upA u) = some (rowA u.f0) := rfl
  unfold ES
  simp only [hdB, List.cons_append, List.nil_append, List.length_cons, List.length_nil, List.set_cons_zero, List.set_cons_succ, Nat.reduceAdd, List.length_set] at ob
  simp only [push_cast, ↓reduceIte, Nat.reduceEqDiff, reduceCtorEq, Nat.reduceAdd, Nat.reduceLT, Nat.reduceLeDiff, aB, aA, e0, e3, ob, bo, f1]
  have e : AA u.f0 b.key = .tup [rowA (u.f0.take b.key.toNat), rowA (u.f0.drop b.key.toNat), .int .i64 0] := by
    unfold AA
    rw [if_neg (by omega)]
  (refine aC.look (LP u.f0 b.key _ hu) ?_; simp only [push_cast, ↓reduceIte, Nat.reduceEqDiff, reduceCtorEq, Nat.reduceAdd, Nat.reduceLT, Nat.reduceLeDiff, aB, aA, e0, e3, e])
  exact hQ _ e0 e3 rfl rfl
theorem pP {b : Bt} {g : Gr} (G : Gs b g) : b.keys.length ≤ b.rests.length ∧ b.rests.length ≤ b.times.length ∧ b.kends.length = b.keys.length ∧ b.rends.length = b.rests.length ∧ b.ws.length = b.times.length := by
  have h1 := pK (fun x : List Val × List Rst => x.2) g G.ne1
  have h2 := pK (fun y : Rst => y.2) (g.flatMap (·.2)) G.ne2
  refine ⟨?_, ?_, ?_, ?_, ?_⟩
  · rw [G.keys, G.rests, List.length_map, List.length_map]; exact h1
  · rw [G.rests, G.times, List.length_map, List.length_map]; exact h2
  · rw [G.kends, G.keys, qS, List.length_map, List.length_map]
  · rw [G.rends, G.rests, qS, List.length_map, List.length_map]
  · rw [G.ws, G.times, List.length_map, List.length_map]
theorem AU {b : Bt} {g : Gr} (G : Gs b g) (h : b.keys ≠ []) : ∃ ks, b.kends = ks ++ [(b.rests.length : Int)] := by
  have hg : g ≠ [] := fun e => h (by rw [G.keys, e]; rfl)
  obtain ⟨g', x, rfl⟩ := lL g hg
  refine ⟨jB 0 (g'.map (·.2.length)), ?_⟩
  rw [G.kends, G.rests, List.map_append, List.map_cons, List.map_nil, cZ, List.length_map, List.length_flatMap]
  simp
theorem AW {b : Bt} {g : Gr} (G : Gs b g) (h : b.rests ≠ []) : ∃ ks, b.rends = ks ++ [(b.times.length : Int)] := by
  have hg : g.flatMap (·.2) ≠ [] := fun e => h (by rw [G.rests, e]; rfl)
  obtain ⟨g', x, e⟩ := lL _ hg
  refine ⟨jB 0 (g'.map (·.2.length)), ?_⟩
  rw [G.rends, G.times, e, List.map_append, List.map_cons, List.map_nil, cZ, List.length_map, List.length_flatMap]
  simp
theorem LX {H0 H : AH} {t : Nat} {b : Bt} {g : Gr} {vs : List AV} (u : Upd) (O : OBL H0 H t (hdB b) vs (lsB b)) (G : Gs b g) (hu : u.f0.length < 1099511627776) (hk : 0 ≤ b.key ∧ b.key ≤ u.f0.length) (hkl : ∀ x ∈ b.keys, x.length < 1099511627776) (hrl : ∀ x ∈ b.rests, x.length < 1099511627776) (ht : b.times.length + 1 < 1099511627776) :
    aC Try.prog 66 [.ptr t 0 0, upA u] H fun r H' => r = .tup [] ∧ ∃ vs', OBL H0 H' t (hdB (iV b u)) vs' (lsB (iV b u)) := by
  refine aP c66 (by simp [F66]) ?_
  unfold F66
  obtain ⟨l1, l2, l3, l4, l5⟩ := pP G
  have cu : cells (upA u) = [rowA u.f0, .int .i64 u.f1.f0, .int .i64 u.f1.f1, .int .i64 u.f2] := rfl
  have su : (4 : Nat) = (cells (upA u)).length := rfl
  simp only [push_cast, ↓reduceIte, Nat.reduceEqDiff, reduceCtorEq, Nat.reduceAdd, Nat.reduceLT, Nat.reduceLeDiff, cu, FV]
  have O0 : BX H0 (H ++ [.live 4 [upA u]]) t b H.length u := ⟨vs, O.box 4 [upA u]⟩
  generalize hk1 : u.f0.take b.key.toNat = k
  generalize hr1 : u.f0.drop b.key.toNat = r
  have hkl1 : k.length < 1099511627776 := by rw [← hk1, List.length_take]; omega
  have hrl1 : r.length < 1099511627776 := by rw [← hr1, List.length_drop]; omega
  refine LW O0 hu hk rfl rfl fun f e0 e3 e4 e5 => ?_
  rw [hk1] at e4
  rw [hr1] at e5
  simp only [push_cast, ↓reduceIte, Nat.reduceEqDiff, reduceCtorEq, Nat.reduceAdd, Nat.reduceLT, Nat.reduceLeDiff]
  refine LU O0 (by omega) hkl hkl1 e0 e3 e4 e5 fun f e0 e3 e4 e5 e7 => ?_
  generalize hnk : iU b.keys k = nk at e7
  simp only [push_cast, ↓reduceIte, Nat.reduceEqDiff, reduceCtorEq, Nat.reduceAdd, Nat.reduceLT, Nat.reduceLeDiff, e7]
  refine EV O0 (by omega) (by omega) e0 e3 e4 e5 e7 (by simp only [push_cast, ↓reduceIte, Nat.reduceEqDiff, reduceCtorEq, Nat.reduceAdd, Nat.reduceLT, Nat.reduceLeDiff]) fun f H2 O2 e0 e3 e5 e7 => ?_
  have hb2 : ∃ b2, b2 = (if nk = true then sQ b k else b) := ⟨_, rfl⟩
  obtain ⟨b2, hb2⟩ := hb2
  rw [← hb2] at O2
  have q1 : b2.rests = b.rests ∧ b2.rends = b.rends ∧ b2.times = b.times ∧ b2.ws = b.ws := by rw [hb2]; split <;> exact ⟨rfl, rfl, rfl, rfl⟩
  obtain ⟨q1, q2, q3, q4⟩ := q1
  have hne : nk = false → b.keys ≠ [] := fun e h => by rw [h] at hnk; rw [← hnk] at e; cases e
  have q5 : ∃ ks, b2.kends = ks ++ [(b.rests.length : Int)] := by
    cases nk with
    | true => exact ⟨b.kends, by rw [hb2]; rfl⟩
    | false => rw [hb2]; exact AU G (hne rfl)
  have q6 : b2.kends.length ≤ b.kends.length + 1 := by rw [hb2]; split <;> simp [sQ]
  obtain ⟨ks, q5⟩ := q5
  simp only [push_cast, ↓reduceIte, Nat.reduceEqDiff, reduceCtorEq, Nat.reduceAdd, Nat.reduceLT, Nat.reduceLeDiff]
  refine LV (r := r) (nk := nk) O2 (by rw [q1]; omega) (by rw [q1]; exact hrl) hrl1 (fun e h => ?_) e0 e3 e5 e7 fun f e0 e3 e5 e84 => ?_
  · have := List.length_pos_iff.2 (hne e)
    rw [← q1, h] at l1
    simp at l1
    exact hne e l1
  rw [q1] at e84
  generalize hnr : (nk || iU b.rests r) = nr at e84
  simp only [push_cast, ↓reduceIte, Nat.reduceEqDiff, reduceCtorEq, Nat.reduceAdd, Nat.reduceLT, Nat.reduceLeDiff]
  refine EW O2 (by rw [q1]; omega) (by rw [q2]; omega) (by omega) q5 (by omega) e0 e3 e5 e84 fun f H3 O3 e0 e3 => ?_
  obtain ⟨b3, hb3⟩ : ∃ b3, b3 = (if nr = true then lJ b2 r else b2) := ⟨_, rfl⟩
  rw [← hb3] at O3
  have p1 : b3.times = b.times ∧ b3.ws = b.ws ∧ b3.rends.length ≤ b.rends.length + 1 := by
    rw [hb3]; split
    · refine ⟨q3, q4, ?_⟩
      simp only [lJ, List.length_append, q2, List.length_singleton]
      omega
    · exact ⟨q3, q4, by rw [q2]; omega⟩
  have p2 : ∃ ks, b3.rends = ks ++ [(b.times.length : Int)] := by
    cases nr with
    | true => exact ⟨b.rends, by rw [hb3]; simp only [↓reduceIte, lJ, q2, q3]⟩
    | false =>
      rw [hb3]
      simp only [Bool.false_eq_true, ↓reduceIte, q2]
      refine AW G fun h => ?_
      have : nk = false := by cases nk <;> simp_all
      have := hne this
      rw [h] at l1
      simp at l1
      exact this l1
  obtain ⟨ks3, p2⟩ := p2
  simp only [push_cast, ↓reduceIte, Nat.reduceEqDiff, reduceCtorEq, Nat.reduceAdd, Nat.reduceLT, Nat.reduceLeDiff]
  refine AS O3 (by rw [p1.1]; omega) (by rw [p1.2.1]; omega) (by omega) p2 (by omega) e0 e3 fun f H4 O4 => ?_
  have fin : gV b3 u.f1 u.f2 = iV b u := by
    unfold iV
    rw [hb3, hb2, hk1, hr1, hnk, ← hnr]
    cases nk with
    | true => rfl
    | false =>
      cases iU b.rests r <;> rfl
  rw [fin] at O4
  obtain ⟨vs4, O4⟩ := O4
  have hh : hdB (iV b u) = hdB b := by
    obtain ⟨a1, a2, _⟩ := lK b u
    unfold hdB; rw [a1, a2]
  simp only [push_cast, ↓reduceIte, Nat.reduceEqDiff, reduceCtorEq, Nat.reduceAdd, Nat.reduceLT, Nat.reduceLeDiff]
  exact ⟨vs4, O4.o⟩
end Go.Eng
end
section
set_option linter.unusedSimpArgs false
set_option linter.unusedVariables false
set_option maxRecDepth 10000
namespace Go.Eng
open Go Go.Proofs
def okT (t : Tm) : Int := if (if t.f1 < t.f0 then t.f1 else t.f0) < 0 ∨ (if t.f1 > t.f0 then t.f1 else t.f0) > 1099511627776 then 7 else 0
def F94 : AFn := ⟨17, 1, [.t 2], (.seq (.ops [oo 1 (.box 2 (.t 0)), oo 2 (.mov (.v (.int .i64 0)))]) (.seq (.seq (.ops [oo 3 (.faddr 0 (.t 1)), oo 4 (.load false 1 (.t 3)), oo 5 (.faddr 1 (.t 1)), oo 6 (.load false 1 (.t 5)), oo 7 (.mn (.t 4) [(.t 6)]), oo 8 (.bin .lss (.t 7) (.v (.int .i64 0))), oo 9 (.mov (.t 8)), og 10 9 false (.faddr 0 (.t 1)), og 11 9 false (.load false 1 (.t 10)), og 12 9 false (.faddr 1 (.t 1)), og 13 9 false (.load false 1 (.t 12)), og 14 9 false (.mx (.t 11) [(.t 13)]), og 15 9 false (.bin .gtr (.t 14) (.v (.int .i64 1099511627776))), oo 16 (.pick (.t 9) (.v (.bool true)) (.t 15))]) (.cond (.t 16) (.seq (.ops [oo 2 (.mov (.v (.int .i64 7)))]) .ret) .skip)) (.seq (.ops [oo 2 (.mov (.v (.int .i64 0)))]) .ret)))⟩
theorem c94 : aD Try.prog 94 = some F94 := by kernel_rfl
theorem xF (t : Tm) (H : AH) : aC Try.prog 94 [bC t] H fun r H' => r = .int .i64 (okT t) ∧ H' = H := by
  refine aI c94 (fun _ => rfl) (by simp [F94]) ?_
  unfold F94 bC okT
  generalize t.f0 = a
  generalize t.f1 = b
  by_cases h1 : (if b < a then b else a) < 0
  · rw [if_pos (.inl h1)]
    simp only [push_cast, ↓reduceIte, Nat.reduceEqDiff, reduceCtorEq, Nat.reduceAdd, Nat.reduceLT, Nat.reduceLeDiff, aB, aA, h1, decide_true]
    (repeat (first | exact List.prefix_refl _ | refine List.IsPrefix.trans ?_ (List.prefix_append _ _)))
  · by_cases h2 : (if b > a then b else a) > 1099511627776
    · rw [if_pos (.inr h2)]
      simp only [push_cast, ↓reduceIte, Nat.reduceEqDiff, reduceCtorEq, Nat.reduceAdd, Nat.reduceLT, Nat.reduceLeDiff, aB, aA, h1, h2, decide_true, decide_false]
      (repeat (first | exact List.prefix_refl _ | refine List.IsPrefix.trans ?_ (List.prefix_append _ _)))
    · rw [if_neg (fun h => h.elim h1 h2)]
      simp only [push_cast, ↓reduceIte, Nat.reduceEqDiff, reduceCtorEq, Nat.reduceAdd, Nat.reduceLT, Nat.reduceLeDiff, aB, aA, h1, h2, decide_true, decide_false]
      (repeat (first | exact List.prefix_refl _ | refine List.IsPrefix.trans ?_ (List.prefix_append _ _)))
def F95 : AFn := ⟨26, 2, [.t 4], (.seq (.ops [oo 4 (.mov (.v (.bool false)))]) (.seq (.seq (.ops [oo 6 (.mov (.t 0)), oo 7 (.len (.t 6)), oo 8 (.mov (.t 1)), oo 9 (.len (.t 8)), oo 10 (.bin .neq (.t 7) (.t 9))]) (.cond (.t 10) (.seq (.ops [oo 4 (.mov (.v (.bool false)))]) .ret) .skip)) (.seq (.seq (.ops [oo 11 (.mov (.t 0)), oo 12 (.len (.t 11)), oo 13 (.mov (.v (.int .i64 0)))]) (.block 0 (.loop (.seq (.ops [oo 14 (.bin .lss (.t 13) (.t 12))]) (.seq (.cond (.t 14) .skip (.exit 0)) (.seq (.block 1 (.seq (.ops [oo 15 (.mov (.t 13)), oo 5 (.mov (.t 15))]) (.seq (.ops [oo 26 (.mov (.t 0)), oo 27 (.mov (.t 5)), oo 28 (.iaddr 2 (.t 26) (.t 27)), oo 29 (.load true 2 (.t 28)), oo 30 (.mov (.t 1)), oo 31 (.mov (.t 5)), oo 32 (.iaddr 2 (.t 30) (.t 31)), oo 33 (.load true 2 (.t 32)), oo 34 (.eqa true [0, 0] (.t 29) (.t 33)), oo 16 (.mov (.t 26)), oo 17 (.mov (.t 27)), oo 18 (.mov (.t 28)), oo 19 (.mov (.t 29)), oo 20 (.mov (.t 30)), oo 21 (.mov (.t 31)), oo 22 (.mov (.t 32)), oo 23 (.mov (.t 33)), oo 24 (.mov (.t 34))]) (.cond (.t 24) (.seq (.ops [oo 4 (.mov (.v (.bool false)))]) .ret) .skip)))) (.ops [oo 25 (.bin .add (.t 13) (.v (.int .i64 1))), oo 13 (.mov (.t 25))]))))))) (.seq (.ops [oo 4 (.mov (.v (.bool true)))]) .ret))))⟩
theorem c95 : aD Try.prog 95 = some F95 := by kernel_rfl
instance : DecidableEq Tm := fun a b => decidable_of_iff (a.f0 = b.f0 ∧ a.f1 = b.f1) (by cases a; cases b; simp)
theorem IZ (s t : Tm) : CL [0, 0] [.int .i64 s.f0, .int .i64 s.f1] [.int .i64 t.f0, .int .i64 t.f1] = some (decide (s = t)) := by
  obtain ⟨a, b⟩ := s
  obtain ⟨c, d⟩ := t
  by_cases h : a = c <;> by_cases h2 : b = d <;> simp [CL, JV, h, h2]
theorem xG (x y : AV) (a b : List Tm) (H : AH) (hx : elems 2 x H = some (a.map bC)) (hy : elems 2 y H = some (b.map bC)) (ha : b.length < 1099511627776) : aC Try.prog 95 [x, y] H fun r H' => r = .bool (decide (a = b)) ∧ H' = H := by
  refine aI c95 (fun _ => rfl) (by simp [F95]) ?_
  unfold F95
  have la := aS hx
  have lb := aS hy
  rw [List.length_map] at la lb
  by_cases hab : a.length = b.length
  · have hz : ¬ ((a.length : Int) ≠ b.length) := by omega
    rw [hab] at la
    have hz : ¬ ((b.length : Int) ≠ b.length) := by omega
    simp only [push_cast, ↓reduceIte, Nat.reduceEqDiff, reduceCtorEq, Nat.reduceAdd, Nat.reduceLT, Nat.reduceLeDiff, la, lb]
    refine aJ (fun (i : Nat) f H' => H' = H ∧ i ≤ b.length ∧ f 13 = .int .i64 i ∧ f 12 = .int .i64 b.length ∧ f 0 = x ∧ f 1 = y ∧ (a = b ↔ a.drop i = b.drop i)) (fun i => b.length - i) 0 ⟨rfl, Nat.zero_le _, rfl, rfl, rfl, rfl, Iff.rfl⟩ ?_
    rintro i f H' ⟨rfl, h1, e13, e12, e0, e1, ho⟩
    by_cases hi : i < b.length
    · have hi' : (i : Int) < b.length := by omega
      have hi2 : i < a.length := by omega
      have ax : aF 2 x (.int .i64 (i : Int)) = some (ptk x i 0) := aN hx (by rw [List.length_map]; exact hi2) _
      have ay : aF 2 y (.int .i64 (i : Int)) = some (ptk y i 0) := aN hy (by rw [List.length_map]; exact hi) _
      have lx : (a.map bC)[i]? = some (bC a[i]) := by simp [hi2]
      have ly : (b.map bC)[i]? = some (bC b[i]) := by simp [hi]
      rw [List.drop_eq_getElem_cons hi2, List.drop_eq_getElem_cons hi] at ho
      generalize a[i] = s at lx ho
      generalize b[i] = t at ly ho
      simp only [push_cast, ↓reduceIte, Nat.reduceEqDiff, reduceCtorEq, Nat.reduceAdd, Nat.reduceLT, Nat.reduceLeDiff, aB, aA, e13, e12, e0, e1, hi', ax, ay, aU hx lx, aU hy ly, List.prefix_refl, bC]
      rw [IZ]
      by_cases hst : s = t
      · rw [decide_eq_true hst]
        simp only [push_cast, ↓reduceIte, Nat.reduceEqDiff, reduceCtorEq, Nat.reduceAdd, Nat.reduceLT, Nat.reduceLeDiff, e13, e12, e0, e1]
        refine ⟨i + 1, ⟨hi, ?_, ?_⟩, by omega⟩
        · rw [aG (by omega) (by omega)]; simp
        · rw [ho, hst]; simp
      · rw [decide_eq_false hst]
        have hb : (false != true) = true := rfl
        simp only [push_cast, ↓reduceIte, Nat.reduceEqDiff, reduceCtorEq, Nat.reduceAdd, Nat.reduceLT, Nat.reduceLeDiff, e13, e12, e0, e1, hb]
        exact ⟨List.prefix_refl _, by rw [decide_eq_false (fun h => hst (List.cons.inj (ho.1 h)).1)]⟩
    · have hi' : ¬ (i : Int) < b.length := by omega
      simp only [push_cast, ↓reduceIte, Nat.reduceEqDiff, reduceCtorEq, Nat.reduceAdd, Nat.reduceLT, Nat.reduceLeDiff, e13, e12, hi']
      rw [List.drop_eq_nil_of_le (by omega : a.length ≤ i), List.drop_eq_nil_of_le (by omega : b.length ≤ i)] at ho
      exact ⟨List.prefix_refl _, by rw [decide_eq_true (ho.2 rfl)]⟩
  · have hz : ((a.length : Int) ≠ b.length) := by omega
    simp only [push_cast, ↓reduceIte, Nat.reduceEqDiff, reduceCtorEq, Nat.reduceAdd, Nat.reduceLT, Nat.reduceLeDiff, la, lb, hz]
    exact ⟨List.prefix_refl _, by rw [decide_eq_false (fun h => hab (by rw [h]))]⟩
def iX (l : List Tm) : Int := if l.length > 1024 then 3 else match l.find? (fun t => decide (okT t ≠ 0)) with | some t => okT t | none => if AG l = l then 0 else 6
def F62 : AFn := ⟨26, 1, [.t 2], (.seq (.ops [oo 2 (.mov (.v (.int .i64 0)))]) (.seq (.seq (.ops [oo 6 (.mov (.t 0)), oo 7 (.len (.t 6)), oo 8 (.bin .gtr (.t 7) (.v (.int .i64 1024)))]) (.cond (.t 8) (.seq (.ops [oo 2 (.mov (.v (.int .i64 3)))]) .ret) .skip)) (.seq (.seq (.ops [oo 9 (.mov (.t 0)), oo 10 (.len (.t 9)), oo 11 (.mov (.v (.int .i64 0)))]) (.block 0 (.loop (.seq (.ops [oo 12 (.bin .lss (.t 11) (.t 10))]) (.seq (.cond (.t 12) .skip (.exit 0)) (.seq (.block 1 (.seq (.ops [oo 13 (.iaddr 2 (.t 9) (.t 11)), oo 14 (.load true 2 (.t 13)), oo 4 (.alloc 2 (.agg [(.int .i64 0), (.int .i64 0)])), on (.store 2 (.t 4) (.t 14))]) (.seq (.ops [oo 15 (.load true 2 (.t 4)), oo 16 (.call 94 [(.t 15)]), oo 5 (.mov (.t 16))]) (.seq (.ops [oo 17 (.mov (.t 5)), oo 18 (.bin .neq (.t 17) (.v (.int .i64 0)))]) (.cond (.t 18) (.seq (.ops [oo 19 (.mov (.t 5)), oo 2 (.mov (.t 19))]) .ret) .skip))))) (.ops [oo 20 (.bin .add (.t 11) (.v (.int .i64 1))), oo 11 (.mov (.t 20))]))))))) (.seq (.seq (.ops [oo 21 (.mov (.t 0)), oo 22 (.call 67 [(.t 21)]), oo 23 (.mov (.t 0)), oo 24 (.call 95 [(.t 22), (.t 23)]), oo 25 (.un .not (.t 24))]) (.cond (.t 25) (.seq (.ops [oo 2 (.mov (.v (.int .i64 6)))]) .ret) .skip)) (.seq (.ops [oo 2 (.mov (.v (.int .i64 0)))]) .ret)))))⟩
theorem c62 : aD Try.prog 62 = some F62 := by kernel_rfl
theorem EX (x : AV) (l : List Tm) (H : AH) (hx : elems 2 x H = some (l.map bC)) (hl : l.length < 1099511627776) : aC Try.prog 62 [x] H fun r H' => r = .int .i64 (iX l) ∧ H' = H := by
  refine aI c62 (fun _ => rfl) (by simp [F62]) ?_
  unfold F62 iX
  have la := aS hx
  rw [List.length_map] at la
  by_cases h0 : l.length > 1024
  · have h0' : (l.length : Int) > 1024 := by omega
    rw [if_pos h0]
    simp only [push_cast, ↓reduceIte, Nat.reduceEqDiff, reduceCtorEq, Nat.reduceAdd, Nat.reduceLT, Nat.reduceLeDiff, la, h0']
    exact List.prefix_refl _
  · have h0' : ¬ (l.length : Int) > 1024 := by omega
    rw [if_neg h0]
    simp only [push_cast, ↓reduceIte, Nat.reduceEqDiff, reduceCtorEq, Nat.reduceAdd, Nat.reduceLT, Nat.reduceLeDiff, la, h0']
    refine aJ (fun (i : Nat) f H' => H <+: H' ∧ i ≤ l.length ∧ f 11 = .int .i64 i ∧ f 10 = .int .i64 l.length ∧ f 0 = x ∧ f 9 = x ∧ l.find? (fun t => decide (okT t ≠ 0)) = (l.drop i).find? (fun t => decide (okT t ≠ 0))) (fun i => l.length - i) 0 ⟨List.prefix_refl _, Nat.zero_le _, rfl, rfl, rfl, rfl, rfl⟩ ?_
    rintro i f H' ⟨hp, h1, e11, e10, e0, e9, ho⟩
    by_cases hi : i < l.length
    · have hi' : (i : Int) < l.length := by omega
      have ax : aF 2 x (.int .i64 (i : Int)) = some (ptk x i 0) := aN hx (by rw [List.length_map]; exact hi) _
      have lx : (l.map bC)[i]? = some (bC l[i]) := by simp [hi]
      rw [List.drop_eq_getElem_cons hi, List.find?_cons] at ho
      generalize l[i] = t at lx ho
      by_cases ht : okT t = 0
      · rw [show decide (okT t ≠ 0) = false by simp [ht]] at ho
        simp only [push_cast, ↓reduceIte, Nat.reduceEqDiff, reduceCtorEq, Nat.reduceAdd, Nat.reduceLT, Nat.reduceLeDiff, aB, aA, e11, e10, e0, e9, hi', ax, aU hx lx, hp, bC]
        (refine aC.look (xF t _) ?_; simp only [push_cast, ↓reduceIte, Nat.reduceEqDiff, reduceCtorEq, Nat.reduceAdd, Nat.reduceLT, Nat.reduceLeDiff, aB, aA, e11, e10, e0, e9, ht])
        refine ⟨i + 1, ⟨aR hp, hi, ?_, ho⟩, by omega⟩
        rw [aG (by omega) (by omega)]; simp
      · rw [show decide (okT t ≠ 0) = true by simp [ht]] at ho
        simp only [push_cast, ↓reduceIte, Nat.reduceEqDiff, reduceCtorEq, Nat.reduceAdd, Nat.reduceLT, Nat.reduceLeDiff, aB, aA, e11, e10, e0, e9, hi', ax, aU hx lx, hp, bC]
        (refine aC.look (xF t _) ?_; simp only [push_cast, ↓reduceIte, Nat.reduceEqDiff, reduceCtorEq, Nat.reduceAdd, Nat.reduceLT, Nat.reduceLeDiff, aB, aA, e11, e10, e0, e9, ht])
        rw [ho]
        exact ⟨aR hp, rfl⟩
    · have hi' : ¬ (i : Int) < l.length := by omega
      rw [List.drop_eq_nil_of_le (by omega : l.length ≤ i)] at ho
      rw [ho]
      dsimp only [List.find?_nil]
      simp only [push_cast, ↓reduceIte, Nat.reduceEqDiff, reduceCtorEq, Nat.reduceAdd, Nat.reduceLT, Nat.reduceLeDiff, e11, e10, e0, hi']
      (refine aC.look (LS x l _ (bB hx hp) hl) ?_; simp only [push_cast, ↓reduceIte, Nat.reduceEqDiff, reduceCtorEq, Nat.reduceAdd, Nat.reduceLT, Nat.reduceLeDiff, aB, aA, e0])
      by_cases hn : AG l = l
      · (refine aC.look (xG (jX (AG l)) x (AG l) l _ rfl (bB hx hp) hl) ?_; simp only [push_cast, ↓reduceIte, Nat.reduceEqDiff, reduceCtorEq, Nat.reduceAdd, Nat.reduceLT, Nat.reduceLeDiff, aB, aA, hn, decide_true])
        exact hp
      · (refine aC.look (xG (jX (AG l)) x (AG l) l _ rfl (bB hx hp) hl) ?_; simp only [push_cast, ↓reduceIte, Nat.reduceEqDiff, reduceCtorEq, Nat.reduceAdd, Nat.reduceLT, Nat.reduceLeDiff, aB, aA, hn, decide_false])
        exact hp
end Go.Eng
end
section
namespace Go.Eng
open Go
set_option linter.unusedVariables false
set_option linter.unusedSimpArgs false
theorem xH : ∀ (k : Nat) (l : List Upd), (∀ g ∈ gO k l, g ≠ [] ∧ ∀ x ∈ g, x ∈ l) ∧ (gO k l).length ≤ l.length
  | 0, l => ⟨fun g h => by simp [gO] at h, Nat.zero_le _⟩
  | k + 1, [] => ⟨fun g h => by simp [gO] at h, Nat.zero_le _⟩
  | k + 1, x :: r => by
    have hg : 1 ≤ eH (x :: r) := by simp [eH]
    obtain ⟨h1, h2⟩ := xH k ((x :: r).drop (eH (x :: r)))
    refine ⟨fun g h => ?_, ?_⟩
    · simp only [gO] at h
      rcases List.mem_cons.1 h with h | h
      · rw [h]
        refine ⟨fun e => ?_, fun y hy => List.mem_of_mem_take hy⟩
        have := congrArg List.length e
        rw [List.length_take, List.length_cons] at this
        simp at this
        omega
      · exact ⟨(h1 g h).1, fun y hy => List.mem_of_mem_drop ((h1 g h).2 y hy)⟩
    · simp only [gO, List.length_cons]
      rw [List.length_drop, List.length_cons] at h2
      omega
theorem sL {l x : List Upd} (hl : l ≠ []) (h : iW l = some x) : x.length ≤ 1 ∧ ∀ u ∈ x, ∃ v ∈ l, u.f0 = v.f0 ∧ u.f1 = v.f1 := by
  unfold iW at h
  cases hs : CF 0 l with
  | none => rw [hs] at h; cases h
  | some n =>
    rw [hs] at h
    dsimp only at h
    split at h
    · cases h; exact ⟨Nat.zero_le _, fun u hu => by simp at hu⟩
    · cases h
      refine ⟨Nat.le_refl _, fun u hu => ?_⟩
      cases l with
      | nil => exact absurd rfl hl
      | cons y r => rw [List.mem_singleton.1 hu]; exact ⟨y, List.mem_cons_self, rfl, rfl⟩
theorem mY : ∀ (ls : List (List Upd)) (out o : List Upd), dX out ls = some o → (∀ l ∈ ls, l ≠ []) → o.length ≤ out.length + ls.length ∧ ∀ u ∈ o, u ∈ out ∨ ∃ l ∈ ls, ∃ v ∈ l, u.f0 = v.f0 ∧ u.f1 = v.f1
  | [], out, o, h, _ => by cases h; exact ⟨Nat.le_refl _, fun u hu => .inl hu⟩
  | l :: r, out, o, h, hne => by
    simp only [dX] at h
    cases ho : iW l with
    | none => rw [ho] at h; cases h
    | some x =>
      rw [ho] at h
      obtain ⟨h1, h2⟩ := mY r _ o h (fun q hq => hne q (List.mem_cons_of_mem _ hq))
      obtain ⟨h3, h4⟩ := sL (hne l List.mem_cons_self) ho
      refine ⟨by rw [List.length_append] at h1; rw [List.length_cons]; omega, fun u hu => ?_⟩
      rcases h2 u hu with h5 | ⟨q, hq, v, hv, h5⟩
      · rcases List.mem_append.1 h5 with h5 | h5
        · exact .inl h5
        · obtain ⟨v, hv, e⟩ := h4 u h5
          exact .inr ⟨l, List.mem_cons_self, v, hv, e⟩
      · exact .inr ⟨q, List.mem_cons_of_mem _ hq, v, hv, h5⟩
theorem iY (l : List Upd) : (dA l).1.length ≤ l.length ∧ ∀ u ∈ (dA l).1, ∃ v ∈ l, u.f0 = v.f0 ∧ u.f1 = v.f1 := by
  unfold dA
  have hlen := Stab.sortS_len EH l
  cases h : dX [] (gO l.length (Stab.sortS fR l)) with
  | none => exact ⟨Nat.zero_le _, fun u hu => by simp at hu⟩
  | some o =>
    obtain ⟨g1, g2⟩ := xH l.length (Stab.sortS fR l)
    obtain ⟨h1, h2⟩ := mY _ [] o h (fun q hq => (g1 q hq).1)
    refine ⟨by simp at h1; show o.length ≤ _; omega, fun u hu => ?_⟩
    rcases h2 u hu with h3 | ⟨q, hq, v, hv, e⟩
    · simp at h3
    · exact ⟨v, (Stab.sortS_mem l v).1 ((g1 q hq).2 v hv), e⟩
theorem xI (l : List Upd) (h : (dA l).2 ≠ 0) : (dA l).1 = [] := by
  unfold dA at h ⊢
  cases hc : dX [] (gO l.length (Stab.sortS fR l)) with
  | none => rfl
  | some z => rw [hc] at h; exact absurd rfl h
end Go.Eng
end
section
set_option linter.unusedVariables false
set_option linter.unusedSimpArgs false
set_option maxRecDepth 10000
namespace Go.Eng
open Go Go.Proofs
def gE (since : List Tm) (l : List Upd) : List Upd := if since = [] then l else l.map (xY since)
def fS (key : Int) (l : List Upd) : Bool := l.any fun u => decide ((u.f0.length : Int) < key)
def fT (key : Int) (l : List Upd) (since : List Tm) : Int :=
  if key < 0 ∨ key > 16 then 1 else if fS key l = true then 9 else if iX since ≠ 0 then iX since else (dA (gE since l)).2
def jC (key : Int) (l : List Upd) (since : List Tm) : Bt := bH (Bt.none_ key l.length since) (dA (gE since l)).1
theorem qW (since : List Tm) (l : List Upd) : (gE since l).length = l.length := by unfold gE; split <;> simp
theorem qX {since : List Tm} {l : List Upd} {u : Upd} (h : u ∈ gE since l) : ∃ v ∈ l, u.f0 = v.f0 := by
  unfold gE at h
  split at h
  · exact ⟨u, h, rfl⟩
  · obtain ⟨v, hv, rfl⟩ := List.mem_map.1 h
    exact ⟨v, hv, rfl⟩
def xJ : AC := (.block 2 (.loop (.seq (.ops [oo 64 (.bin .lss (.t 63) (.t 62))]) (.seq (.cond (.t 64) .skip (.exit 2)) (.seq (.block 3 (.seq (.ops [oo 65 (.iaddr 4 (.t 61) (.t 63)), oo 66 (.load true 4 (.t 65)), oo 15 (.alloc 4 (.agg [.nils, (.int .i64 0), (.int .i64 0), (.int .i64 0)])), on (.store 4 (.t 15) (.t 66))]) (.ops [oo 67 (.mov (.t 13)), oo 68 (.load true 4 (.t 15)), oo 69 (.call 66 [(.t 67), (.t 68)])]))) (.ops [oo 70 (.bin .add (.t 63) (.v (.int .i64 1))), oo 63 (.mov (.t 70))]))))))
def xK : AC := (.block 0 (.loop (.seq (.ops [oo 25 (.bin .lss (.t 24) (.t 23))]) (.seq (.cond (.t 25) .skip (.exit 0)) (.seq (.block 1 (.seq (.ops [oo 26 (.iaddr 4 (.t 22) (.t 24)), oo 27 (.load true 4 (.t 26)), oo 9 (.alloc 4 (.agg [.nils, (.int .i64 0), (.int .i64 0), (.int .i64 0)])), on (.store 4 (.t 9) (.t 27))]) (.seq (.ops [oo 28 (.faddr 0 (.t 9)), oo 29 (.load false 1 (.t 28)), oo 30 (.len (.t 29)), oo 31 (.mov (.t 0)), oo 32 (.bin .lss (.t 30) (.t 31))]) (.cond (.t 32) (.seq (.ops [oo 6 (.mov (.v .nilp)), oo 7 (.mov (.v (.int .i64 9)))]) .ret) .skip)))) (.ops [oo 33 (.bin .add (.t 24) (.v (.int .i64 1))), oo 24 (.mov (.t 33))]))))))
def pQ : AC := (.cond (.t 42) (.ops [oo 43 (.mov (.t 1)), oo 44 (.mov (.t 2)), oo 45 (.call 63 [(.t 43), (.t 44)]), oo 11 (.mov (.t 45))]) .skip)
def pR : AC := (.seq (.ops [oo 47 (.mov (.t 11)), oo 48 (.call 64 [(.t 47)]), oo 46 (.mov (.t 48)), oo 49 (.ext (.t 46) 0), oo 50 (.ext (.t 46) 1), oo 11 (.mov (.t 49)), oo 12 (.mov (.t 50))]) (.seq (.seq (.ops [oo 51 (.mov (.t 12)), oo 52 (.bin .neq (.t 51) (.v (.int .i64 0)))]) (.cond (.t 52) (.seq (.ops [oo 53 (.mov (.t 12)), oo 6 (.mov (.v .nilp)), oo 7 (.mov (.t 53))]) .ret) .skip)) (.seq (.ops [oo 54 (.mov (.t 0)), oo 55 (.mov (.t 1)), oo 56 (.len (.t 55)), oo 57 (.mov (.t 2)), oo 58 (.call 65 [(.t 57)]), oo 59 (.build [(.int .i64 0), (.int .i64 0), .nils, .nils, .nils, .nils, .nils, .nils, .nils] [(0, 1, (.t 54)), (1, 1, (.t 56)), (2, 1, (.t 58))]), oo 60 (.box 9 (.t 59)), oo 13 (.mov (.t 60))]) (.seq (.seq (.ops [oo 61 (.mov (.t 11)), oo 62 (.len (.t 61)), oo 63 (.mov (.v (.int .i64 0)))]) (xJ)) (.seq (.ops [oo 71 (.mov (.t 13)), oo 6 (.mov (.t 71)), oo 7 (.mov (.v (.int .i64 0)))]) .ret)))))
def F18 : AFn := ⟨72, 3, [.t 6, .t 7], (.seq (.ops [oo 6 (.mov (.v .nilp)), oo 7 (.mov (.v (.int .i64 0)))]) (.seq (.seq (.ops [oo 16 (.mov (.t 0)), oo 17 (.bin .lss (.t 16) (.v (.int .i64 0))), oo 18 (.mov (.t 17)), og 19 18 false (.mov (.t 0)), og 20 18 false (.bin .gtr (.t 19) (.v (.int .i64 16))), oo 21 (.pick (.t 18) (.v (.bool true)) (.t 20))]) (.cond (.t 21) (.seq (.ops [oo 6 (.mov (.v .nilp)), oo 7 (.mov (.v (.int .i64 1)))]) .ret) .skip)) (.seq (.seq (.ops [oo 22 (.mov (.t 1)), oo 23 (.len (.t 22)), oo 24 (.mov (.v (.int .i64 0)))]) (xK)) (.seq (.seq (.ops [oo 34 (.mov (.t 2)), oo 35 (.call 62 [(.t 34)]), oo 10 (.mov (.t 35))]) (.seq (.ops [oo 36 (.mov (.t 10)), oo 37 (.bin .neq (.t 36) (.v (.int .i64 0)))]) (.cond (.t 37) (.seq (.ops [oo 38 (.mov (.t 10)), oo 6 (.mov (.v .nilp)), oo 7 (.mov (.t 38))]) .ret) .skip))) (.seq (.ops [oo 39 (.mov (.t 1)), oo 11 (.mov (.t 39))]) (.seq (.seq (.ops [oo 40 (.mov (.t 2)), oo 41 (.len (.t 40)), oo 42 (.bin .gtr (.t 41) (.v (.int .i64 0)))]) (pQ)) (pR)))))))⟩
theorem c18 : aD Try.prog 18 = some F18 := by kernel_rfl
theorem EY {x y : AV} {l : List Upd} {key : Int} {H H' : AH} {f : AF} {Q : AE → AF → AH → Prop} (hx : elems 4 x H = some (l.map upA)) (hp : H <+: H') (hl : l.length < 1099511627776) (e0 : f 0 = .int .i64 key) (e1 : f 1 = x) (e2 : f 2 = y) (e22 : f 22 = x) (e23 : f 23 = .int .i64 l.length) (e24 : f 24 = .int .i64 0)
    (h1 : fS key l = true → ∀ f H', H <+: H' → f 6 = .nilp → f 7 = .int .i64 9 → Q .ret f H')
    (h2 : fS key l = false → ∀ f H', H <+: H' → f 0 = .int .i64 key → f 1 = x → f 2 = y → Q .normal f H') : xK.wp Try.prog Q f H' := by
  unfold xK
  simp only [push_cast, ↓reduceIte, Nat.reduceEqDiff, reduceCtorEq, Nat.reduceAdd, Nat.reduceLT, Nat.reduceLeDiff]
  refine aJ (fun (i : Nat) f H' => H <+: H' ∧ i ≤ l.length ∧ f 0 = .int .i64 key ∧ f 1 = x ∧ f 2 = y ∧ f 22 = x ∧ f 23 = .int .i64 l.length ∧ f 24 = .int .i64 i ∧ fS key (l.take i) = false) (fun i => l.length - i) 0 ⟨hp, Nat.zero_le _, e0, e1, e2, e22, e23, e24, rfl⟩ ?_
  rintro i f H2 ⟨hp2, h3, e0, e1, e2, e22, e23, e24, hs⟩
  by_cases hi : i < l.length
  · have hi' : (i : Int) < l.length := by omega
    have ax : aF 4 x (.int .i64 (i : Int)) = some (ptk x i 0) := aN hx (by rw [List.length_map]; exact hi) _
    have lx : (l.map upA)[i]? = some (upA l[i]) := by simp [hi]
    have hs2 : fS key (l.take (i + 1)) = (fS key (l.take i) || decide ((l[i].f0.length : Int) < key)) := by
      unfold fS
      rw [List.take_succ_eq_append_getElem hi, List.any_append]
      simp
    have hmem : l[i] ∈ l := List.getElem_mem hi
    generalize l[i] = u at lx hs2 hmem
    have f1 : part true 4 0 (upA u) = some (upA u) := rfl
    have hlu : dI (rowA u.f0) = some u.f0.length := by simp [rowA, dI]
    have k0 : part false 1 0 (upA u) = some (rowA u.f0) := rfl
    have pz : lQ (.agg [.nils, .int .i64 0, .int .i64 0, .int .i64 0]) 0 [rowA u.f0, .int .i64 u.f1.f0, .int .i64 u.f1.f1, .int .i64 u.f2] = upA u := rfl
    have cu : cells (upA u) = [rowA u.f0, .int .i64 u.f1.f0, .int .i64 u.f1.f1, .int .i64 u.f2] := rfl
    by_cases hc : (u.f0.length : Int) < key
    · simp only [push_cast, ↓reduceIte, Nat.reduceEqDiff, reduceCtorEq, Nat.reduceAdd, Nat.reduceLT, Nat.reduceLeDiff, aB, aA, e0, e1, e2, e22, e23, e24, hi', ax, aU hx lx, hp2, f1, cu, FV, hlu, k0, pz, hc, decide_true]
      refine h1 ?_ _ _ (aR hp2) rfl rfl
      exact List.any_eq_true.2 ⟨u, hmem, by simpa using hc⟩
    · simp only [push_cast, ↓reduceIte, Nat.reduceEqDiff, reduceCtorEq, Nat.reduceAdd, Nat.reduceLT, Nat.reduceLeDiff, aB, aA, e0, e1, e2, e22, e23, e24, hi', ax, aU hx lx, hp2, f1, cu, FV, hlu, k0, pz, hc, decide_false]
      refine ⟨i + 1, ⟨aR hp2, hi, ?_, ?_⟩, by omega⟩
      · rw [aG (by omega) (by omega)]; simp
      · rw [hs2, hs]; simpa using hc
  · have hi' : ¬ (i : Int) < l.length := by omega
    simp only [push_cast, ↓reduceIte, Nat.reduceEqDiff, reduceCtorEq, Nat.reduceAdd, Nat.reduceLT, Nat.reduceLeDiff, e23, e24, hi']
    rw [List.take_of_length_le (by omega)] at hs
    exact h2 hs _ _ hp2 e0 e1 e2
structure Vd (N : Nat) (b : Bt) : Prop where
  wk : ∀ x ∈ b.keys, x.length < N
  wr : ∀ x ∈ b.rests, x.length < N
theorem EZ {N : Nat} {b : Bt} {u : Upd} (hv : Vd N b) (hu : u.f0.length < N) : Vd N (iV b u) := by
  have h1 : (u.f0.take b.key.toNat).length < N := by rw [List.length_take]; omega
  have h2 : (u.f0.drop b.key.toNat).length < N := by rw [List.length_drop]; omega
  have k : Vd N (sQ b (u.f0.take b.key.toNat)) := ⟨fun x hx => by
    rcases List.mem_append.1 hx with hx | hx
    · exact hv.wk x hx
    · rw [List.mem_singleton.1 hx]; exact h1, hv.wr⟩
  have r : ∀ b', Vd N b' → Vd N (lJ b' (u.f0.drop b.key.toNat)) := fun b' h => ⟨h.wk, fun x hx => by
    rcases List.mem_append.1 hx with hx | hx
    · exact h.wr x hx
    · rw [List.mem_singleton.1 hx]; exact h2⟩
  have t : ∀ b', Vd N b' → Vd N (gV b' u.f1 u.f2) := fun b' h => ⟨h.wk, h.wr⟩
  unfold iV
  split
  · exact t _ (r _ k)
  · split
    · exact t _ (r _ hv)
    · exact t _ hv
theorem iZ {N : Nat} : ∀ (l : List Upd) (b : Bt), Vd N b → (∀ u ∈ l, u.f0.length < N) → Vd N (bH b l)
  | [], b, h, _ => h
  | u :: r, b, h, hl => iZ r (iV b u) (EZ h (hl u List.mem_cons_self)) fun v hv => hl v (List.mem_cons_of_mem _ hv)
theorem pS (b : Bt) (l : List Upd) (u : Upd) : bH b (l ++ [u]) = iV (bH b l) u := by simp [bH]
theorem FA {H0 H' : AH} {t : Nat} {b0 : Bt} {vs : List AV} {cl : List Upd} {f : AF} {Q : AE → AF → AH → Prop} (O : OBL H0 H' t (hdB b0) vs (lsB b0)) (G : Gs b0 []) (hv : Vd 1099511627776 b0) (hk0 : 0 ≤ b0.key) (hcl : cl.length < 1099511627776) (hs : ∀ u ∈ cl, u.f0.length < 1099511627776) (hk : ∀ u ∈ cl, b0.key ≤ u.f0.length)
    (e13 : f 13 = .ptr t 0 0) (e61 : f 61 = upsA cl) (e62 : f 62 = .int .i64 cl.length) (e63 : f 63 = .int .i64 0)
    (hQ : ∀ f H' vs, OBL H0 H' t (hdB (bH b0 cl)) vs (lsB (bH b0 cl)) → f 13 = .ptr t 0 0 → Q .normal f H') : xJ.wp Try.prog Q f H' := by
  unfold xJ
  simp only [push_cast, ↓reduceIte, Nat.reduceEqDiff, reduceCtorEq, Nat.reduceAdd, Nat.reduceLT, Nat.reduceLeDiff]
  refine aJ (fun (i : Nat) f H' => i ≤ cl.length ∧ f 13 = .ptr t 0 0 ∧ f 61 = upsA cl ∧ f 62 = .int .i64 cl.length ∧ f 63 = .int .i64 i ∧ ∃ vs, OBL H0 H' t (hdB (bH b0 (cl.take i))) vs (lsB (bH b0 (cl.take i)))) (fun i => cl.length - i) 0 ⟨Nat.zero_le _, e13, e61, e62, e63, vs, O⟩ ?_
  rintro i f H2 ⟨h3, e13, e61, e62, e63, vs, O⟩
  have hgs := mT (cl.take i) b0 [] G
  obtain ⟨k1, _, _, k4, _⟩ := jY (cl.take i) b0
  have hvd := iZ (cl.take i) b0 hv (fun u hu => hs u (List.mem_of_mem_take hu))
  have htm : b0.times = [] := G.times
  by_cases hi : i < cl.length
  · have hi' : (i : Int) < cl.length := by omega
    have ax : aF 4 (upsA cl) (.int .i64 (i : Int)) = some (.lptr 4 (cl.map upA) i 0) := by simp [upsA, aF, nat?, hi]
    have lx : (cl.map upA)[i]? = some (upA cl[i]) := by simp [hi]
    have hsn : bH b0 (cl.take (i + 1)) = iV (bH b0 (cl.take i)) cl[i] := by rw [List.take_succ_eq_append_getElem hi, pS]
    have hmem : cl[i] ∈ cl := List.getElem_mem hi
    have hlt : (bH b0 (cl.take i)).times.length = i := by rw [k4, htm, List.nil_append, List.length_map, List.length_take]; omega
    generalize bH b0 (cl.take i) = b at hgs k1 hvd hsn O hlt
    generalize cl[i] = u at lx hsn hmem
    have f1 : part true 4 0 (upA u) = some (upA u) := rfl
    have pz : lQ (.agg [.nils, .int .i64 0, .int .i64 0, .int .i64 0]) 0 [rowA u.f0, .int .i64 u.f1.f0, .int .i64 u.f1.f1, .int .i64 u.f2] = upA u := rfl
    have cu : cells (upA u) = [rowA u.f0, .int .i64 u.f1.f0, .int .i64 u.f1.f1, .int .i64 u.f2] := rfl
    simp only [push_cast, ↓reduceIte, Nat.reduceEqDiff, reduceCtorEq, Nat.reduceAdd, Nat.reduceLT, Nat.reduceLeDiff, aB, aA, e13, e61, e62, e63, hi', ax, lx, f1, cu, FV, pz]
    refine (LX u O.mono hgs (hs u hmem) (by rw [k1]; exact ⟨hk0, hk u hmem⟩) hvd.wk hvd.wr (by omega)).mono fun r H3 ⟨hr, vs', O3⟩ => ?_
    simp only [push_cast, ↓reduceIte, Nat.reduceEqDiff, reduceCtorEq, Nat.reduceAdd, Nat.reduceLT, Nat.reduceLeDiff, e13, e61, e62, e63]
    refine ⟨i + 1, ⟨hi, ?_, vs', ?_⟩, by omega⟩
    · rw [aG (by omega) (by omega)]; simp
    · rw [hsn]; exact O3
  · have hi' : ¬ (i : Int) < cl.length := by omega
    simp only [push_cast, ↓reduceIte, Nat.reduceEqDiff, reduceCtorEq, Nat.reduceAdd, Nat.reduceLT, Nat.reduceLeDiff, e13, e62, e63, hi']
    rw [List.take_of_length_le (by omega)] at O
    exact hQ _ _ _ O e13
theorem AX {H0 H : AH} {b : Bt} {s : AV} (hs : Own H0 H 2 s (b.since.map bC)) (hp : H0 <+: H) (h : lsB b = [(2, b.since.map bC), (1, []), (1, []), (1, []), (1, []), (2, []), (1, [])]) :
    OBL H0 (H ++ [.live 9 [.agg (hdB b ++ [s, .nils, .nils, .nils, .nils, .nils, .nils])]]) H.length (hdB b) [s, .nils, .nils, .nils, .nils, .nils, .nils] (lsB b) := by
  have low : ∀ (i : Nat) v u, [s, .nils, .nils, .nils, .nils, .nils, .nils][i]? = some v → idx v = some u → i = 0 ∧ v = s := fun i v u h1 h2 => by
    match i with
    | 0 => cases h1; exact ⟨rfl, rfl⟩
    | 1 | 2 | 3 | 4 | 5 | 6 => cases h1; cases h2
    | n + 7 => cases h1
  rw [h]
  refine ⟨aR hp, hp.length_le, bA _ _ _, fun i v l h1 h2 => ?_, fun i j v w u hij h1 h2 hu hw => ?_, fun i v h1 hu => ?_, rfl⟩
  · match i with
    | 0 => cases h1; cases h2; exact hs.mono
    | 1 | 2 | 3 | 4 | 5 | 6 => cases h1; cases h2; exact .inl ⟨rfl, rfl⟩
    | n + 7 => cases h1
  · exact hij ((low i v u h1 hu).1.trans (low j w u h2 hw).1.symm)
  · obtain ⟨_, rfl⟩ := low i v _ h1 hu
    have := (hs.idx_lt hu).2
    omega
def LY (key : Int) (l : List Upd) (since : List Tm) (H : AH) (r : AV) (H' : AH) : Prop :=
  H <+: H' ∧ (fT key l since ≠ 0 → r = .tup [.nilp, .int .i64 (fT key l since)]) ∧ (fT key l since = 0 → ∃ t vs, r = .tup [.ptr t 0 0, .int .i64 0] ∧ OBL H H' t (hdB (jC key l since)) vs (lsB (jC key l since)))
theorem CG {key : Int} {x y z : AV} {l : List Upd} {since : List Tm} {H H' : AH} {f : AF} (hx : elems 4 x H = some (l.map upA)) (hl : l.length < 1099511627776) (hy : elems 2 y H = some (since.map bC)) (hsl : since.length < 1099511627776) (hz : elems 4 z H = some ((gE since l).map upA)) (hs : cN (gE since l))
    (hc : fT key l since = (dA (gE since l)).2) (hk : 0 ≤ key) (hsk : fS key l = false) (hp : H <+: H') (e0 : f 0 = .int .i64 key) (e1 : f 1 = x) (e2 : f 2 = y) (e11 : f 11 = z) : pR.wp Try.prog (FP [.t 6, .t 7] (LY key l since H)) f H' := by
  unfold pR
  have la := aS hx
  rw [List.length_map] at la
  have hadl := qW since l
  simp only [push_cast, ↓reduceIte, Nat.reduceEqDiff, reduceCtorEq, Nat.reduceAdd, Nat.reduceLT, Nat.reduceLeDiff, e11]
  (refine aC.look (IY z (gE since l) _ (bB hz hp) (by omega) hs) ?_; simp only [push_cast, ↓reduceIte, Nat.reduceEqDiff, reduceCtorEq, Nat.reduceAdd, Nat.reduceLT, Nat.reduceLeDiff, aB, aA, e0, e1, e2, xE])
  by_cases h : (dA (gE since l)).2 = 0
  · have hb : jC key l since = bH (Bt.none_ key l.length since) (dA (gE since l)).1 := rfl
    obtain ⟨m1, m2⟩ := iY (gE since l)
    have m3 : ∀ u ∈ (dA (gE since l)).1, u.f0.length < 1099511627776 := fun u hu => by
      obtain ⟨v, hv, e, _⟩ := m2 u hu
      rw [e]; exact hs v hv
    have m4 : ∀ u ∈ (dA (gE since l)).1, key ≤ u.f0.length := fun u hu => by
      obtain ⟨v, hv, e, _⟩ := m2 u hu
      obtain ⟨w, hw, e2⟩ := qX hv
      rw [e, e2]
      have := List.any_eq_false.1 hsk w hw
      simpa using this
    rw [h] at hc
    generalize (dA (gE since l)).1 = cl at hb m1 m3 m4
    simp only [push_cast, ↓reduceIte, Nat.reduceEqDiff, reduceCtorEq, Nat.reduceAdd, Nat.reduceLT, Nat.reduceLeDiff, h, e1, e2, la]
    refine (wT y since H' (bB hy hp) hsl).mono fun r H2 ⟨ho, hp2⟩ => ?_
    have pr := dH ho
    have hcl : dI (upsA cl) = some cl.length := by simp [upsA, dI]
    have ho2 : Own H H2 2 r (since.map bC) := by
      rcases ho with h | ⟨t, ex, ht, rfl, ho⟩
      · exact .inl h
      · exact .inr ⟨t, ex, Nat.le_trans hp.length_le ht, rfl, ho⟩
    have O := AX (b := Bt.none_ key l.length since) ho2 (hp.trans hp2) rfl
    have G := wU key l.length since
    have hbx : hdB (Bt.none_ key l.length since) ++ [r, AV.nils, AV.nils, AV.nils, AV.nils, AV.nils, AV.nils] = [.int .i64 key, .int .i64 l.length, r, AV.nils, AV.nils, AV.nils, AV.nils, AV.nils, AV.nils] := rfl
    rw [hbx] at O
    have hcc : cells (.agg [.int .i64 key, .int .i64 l.length, r, AV.nils, AV.nils, AV.nils, AV.nils, AV.nils, AV.nils]) = [.int .i64 key, .int .i64 l.length, r, AV.nils, AV.nils, AV.nils, AV.nils, AV.nils, AV.nils] := rfl
    have hcn : ∀ k : IntKind, ∀ n, cS (.int k n) = true := fun _ _ => rfl
    have hcz : cS .nils = true := rfl
    simp only [push_cast, ↓reduceIte, Nat.reduceEqDiff, reduceCtorEq, Nat.reduceAdd, Nat.reduceLT, Nat.reduceLeDiff, aB, aA, pr.1, pr.2.1, hcc, hcn, hcz, hcl]
    rw [if_pos (by rcases ho with ⟨rfl, _⟩ | ⟨t, ex, _, rfl, _⟩ <;> rfl)]
    simp only [push_cast, ↓reduceIte, Nat.reduceEqDiff, reduceCtorEq, Nat.reduceAdd, Nat.reduceLT, Nat.reduceLeDiff, aB, aA, pr.1, pr.2.1, hcc, hcn, hcz, hcl]
    refine FA O G ⟨fun x h => absurd h List.not_mem_nil, fun x h => absurd h List.not_mem_nil⟩ hk (by omega) m3 m4 (by rfl) (by rfl) (by rfl) (by rfl) fun f H' vs O' e13 => ?_
    simp only [push_cast, ↓reduceIte, Nat.reduceEqDiff, reduceCtorEq, Nat.reduceAdd, Nat.reduceLT, Nat.reduceLeDiff, e13]
    rw [← hb] at O'
    exact ⟨O'.pre, fun h => absurd hc h, fun _ => ⟨_, vs, rfl, O'⟩⟩
  · have := xI _ h
    simp only [push_cast, ↓reduceIte, Nat.reduceEqDiff, reduceCtorEq, Nat.reduceAdd, Nat.reduceLT, Nat.reduceLeDiff, h]
    exact ⟨hp, fun _ => by rw [hc], fun h0 => absurd (hc.symm.trans h0) h⟩
theorem LZ (key : Int) (x y : AV) (l : List Upd) (since : List Tm) (H : AH) (hx : elems 4 x H = some (l.map upA)) (hl : l.length < 1099511627776) (hs : cN l) (hy : elems 2 y H = some (since.map bC)) (hsl : since.length < 1099511627776) (hy2 : since ≠ [] → y = jX since) :
    aC Try.prog 18 [.int .i64 key, x, y] H (LY key l since H) := by
  refine aP c18 (by simp [F18]) ?_
  unfold F18
  have err : ∀ c H', c ≠ 0 → fT key l since = c → H <+: H' → LY key l since H (.tup [.nilp, .int .i64 c]) H' := fun c H' h0 h1 hp => ⟨hp, fun _ => by rw [h1], fun h2 => absurd (h1.symm.trans h2) h0⟩
  have one : (key < 0 ∨ key > 16) → fT key l since = 1 := fun h => by rw [fT, if_pos h]
  have la := aS hx
  rw [List.length_map] at la
  have lb := aS hy
  rw [List.length_map] at lb
  by_cases h1 : key < 0
  · simp only [push_cast, ↓reduceIte, Nat.reduceEqDiff, reduceCtorEq, Nat.reduceAdd, Nat.reduceLT, Nat.reduceLeDiff, h1, decide_true]
    exact err 1 H (by decide) (one (.inl h1)) (List.prefix_refl _)
  by_cases h2 : key > 16
  · simp only [push_cast, ↓reduceIte, Nat.reduceEqDiff, reduceCtorEq, Nat.reduceAdd, Nat.reduceLT, Nat.reduceLeDiff, h1, h2, decide_true, decide_false]
    exact err 1 H (by decide) (one (.inr h2)) (List.prefix_refl _)
  have hc0 : fT key l since = if fS key l = true then 9 else if iX since ≠ 0 then iX since else (dA (gE since l)).2 := by rw [fT, if_neg (by omega)]
  simp only [push_cast, ↓reduceIte, Nat.reduceEqDiff, reduceCtorEq, Nat.reduceAdd, Nat.reduceLT, Nat.reduceLeDiff, h1, h2, decide_false, la]
  refine EY (x := x) (y := y) (l := l) (key := key) hx (List.prefix_refl _) hl rfl rfl rfl rfl rfl rfl (fun hk f H' hp e6 e7 => ?_) (fun hk f H' hp e0 e1 e2 => ?_)
  · simp only [push_cast, ↓reduceIte, Nat.reduceEqDiff, reduceCtorEq, Nat.reduceAdd, Nat.reduceLT, Nat.reduceLeDiff, e6, e7]
    exact err 9 _ (by decide) (by rw [hc0, if_pos hk]) hp
  rw [hk, if_neg (by decide)] at hc0
  simp only [push_cast, ↓reduceIte, Nat.reduceEqDiff, reduceCtorEq, Nat.reduceAdd, Nat.reduceLT, Nat.reduceLeDiff, e0, e1, e2]
  (refine aC.look (EX y since _ (bB hy hp) hsl) ?_; simp only [push_cast, ↓reduceIte, Nat.reduceEqDiff, reduceCtorEq, Nat.reduceAdd, Nat.reduceLT, Nat.reduceLeDiff, aB, aA, e0, e1, e2])
  by_cases h3 : iX since = 0
  · rw [if_neg (by simpa using h3)] at hc0
    by_cases h4 : since = []
    · have e : gE since l = l := by rw [gE, if_pos h4]
      have lb0 : ¬ ((since.length : Nat) : Int) > 0 := by rw [h4]; decide
      simp only [push_cast, ↓reduceIte, Nat.reduceEqDiff, reduceCtorEq, Nat.reduceAdd, Nat.reduceLT, Nat.reduceLeDiff, h3, lb, lb0, decide_false, e1]
      unfold pQ
      simp only [push_cast, ↓reduceIte, Nat.reduceEqDiff, reduceCtorEq, Nat.reduceAdd, Nat.reduceLT, Nat.reduceLeDiff]
      exact CG hx hl hy hsl (z := x) (by rw [e]; exact hx) (by rw [e]; exact hs) hc0 (by omega) hk hp (by exact e0) (by exact e1) (by exact e2) (by rfl)
    · have e : gE since l = l.map (xY since) := by rw [gE, if_neg h4]
      have lb0 : ((since.length : Nat) : Int) > 0 := by have := List.length_pos_iff.2 h4; omega
      rw [hy2 h4] at e2
      have lb2 : dI (jX since) = some since.length := by simp [jX, dI]
      rw [hy2 h4]
      simp only [push_cast, ↓reduceIte, Nat.reduceEqDiff, reduceCtorEq, Nat.reduceAdd, Nat.reduceLT, Nat.reduceLeDiff, h3, lb2, lb0, decide_true, e1, e2]
      unfold pQ
      simp only [push_cast, ↓reduceIte, Nat.reduceEqDiff, reduceCtorEq, Nat.reduceAdd, Nat.reduceLT, Nat.reduceLeDiff, e1, e2]
      (refine aC.look (wX x l since _ (bB hx hp) hl hsl hs) ?_; simp only [push_cast, ↓reduceIte, Nat.reduceEqDiff, reduceCtorEq, Nat.reduceAdd, Nat.reduceLT, Nat.reduceLeDiff, aB, aA, e0, e1, e2])
      refine CG hx hl (hy2 h4 ▸ hy) hsl (z := upsA (l.map (xY since))) (by rw [e]; rfl) ?_ hc0 (by omega) hk hp (by exact e0) (by exact e1) (by exact e2) (by simp only [push_cast, ↓reduceIte, Nat.reduceEqDiff, reduceCtorEq, Nat.reduceAdd, Nat.reduceLT, Nat.reduceLeDiff])
      rw [e]
      intro u hu
      obtain ⟨v, hv, rfl⟩ := List.mem_map.1 hu
      exact hs v hv
  · rw [if_pos h3] at hc0
    simp only [push_cast, ↓reduceIte, Nat.reduceEqDiff, reduceCtorEq, Nat.reduceAdd, Nat.reduceLT, Nat.reduceLeDiff, h3]
    exact err _ _ h3 hc0 hp
theorem FB (n : Nat) (b : Bt) : cl n (gK b) = true := by
  have h1 : ∀ l, cl n (jX l) = true := fun l => wK (MJ n) l
  have h2 : ∀ l, cl n (bG l) = true := fun l => wK (jW n) l
  have h3 : ∀ l, cl n (AK l) = true := fun l => wK (fun _ => rfl) l
  simp [gK, xW, cl, cls, h1, h2, h3]
def xL (key : Int) (l : List Upd) (since : List Tm) : AV := if fT key l since = 0 then .tup [gK (jC key l since), .int .i64 0] else .tup [.nilp, .int .i64 (fT key l since)]
theorem OBL.batch {H0 H : AH} {t : Nat} {b : Bt} {vs : List AV} (O : OBL H0 H t (hdB b) vs (lsB b)) : ∃ H', dB H (.ptr t 0 0) H' (gK b) ∧ H0 <+: H' := by
  obtain ⟨H', h1, h2⟩ := O.frz
  have hl : (hdB b).length + vs.length = 9 := by rw [O.len]; rfl
  rw [hl] at h1
  exact ⟨H', h1, h2⟩
theorem FC (key : Int) (x y : AV) (l : List Upd) (since : List Tm) (H : AH) (hx : elems 4 x H = some (l.map upA)) (hl : l.length < 1099511627776) (hs : cN l) (hy : elems 2 y H = some (since.map bC)) (hsl : since.length < 1099511627776) (hy2 : since ≠ [] → y = jX since) :
    aC Try.prog 18 [.int .i64 key, x, y] H fun r H' => r = xL key l since ∧ H' = H :=
  (aC.gc (R := fun x _ => x = xL key l since) (((LZ key x y l since H hx hl hs hy hsl hy2).weak (R' := fun r H' => H <+: H' ∧ r = xL key l since) fun r H' ⟨hp, h1, h2⟩ => by
    unfold xL
    by_cases h : fT key l since = 0
    · obtain ⟨t, vs, rfl, O⟩ := h2 h
      obtain ⟨H2, w, hp2⟩ := O.batch
      rw [if_pos h]
      exact ⟨_, H2, dB.tup (i := 0) (vs := [.ptr t 0 0, .int .i64 0]) w rfl, hp2, rfl⟩
    · rw [if_neg h]
      exact ⟨_, H', dB.refl _ _, hp, h1 h⟩).mono fun x H' ⟨hp, e⟩ => ⟨hp, by
        rw [e]; unfold xL
        have := FB H.length (jC key l since)
        split <;> simp [cl, cls, this], e⟩)).mono fun x H' ⟨e, _, e2⟩ => ⟨e2, e⟩
end Go.Eng
end
section
set_option linter.unusedVariables false
set_option linter.unusedSimpArgs false
set_option maxRecDepth 10000
namespace Go.Eng
open Go Go.Proofs
theorem AY {sz i : Nat} {l : List AV} (h : i < l.length) (κ : IntKind) : aF sz (.list sz l false) (.int κ (i : Int)) = some (.lptr sz l i 0) := by simp [aF, nat?, h]
end Go.Eng
end
section
namespace Go.Eng
open Go
set_option linter.unusedVariables false
set_option linter.unusedSimpArgs false
def ahB (l : List (List Val)) (r : List Val) (i : Nat) : Bool := decide (fB (l.getD i []) r < 0)
def gal (l : List (List Val)) (r : List Val) : Nat → Nat → Nat → Nat → Nat × Nat × Nat
  | 0, low, step, p => (low, step, p)
  | k + 1, low, step, p => if low + step - 1 < l.length then (if ahB l r (low + step - 1) = true then gal l r k (low + step) (2 * step) (p + 1) else (low, step, p + 1)) else (low, step, p)
def bin (l : List (List Val)) (r : List Val) : Nat → Nat → Nat → Nat → Nat × Nat
  | 0, low, _, p => (low, p)
  | k + 1, low, high, p => if low < high then (if ahB l r (low + (high - low) / 2) = true then bin l r k (low + (high - low) / 2 + 1) high (p + 1) else bin l r k low (low + (high - low) / 2) (p + 1)) else (low, p)
def dP (n : Nat) (from_ : Int) : Nat := min from_.toNat n
def AZ (l : List (List Val)) (from_ : Int) (r : List Val) : Nat × Nat :=
  bin l r (l.length + 1) (gal l r (l.length + 1) (dP l.length from_) 1 0).1 (min ((gal l r (l.length + 1) (dP l.length from_) 1 0).1 + (gal l r (l.length + 1) (dP l.length from_) 1 0).2.1 - 1) l.length) (gal l r (l.length + 1) (dP l.length from_) 1 0).2.2
end Go.Eng
end
section
set_option linter.unusedVariables false
set_option linter.unusedSimpArgs false
set_option maxRecDepth 10000
namespace Go.Eng
open Go Go.Proofs
def F60 : AFn := ⟨15, 1, [.t 5], (.seq (.ops [oo 5 (.mov (.v (.bool false)))]) (.seq (.ops [oo 6 (.load false 1 (.t 1)), oo 7 (.bin .add (.t 6) (.v (.int .i64 1))), on (.store 1 (.t 1) (.t 7))]) (.seq (.ops [oo 15 (.load false 1 (.t 2)), oo 16 (.mov (.t 0)), oo 17 (.iaddr 1 (.t 15) (.t 16)), oo 18 (.load false 1 (.t 17)), oo 19 (.load false 1 (.t 3)), oo 20 (.call 61 [(.t 18), (.t 19)]), oo 21 (.bin .lss (.t 20) (.v (.int .i64 0))), oo 22 (.mov (.t 21)), oo 8 (.mov (.t 15)), oo 9 (.mov (.t 16)), oo 10 (.mov (.t 17)), oo 11 (.mov (.t 18)), oo 12 (.mov (.t 19)), oo 13 (.mov (.t 20)), oo 14 (.mov (.t 21)), oo 5 (.mov (.t 22))]) .ret)))⟩
theorem c60 : aD Try.prog 60 = some F60 := by kernel_rfl
theorem MA {H : AH} {tp tl tr i : Nat} {n : Int} {l : List (List Val)} {r : List Val} (h1 : obj? H tp = some (1, [.int .i64 n])) (h2 : obj? H tl = some (1, [bG l])) (h3 : obj? H tr = some (1, [rowA r])) (n1 : tl ≠ tp) (n2 : tr ≠ tp) (hi : i < l.length) (hl : ∀ x ∈ l, x.length < 1099511627776) (hr : r.length < 1099511627776) :
    aC Try.prog 60 [.int .i64 i, .ptr tp 0 0, .ptr tl 0 0, .ptr tr 0 0] H fun x H' => x = .bool (ahB l r i) ∧ H' = List.set H tp (.live 1 [.int .i64 (IntKind.i64.wrap (n + 1))]) := by
  refine aP c60 (by simp [F60]) ?_
  unfold F60
  have o2 : obj? (List.set H tp (.live 1 [.int .i64 (IntKind.i64.wrap (n + 1))])) tl = some (1, [bG l]) := by rw [bK n1.symm]; exact h2
  have o3 : obj? (List.set H tp (.live 1 [.int .i64 (IntKind.i64.wrap (n + 1))])) tr = some (1, [rowA r]) := by rw [bK n2.symm]; exact h3
  have pn : ∀ z, part false 1 0 (.int .i64 z) = some (.int .i64 z) := fun _ => rfl
  have pc : ∀ z y, lQ (.int .i64 z) 0 [.int .i64 y] = .int .i64 y := fun _ _ => rfl
  have pr : ∀ l, part false 1 0 (bG l) = some (bG l) := fun _ => rfl
  have pw : ∀ l, part false 1 0 (rowA l) = some (rowA l) := fun _ => rfl
  have ax : aF 1 (bG l) (.int .i64 (i : Int)) = some (.lptr 1 (l.map rowA) i 0) := by simp [bG, aF, nat?, hi]
  have lx : (l.map rowA)[i]? = some (rowA l[i]) := by simp [hi]
  have hd : l.getD i [] = l[i] := by simp [hi]
  simp only [push_cast, ↓reduceIte, Nat.reduceEqDiff, reduceCtorEq, Nat.reduceAdd, Nat.reduceLT, Nat.reduceLeDiff, aB, aA, h1, o2, o3, pn, pc, pr, pw, ax, lx]
  (refine aC.look (fQ _ _ l[i] r _ rfl rfl (hl _ (List.getElem_mem hi)) hr) ?_; try simp only [push_cast, ↓reduceIte, Nat.reduceEqDiff, reduceCtorEq, Nat.reduceAdd, Nat.reduceLT, Nat.reduceLeDiff, aB, aA])
  simp only [ahB, hd, and_self]
def FX (H : AH) (l : List (List Val)) (r : List Val) (n : Nat) : AH := H ++ [.live 1 [bG l], .live 1 [rowA r], .live 1 [.int .i64 n]]
theorem fx0 {H : AH} {l : List (List Val)} {r : List Val} {n : Nat} : obj? (FX H l r n) H.length = some (1, [bG l]) := by simp [FX, obj?]
theorem fx1 {H : AH} {l : List (List Val)} {r : List Val} {n : Nat} : obj? (FX H l r n) (H.length + 1) = some (1, [rowA r]) := by simp [FX, obj?, List.getElem?_append_right]
theorem fx2 {H : AH} {l : List (List Val)} {r : List Val} {n : Nat} : obj? (FX H l r n) (H.length + 1 + 1) = some (1, [.int .i64 n]) := by simp [FX, obj?, List.getElem?_append_right, Nat.add_assoc]
theorem fs2 {H : AH} {l : List (List Val)} {r : List Val} {n m : Nat} : List.set (FX H l r n) (H.length + 1 + 1) (.live 1 [.int .i64 m]) = FX H l r m := by simp [FX, List.set_append_right, Nat.add_assoc]
theorem CH {H : AH} {l : List (List Val)} {r : List Val} {n i : Nat} (hn : n < 1099511627776) (hi : i < l.length) (hl : ∀ x ∈ l, x.length < 1099511627776) (hr : r.length < 1099511627776) :
    aC Try.prog 60 [.int .i64 i, .ptr (H.length + 1 + 1) 0 0, .ptr H.length 0 0, .ptr (H.length + 1) 0 0] (FX H l r n) fun x H' => x = .bool (ahB l r i) ∧ H' = FX H l r (n + 1) := by
  have := MA (fx2 (n := n) (H := H) (l := l) (r := r)) fx0 fx1 (by omega) (by omega) hi hl hr
  rw [show IntKind.i64.wrap ((n : Int) + 1) = ((n + 1 : Nat) : Int) by rw [aG (by omega) (by omega)]; omega, fs2] at this
  exact this
def xM : AC := (.block 2 (.loop (.seq (.seq (.ops [oo 53 (.mov (.t 9)), oo 54 (.mov (.t 11)), oo 55 (.bin .lss (.t 53) (.t 54))]) (.cond (.t 55) .skip (.exit 2))) (.block 3 (.seq (.ops [oo 56 (.mov (.t 9)), oo 57 (.mov (.t 11)), oo 58 (.mov (.t 9)), oo 59 (.bin .sub (.t 57) (.t 58)), oo 60 (.bin .quo (.t 59) (.v (.int .i64 2))), oo 61 (.bin .add (.t 56) (.t 60)), oo 12 (.mov (.t 61))]) (.seq (.ops [oo 62 (.mov (.t 8)), oo 63 (.mov (.t 12)), oo 64 (.callv (.t 62) [(.t 63)])]) (.cond (.t 64) (.ops [oo 65 (.mov (.t 12)), oo 66 (.bin .add (.t 65) (.v (.int .i64 1))), oo 9 (.mov (.t 66))]) (.ops [oo 67 (.mov (.t 12)), oo 11 (.mov (.t 67))]))))))))
def xN : AC := (.block 0 (.loop (.seq (.seq (.ops [oo 20 (.mov (.t 9)), oo 21 (.load false 1 (.t 3)), oo 22 (.len (.t 21)), oo 23 (.bin .lss (.t 20) (.t 22)), oo 24 (.mov (.t 23)), og 25 24 true (.mov (.t 9)), og 26 24 true (.mov (.t 10)), og 27 24 true (.bin .add (.t 25) (.t 26)), og 28 24 true (.bin .sub (.t 27) (.v (.int .i64 1))), og 29 24 true (.load false 1 (.t 3)), og 30 24 true (.len (.t 29)), og 31 24 true (.bin .lss (.t 28) (.t 30)), oo 32 (.pick (.t 24) (.t 31) (.v (.bool false))), oo 33 (.mov (.t 32)), og 34 33 true (.mov (.t 8)), og 35 33 true (.mov (.t 9)), og 36 33 true (.mov (.t 10)), og 37 33 true (.bin .add (.t 35) (.t 36)), og 38 33 true (.bin .sub (.t 37) (.v (.int .i64 1))), og 39 33 true (.callv (.t 34) [(.t 38)]), oo 40 (.pick (.t 33) (.t 39) (.v (.bool false)))]) (.cond (.t 40) .skip (.exit 0))) (.block 1 (.seq (.ops [oo 41 (.mov (.t 9)), oo 42 (.mov (.t 10)), oo 43 (.bin .add (.t 41) (.t 42)), oo 9 (.mov (.t 43))]) (.ops [oo 44 (.mov (.t 10)), oo 45 (.bin .mul (.t 44) (.v (.int .i64 2))), oo 10 (.mov (.t 45))]))))))
def F12 : AFn := ⟨70, 3, [.t 6, .cell 7 false 1], (.seq (.ops [oo 3 (.box 1 (.t 0)), oo 5 (.box 1 (.t 2)), oo 6 (.mov (.v (.int .i64 0))), oo 7 (.alloc 1 (.int .i64 0))]) (.seq (.ops [oo 13 (.mov (.t 1)), oo 14 (.mx (.t 13) [(.v (.int .i64 0))]), oo 15 (.load false 1 (.t 3)), oo 16 (.len (.t 15)), oo 17 (.mn (.t 14) [(.t 16)]), oo 1 (.mov (.t 17))]) (.seq (.ops [oo 18 (.mkf 60 [] [(.t 7), (.t 3), (.t 5)]), oo 8 (.mov (.t 18))]) (.seq (.ops [oo 19 (.mov (.t 1)), oo 9 (.mov (.t 19)), oo 10 (.mov (.v (.int .i64 1)))]) (.seq (xN) (.seq (.ops [oo 46 (.mov (.t 9)), oo 47 (.mov (.t 10)), oo 48 (.bin .add (.t 46) (.t 47)), oo 49 (.bin .sub (.t 48) (.v (.int .i64 1))), oo 50 (.load false 1 (.t 3)), oo 51 (.len (.t 50)), oo 52 (.mn (.t 49) [(.t 51)]), oo 11 (.mov (.t 52))]) (.seq (xM) (.seq (.ops [oo 70 (.mov (.t 9)), oo 71 (.load false 1 (.t 7)), oo 72 (.mov (.t 70)), oo 73 (.store 1 (.t 7) (.t 71)), oo 68 (.mov (.t 70)), oo 69 (.mov (.t 71)), oo 6 (.mov (.t 72))]) .ret))))))))⟩
theorem c12 : aD Try.prog 12 = some F12 := by kernel_rfl
theorem FD {H : AH} {l : List (List Val)} {r : List Val} {s : Nat} {f : AF} {Q : AE → AF → AH → Prop} (hll : l.length < 549755813888) (hl : ∀ x ∈ l, x.length < 1099511627776) (hr : r.length < 1099511627776) (hs : s ≤ l.length)
    (e3 : f 3 = .ptr H.length 0 0) (e7 : f 7 = .ptr (H.length + 1 + 1) 0 0) (e8 : f 8 = .fn 60 [] [.ptr (H.length + 1 + 1) 0 0, .ptr H.length 0 0, .ptr (H.length + 1) 0 0]) (e9 : f 9 = .int .i64 s) (e10 : f 10 = .int .i64 1)
    (hQ : ∀ f (low step p : Nat), gal l r (l.length + 1) s 1 0 = (low, step, p) → low ≤ l.length → low + 1 = s + step → 1 ≤ step → p ≤ l.length + 1 → f 3 = .ptr H.length 0 0 → f 7 = .ptr (H.length + 1 + 1) 0 0 → f 8 = .fn 60 [] [.ptr (H.length + 1 + 1) 0 0, .ptr H.length 0 0, .ptr (H.length + 1) 0 0] → f 9 = .int .i64 low → f 10 = .int .i64 step → Q .normal f (FX H l r p)) :
    xN.wp Try.prog Q f (FX H l r 0) := by
  unfold xN
  simp only [push_cast, ↓reduceIte, Nat.reduceEqDiff, reduceCtorEq, Nat.reduceAdd, Nat.reduceLT, Nat.reduceLeDiff]
  generalize hG : gal l r (l.length + 1) s 1 0 = G at hQ
  refine aJ (fun (q : Nat × Nat × Nat × Nat) f H' => H' = FX H l r q.2.2.2 ∧ q.2.1 ≤ l.length ∧ q.2.1 + 1 = s + q.2.2.1 ∧ 1 ≤ q.2.2.1 ∧ l.length < q.2.1 + q.1 ∧ q.2.2.2 + q.1 ≤ l.length + 1 ∧ G = gal l r q.1 q.2.1 q.2.2.1 q.2.2.2 ∧ f 3 = .ptr H.length 0 0 ∧ f 7 = .ptr (H.length + 1 + 1) 0 0 ∧ f 8 = .fn 60 [] [.ptr (H.length + 1 + 1) 0 0, .ptr H.length 0 0, .ptr (H.length + 1) 0 0] ∧ f 9 = .int .i64 q.2.1 ∧ f 10 = .int .i64 q.2.2.1) (fun q => q.1) (l.length + 1, s, 1, 0) ⟨rfl, hs, rfl, Nat.le_refl _, by dsimp only; omega, by dsimp only; omega, hG.symm, e3, e7, e8, e9, e10⟩ ?_
  clear e3 e7 e8 e9 e10
  rintro ⟨k, low, step, p⟩ f H' ⟨rfl, h1, h2, h3, h4, h5, h6, e3, e7, e8, e9, e10⟩
  dsimp only at h1 h2 h3 h4 h5 h6 e9 e10
  obtain ⟨k, rfl⟩ : ∃ k', k = k' + 1 := ⟨k - 1, by omega⟩
  simp only [gal] at h6
  have o0 := fx0 (H := H) (l := l) (r := r) (n := p)
  have pr : part false 1 0 (bG l) = some (bG l) := rfl
  have al : dI (bG l) = some l.length := by simp [bG, dI]
  have w1 : IntKind.i64.wrap ((low : Int) + step) = ((low + step : Nat) : Int) := by rw [aG (by omega) (by omega)]; omega
  have w2 : IntKind.i64.wrap (((low + step : Nat) : Int) - 1) = ((low + step - 1 : Nat) : Int) := by rw [aG (by omega) (by omega)]; omega
  have w3 : IntKind.i64.wrap ((step : Int) * 2) = ((2 * step : Nat) : Int) := by rw [aG (by omega) (by omega)]; omega
  by_cases c1 : low < l.length
  · have c1' : (low : Int) < l.length := by omega
    by_cases c2 : low + step - 1 < l.length
    · rw [if_pos c2] at h6
      have c2' : ((low + step - 1 : Nat) : Int) < l.length := by omega
      have fc := CH (H := H) (l := l) (r := r) (n := p) (i := low + step - 1) (by omega) c2 hl hr
      have o1 := fx0 (H := H) (l := l) (r := r) (n := p + 1)
      generalize hm : low + step - 1 = m at h6 c2' w2 fc
      generalize hm2 : low + step = m2 at h6 w1 w2
      simp only [push_cast, ↓reduceIte, Nat.reduceEqDiff, reduceCtorEq, Nat.reduceAdd, Nat.reduceLT, Nat.reduceLeDiff, aB, aA, e3, e7, e8, e9, e10, o0, pr, al, c1', w1, w2, c2', decide_true]
      refine fc.mono fun x H' ⟨hx, hh⟩ => ?_
      subst hx hh
      cases ha : ahB l r m with
      | true =>
        rw [ha, if_pos rfl] at h6
        simp only [push_cast, ↓reduceIte, Nat.reduceEqDiff, reduceCtorEq, Nat.reduceAdd, Nat.reduceLT, Nat.reduceLeDiff, e3, e7, e8, e9, e10, w1, w3]
        exact ⟨(k, m2, 2 * step, p + 1), ⟨rfl, by dsimp only; omega, by dsimp only; omega, by dsimp only; omega, by dsimp only; omega, by dsimp only; omega, h6, rfl, rfl⟩, by dsimp only; omega⟩
      | false =>
        rw [ha, if_neg (by decide)] at h6
        simp only [push_cast, ↓reduceIte, Nat.reduceEqDiff, reduceCtorEq, Nat.reduceAdd, Nat.reduceLT, Nat.reduceLeDiff, e3, e7, e8, e9, e10, w1]
        exact hQ _ low step (p + 1) h6 h1 h2 h3 (by omega) e3 e7 e8 e9 e10
    · rw [if_neg c2] at h6
      have c2' : ¬ ((low + step - 1 : Nat) : Int) < l.length := by omega
      generalize hm : low + step - 1 = m at h6 c2' w2
      generalize hm2 : low + step = m2 at h6 w1 w2
      simp only [push_cast, ↓reduceIte, Nat.reduceEqDiff, reduceCtorEq, Nat.reduceAdd, Nat.reduceLT, Nat.reduceLeDiff, aB, aA, e3, e7, e8, e9, e10, o0, pr, al, c1', w1, w2, c2', decide_true, decide_false]
      exact hQ _ low step p h6 h1 h2 h3 (by omega) e3 e7 e8 e9 e10
  · have c1' : ¬ (low : Int) < l.length := by omega
    rw [if_neg (by omega)] at h6
    simp only [push_cast, ↓reduceIte, Nat.reduceEqDiff, reduceCtorEq, Nat.reduceAdd, Nat.reduceLT, Nat.reduceLeDiff, aB, aA, e3, e7, e8, e9, e10, o0, pr, al, c1', decide_false]
    exact hQ _ low step p h6 h1 h2 h3 (by omega) e3 e7 e8 e9 e10
theorem FE {H : AH} {l : List (List Val)} {r : List Val} {low0 high0 p0 : Nat} {f : AF} {Q : AE → AF → AH → Prop} (hll : l.length < 549755813888) (hl : ∀ x ∈ l, x.length < 1099511627776) (hr : r.length < 1099511627776) (h0 : low0 ≤ high0) (h1 : high0 ≤ l.length) (hp : p0 ≤ l.length + 1)
    (e7 : f 7 = .ptr (H.length + 1 + 1) 0 0) (e8 : f 8 = .fn 60 [] [.ptr (H.length + 1 + 1) 0 0, .ptr H.length 0 0, .ptr (H.length + 1) 0 0]) (e9 : f 9 = .int .i64 low0) (e11 : f 11 = .int .i64 high0)
    (hQ : ∀ f (low p : Nat), bin l r (l.length + 1) low0 high0 p0 = (low, p) → f 7 = .ptr (H.length + 1 + 1) 0 0 → f 9 = .int .i64 low → Q .normal f (FX H l r p)) :
    xM.wp Try.prog Q f (FX H l r p0) := by
  unfold xM
  simp only [push_cast, ↓reduceIte, Nat.reduceEqDiff, reduceCtorEq, Nat.reduceAdd, Nat.reduceLT, Nat.reduceLeDiff]
  generalize hG : bin l r (l.length + 1) low0 high0 p0 = G at hQ
  refine aJ (fun (q : Nat × Nat × Nat × Nat) f H' => H' = FX H l r q.2.2.2 ∧ q.2.1 ≤ q.2.2.1 ∧ q.2.2.1 ≤ l.length ∧ q.2.2.1 < q.2.1 + q.1 ∧ q.2.2.2 + q.1 ≤ l.length + 1 + l.length + 1 ∧ G = bin l r q.1 q.2.1 q.2.2.1 q.2.2.2 ∧ f 7 = .ptr (H.length + 1 + 1) 0 0 ∧ f 8 = .fn 60 [] [.ptr (H.length + 1 + 1) 0 0, .ptr H.length 0 0, .ptr (H.length + 1) 0 0] ∧ f 9 = .int .i64 q.2.1 ∧ f 11 = .int .i64 q.2.2.1) (fun q => q.1) (l.length + 1, low0, high0, p0) ⟨rfl, h0, h1, by dsimp only; omega, by dsimp only; omega, hG.symm, e7, e8, e9, e11⟩ ?_
  clear e7 e8 e9 e11 h0 h1 hp hG
  rintro ⟨k, low, high, p⟩ f H' ⟨rfl, h1, h2, h4, h5, h6, e7, e8, e9, e11⟩
  dsimp only at h1 h2 h4 h5 h6 e9 e11
  obtain ⟨k, rfl⟩ : ∃ k', k = k' + 1 := ⟨k - 1, by omega⟩
  simp only [bin] at h6
  by_cases c1 : low < high
  · have c1' : (low : Int) < high := by omega
    rw [if_pos c1] at h6
    have w1 : IntKind.i64.wrap ((high : Int) - low) = ((high - low : Nat) : Int) := by rw [aG (by omega) (by omega)]; omega
    have w2 : Int.tdiv ((high - low : Nat) : Int) 2 = (((high - low) / 2 : Nat) : Int) := by rw [Int.tdiv_eq_ediv_of_nonneg (by omega)]; omega
    have w3 : IntKind.i64.wrap (((high - low) / 2 : Nat) : Int) = (((high - low) / 2 : Nat) : Int) := by rw [aG (by omega) (by omega)]
    have w4 : IntKind.i64.wrap ((low : Int) + (((high - low) / 2 : Nat) : Int)) = ((low + (high - low) / 2 : Nat) : Int) := by rw [aG (by omega) (by omega)]; omega
    have w5 : IntKind.i64.wrap (((low + (high - low) / 2 : Nat) : Int) + 1) = ((low + (high - low) / 2 + 1 : Nat) : Int) := by rw [aG (by omega) (by omega)]; omega
    have hm1 : low + (high - low) / 2 < high := by omega
    have hm2 : low ≤ low + (high - low) / 2 := by omega
    have fc := CH (H := H) (l := l) (r := r) (n := p) (i := low + (high - low) / 2) (by omega) (by omega) hl hr
    generalize low + (high - low) / 2 = m at h6 w4 w5 fc hm1 hm2
    generalize (high - low) / 2 = d2 at w2 w3 w4
    generalize high - low = d at w1 w2
    have wq : bW .quo (.int .i64 (d : Int)) (.int .i64 2) = some (.int .i64 (d2 : Int)) := by simp [bW, w2, w3]
    simp only [push_cast, ↓reduceIte, Nat.reduceEqDiff, reduceCtorEq, Nat.reduceAdd, Nat.reduceLT, Nat.reduceLeDiff, aB, aA, e7, e8, e9, e11, c1', w1, wq, w4, Option.map_some]
    refine fc.mono fun x H' ⟨hx, hh⟩ => ?_
    subst hx hh
    cases ha : ahB l r m with
    | true =>
      rw [ha, if_pos rfl] at h6
      simp only [push_cast, ↓reduceIte, Nat.reduceEqDiff, reduceCtorEq, Nat.reduceAdd, Nat.reduceLT, Nat.reduceLeDiff, e7, e8, e9, e11, w5]
      exact ⟨(k, m + 1, high, p + 1), ⟨rfl, by dsimp only; omega, by dsimp only; omega, by dsimp only; omega, by dsimp only; omega, h6, rfl, rfl⟩, by dsimp only; omega⟩
    | false =>
      rw [ha, if_neg (by decide)] at h6
      simp only [push_cast, ↓reduceIte, Nat.reduceEqDiff, reduceCtorEq, Nat.reduceAdd, Nat.reduceLT, Nat.reduceLeDiff, e7, e8, e9, e11]
      exact ⟨(k, low, m, p + 1), ⟨rfl, by dsimp only; omega, by dsimp only; omega, by dsimp only; omega, by dsimp only; omega, h6, rfl, rfl⟩, by dsimp only; omega⟩
  · have c1' : ¬ (low : Int) < high := by omega
    rw [if_neg (by omega)] at h6
    simp only [push_cast, ↓reduceIte, Nat.reduceEqDiff, reduceCtorEq, Nat.reduceAdd, Nat.reduceLT, Nat.reduceLeDiff, aB, aA, e7, e8, e9, e11, c1', decide_false]
    exact hQ _ low p h6 e7 e9
theorem JA (l : List (List Val)) (a : Int) (r : List Val) (H : AH) (hll : l.length < 549755813888) (hl : ∀ x ∈ l, x.length < 1099511627776) (hr : r.length < 1099511627776) :
    aC Try.prog 12 [bG l, .int .i64 a, rowA r] H fun x H' => x = .tup [.int .i64 (AZ l a r).1, .int .i64 (AZ l a r).2] ∧ H' = H := by
  refine aI c12 (fun _ => rfl) (by simp [F12]) ?_
  unfold F12
  have pr : part false 1 0 (bG l) = some (bG l) := rfl
  have cr : cells (bG l) = [bG l] ∧ cS (bG l) = true := ⟨rfl, rfl⟩
  have cw : cells (rowA r) = [rowA r] ∧ cS (rowA r) = true := ⟨rfl, rfl⟩
  have al : dI (bG l) = some l.length := by simp [bG, dI]
  have hst : (if (l.length : Int) < (if 0 > a then 0 else a) then (l.length : Int) else if 0 > a then 0 else a) = ((dP l.length a : Nat) : Int) := by unfold dP; split <;> split at * <;> omega
  have hsl : dP l.length a ≤ l.length := by unfold dP; omega
  simp only [push_cast, ↓reduceIte, Nat.reduceEqDiff, reduceCtorEq, Nat.reduceAdd, Nat.reduceLT, Nat.reduceLeDiff, aB, aA, pr, cr, cw, al]
  simp only [hst]
  clear hst
  have hfx : H ++ [aM.live 1 [bG l]] ++ [aM.live 1 [rowA r]] ++ [aM.live 1 [AV.int IntKind.i64 0]] = FX H l r 0 := by simp [FX]
  rw [hfx]
  have hfp : AZ l a r = bin l r (l.length + 1) (gal l r (l.length + 1) (dP l.length a) 1 0).1 (min ((gal l r (l.length + 1) (dP l.length a) 1 0).1 + (gal l r (l.length + 1) (dP l.length a) 1 0).2.1 - 1) l.length) (gal l r (l.length + 1) (dP l.length a) 1 0).2.2 := rfl
  generalize dP l.length a = s at hsl hfp
  refine FD hll hl hr hsl (by rfl) (by rfl) (by rfl) (by rfl) (by rfl) fun f low step p hg h1 h2 h4 h3 e3 e7 e8 e9 e10 => ?_
  rw [hg] at hfp
  dsimp only at hfp
  have o0 := fx0 (H := H) (l := l) (r := r) (n := p)
  have w1 : IntKind.i64.wrap ((low : Int) + step) = ((low + step : Nat) : Int) := by rw [aG (by omega) (by omega)]; omega
  have w2 : IntKind.i64.wrap (((low + step : Nat) : Int) - 1) = ((low + step - 1 : Nat) : Int) := by rw [aG (by omega) (by omega)]; omega
  have hmn : (if (l.length : Int) < ((low + step - 1 : Nat) : Int) then (l.length : Int) else ((low + step - 1 : Nat) : Int)) = ((min (low + step - 1) l.length : Nat) : Int) := by split <;> omega
  have hm1 : low ≤ min (low + step - 1) l.length := by omega
  have hm2 : min (low + step - 1) l.length ≤ l.length := by omega
  generalize min (low + step - 1) l.length = m at hmn hfp hm1 hm2
  generalize low + step - 1 = d at hmn w2
  generalize low + step = d2 at w1 w2
  simp only [push_cast, ↓reduceIte, Nat.reduceEqDiff, reduceCtorEq, Nat.reduceAdd, Nat.reduceLT, Nat.reduceLeDiff, aB, aA, e3, e7, e8, e9, e10, o0, pr, al, w1, w2, hmn]
  refine FE hll hl hr hm1 hm2 h3 (by exact e7) (by exact e8) (by exact e9) (by rfl) fun f low' q hb e7 e9 => ?_
  rw [hb] at hfp
  rw [hfp]
  have o2 := fx2 (H := H) (l := l) (r := r) (n := q)
  have s2 := fs2 (H := H) (l := l) (r := r) (n := q) (m := q)
  have pn : part false 1 0 (.int .i64 (q : Int)) = some (.int .i64 (q : Int)) := rfl
  have pc : lQ (.int .i64 (q : Int)) 0 [.int .i64 (q : Int)] = .int .i64 (q : Int) := rfl
  simp only [push_cast, ↓reduceIte, Nat.reduceEqDiff, reduceCtorEq, Nat.reduceAdd, Nat.reduceLT, Nat.reduceLeDiff, aB, aA, e7, e9, o2, pn, pc, s2]
  exact List.prefix_append _ _
end Go.Eng
end
section
set_option linter.unusedVariables false
set_option linter.unusedSimpArgs false
set_option maxRecDepth 10000
namespace Go.Eng
open Go Go.Proofs
structure Pl where
  b : Bt
  at_ : Nat
def plC (p : Pl) : AV := .agg [gK p.b, bG p.b.keys, .int .i64 p.at_]
def xZ (t : Nat) : AV := .ptr t 0 0
structure Cur (H0 H : AH) (c : Nat) (v : AV) (ts : List Nat) (ps : List Pl) : Prop where
  o : OBL H0 H c [] [v] [(1, ts.map xZ)]
  len : ts.length = ps.length
  pl : ∀ (i : Nat) t p, ts[i]? = some t → ps[i]? = some p → obj? H t = some (3, [plC p])
  ap : ∀ t ∈ ts, t ≠ c ∧ idx v ≠ some t ∧ H0.length ≤ t
  nd : ts.Nodup
def FY : Option Bt → AV
  | none => .nilp
  | some b => gK b
def fU : List Bt → List (Option Bt) → Option (List Bt)
  | l, [] => some l
  | l, none :: r => fU l r
  | [], some b :: r => fU [b] r
  | a :: l, some b :: r => if b.key = a.key then fU (a :: l ++ [b]) r else none
theorem OBX.appk {H0 H : AH} {t sz B : Nat} {bx : Nat × List AV} {hd vs : List AV} {ls : List (Nat × List AV)} {v : AV} {l : List AV} (O : OBX H0 H t hd vs ls B bx) (j bytes : Nat) (x : AV) (hj : vs[j]? = some v) (hl : ls[j]? = some (sz, l)) (hb : (l.length + 1) * bytes ≤ 140737488355328) :
    ∃ v' Hm H2, lR sz bytes v (.ref sz H.length 0 1 1 true) (H ++ [.live sz [x]]) = some (v', Hm) ∧ obj? Hm t = some (hd.length + vs.length, [.agg (hd ++ vs)]) ∧ cells v' = [v'] ∧ cS v' = true ∧ List.set Hm t (.live (hd.length + vs.length) [.agg (hd ++ vs.set j v')]) = H2 ∧ OBX H0 H2 t hd (vs.set j v') (ls.set j (sz, l ++ [x])) B bx ∧ ∀ u o, obj? H u = some o → idx v ≠ some u → u ≠ t → obj? H2 u = some o ∧ idx v' ≠ some u := by
  have O1 := O.mono (J := [.live sz [x]])
  have ow := O1.o.own j v _ hj hl
  refine ⟨_, _, _, ow.app_eq (xs := [x]) (dN (by simp)) (by simp) (by simpa using hb), O1.mid hj, rfl, rfl, rfl, O1.app hj hl, fun u o ho hv hu => ⟨?_, fun e => ?_⟩⟩
  · rw [bK (fun e => hu e.symm)]
    refine bO (List.prefix_append _ _) ?_
    rw [gT hv]
    exact bO (List.prefix_append _ _) ho
  · cases e
    have := bJ ho
    rw [List.length_append] at this
    omega
def pT : AC := (.ops [oo 59 (.mov (.t 4)), oo 60 (.nilc (.t 59)), oo 61 (.faddr 0 (.t 60)), oo 62 (.load false 1 (.t 61)), oo 63 (.len (.t 62)), oo 64 (.bin .gtr (.t 63) (.v (.int .i64 0))), oo 65 (.mov (.t 64)), og 66 65 true (.mov (.t 7)), og 67 65 true (.nilc (.t 66)), og 68 65 true (.faddr 0 (.t 67)), og 69 65 true (.load false 1 (.t 68)), og 71 65 true (.mov (.t 4)), og 72 65 true (.nilc (.t 71)), og 73 65 true (.faddr 0 (.t 72)), og 74 65 true (.load false 1 (.t 73)), og 75 65 true (.iaddr 1 (.t 74) (.v (.int .i64 0))), og 76 65 true (.load false 1 (.t 75)), og 77 65 true (.nilc (.t 76)), og 78 65 true (.faddr 0 (.t 77)), og 79 65 true (.load false 1 (.t 78)), ⟨some 70, some (65, true), true, (.call 35 [(.t 69)])⟩, og 80 65 true (.call 35 [(.t 79)]), og 81 65 true (.bin .neq (.t 70) (.t 80)), oo 82 (.pick (.t 65) (.t 81) (.v (.bool false))), oo 23 (.mov (.t 59)), oo 24 (.mov (.t 60)), oo 25 (.mov (.t 61)), oo 26 (.mov (.t 62)), oo 27 (.mov (.t 63)), oo 28 (.mov (.t 64)), oo 29 (.mov (.t 65)), oo 30 (.mov (.t 66)), oo 31 (.mov (.t 67)), oo 32 (.mov (.t 68)), oo 33 (.mov (.t 69)), oo 35 (.mov (.t 71)), oo 36 (.mov (.t 72)), oo 37 (.mov (.t 73)), oo 38 (.mov (.t 74)), oo 39 (.mov (.t 75)), oo 40 (.mov (.t 76)), oo 41 (.mov (.t 77)), oo 42 (.mov (.t 78)), oo 43 (.mov (.t 79)), oo 34 (.mov (.t 70)), oo 44 (.mov (.t 80)), oo 45 (.mov (.t 81)), oo 46 (.mov (.t 82))])
def xO : AC := (.block 0 (.loop (.seq (.ops [oo 13 (.bin .lss (.t 12) (.t 11))]) (.seq (.cond (.t 13) .skip (.exit 0)) (.seq (.block 1 (.seq (.ops [oo 14 (.iaddr 1 (.t 10) (.t 12)), oo 15 (.load false 1 (.t 14)), oo 6 (.mov (.t 15))]) (.seq (.seq (.ops [oo 16 (.mov (.t 6)), oo 17 (.eqn 0 false (.t 16))]) (.cond (.t 17) (.exit 1) .skip)) (.seq (.ops [oo 18 (.mov (.t 6)), oo 19 (.mov (.t 6)), oo 20 (.call 30 [(.t 19)]), oo 21 (.build [.nilp, .nils, (.int .i64 0)] [(0, 1, (.t 18)), (1, 1, (.t 20))]), oo 22 (.box 3 (.t 21)), oo 7 (.mov (.t 22))]) (.seq (.seq (pT) (.cond (.t 46) (.seq (.ops [oo 2 (.mov (.v .nilp)), oo 3 (.mov (.v (.int .i64 1)))]) .ret) .skip)) (.ops [oo 47 (.mov (.t 4)), oo 48 (.mov (.t 4)), oo 49 (.nilc (.t 48)), oo 50 (.faddr 0 (.t 49)), oo 51 (.load false 1 (.t 50)), oo 52 (.mov (.t 7)), oo 53 (.bsl 1 1 .nilp [(0, (.t 52))]), oo 54 (.app 1 8 (.t 51) (.t 53)), oo 55 (.nilc (.t 47)), oo 56 (.faddr 0 (.t 55)), on (.store 1 (.t 56) (.t 54))])))))) (.ops [oo 57 (.bin .add (.t 12) (.v (.int .i64 1))), oo 12 (.mov (.t 57))]))))))
def F51 : AFn := ⟨59, 1, [.t 2, .t 3], (.seq (.ops [oo 2 (.mov (.v .nilp)), oo 3 (.mov (.v (.int .i64 0)))]) (.seq (.ops [oo 8 (.build [.nils] []), oo 9 (.box 1 (.t 8)), oo 4 (.mov (.t 9))]) (.seq (.seq (.ops [oo 10 (.mov (.t 0)), oo 11 (.len (.t 10)), oo 12 (.mov (.v (.int .i64 0)))]) (xO)) (.seq (.ops [oo 58 (.mov (.t 4)), oo 2 (.mov (.t 58)), oo 3 (.mov (.v (.int .i64 0)))]) .ret))))⟩
theorem c51 : aD Try.prog 51 = some F51 := by kernel_rfl
theorem NH {P : Program} {l : List AOp} {Q : AF → AH → Prop} {f : AF} {H : AH} {d : Option Nat} {g s : Nat} {b : Bool} {xs : List X} (h : gv (f s) b = some true) : cJ P (⟨d, some (s, b), true, .call g xs⟩ :: l) Q f H = aC P g (xs.map (ev f)) H (kM P l Q f d true H) := by
  unfold kM
  simp only [cJ, h, bQ]
theorem NI {P : Program} {l : List AOp} {Q : AF → AH → Prop} {f : AF} {H : AH} {d : Option Nat} {g s : Nat} {b : Bool} {xs : List X} (h : gv (f s) b = some false) : cJ P (⟨d, some (s, b), true, .call g xs⟩ :: l) Q f H = cJ P l Q (put f d (.tup [])) H := by
  simp only [cJ, h]
def mZ (l : List Bt) (b : Bt) : Bool :=
  match l with
  | [] => false
  | a :: _ => decide (b.key ≠ a.key)
theorem lP (p : Pl) : part false 1 0 (plC p) = some (gK p.b) ∧ part false 1 1 (plC p) = some (bG p.b.keys) ∧ part false 1 2 (plC p) = some (.int .i64 p.at_) := ⟨rfl, rfl, rfl⟩
theorem qY (t : Nat) : part false 1 0 (xZ t) = some (.ptr t 0 0) := rfl
theorem sM {a10 a11 a12 : AV} {H0 H : AH} {c B : Nat} {v : AV} {ts : List Nat} {l : List Bt} {b : Bt} {f : AF} {Q : AE → AF → AH → Prop} (C : Cur H0 H c v ts (l.map fun b => ⟨b, 0⟩)) (hB : obj? H B = some (3, [plC ⟨b, 0⟩])) (e4 : f 4 = .ptr c 0 0) (e7 : f 7 = .ptr B 0 0) (e10 : f 10 = a10) (e11 : f 11 = a11) (e12 : f 12 = a12)
    (hQ : ∀ f', f' 4 = .ptr c 0 0 → f' 7 = .ptr B 0 0 → f' 10 = a10 → f' 11 = a11 → f' 12 = a12 → f' 46 = .bool (mZ l b) → Q .normal f' H) : pT.wp Try.prog Q f H := by
  unfold pT
  have ob := C.o.ob
  have ow := C.o.own 0 _ _ rfl rfl
  have al := lN ow
  rw [List.length_map] at al
  have sc := dH ow
  simp only [List.length_cons, List.length_nil, List.nil_append, Nat.reduceAdd] at ob
  cases l with
  | nil =>
    have h0 : ts.length = 0 := C.len
    rw [h0] at al
    have g0 : ¬ (0 : Int) > 0 := by decide
    simp only [push_cast, ↓reduceIte, Nat.reduceEqDiff, reduceCtorEq, Nat.reduceAdd, Nat.reduceLT, Nat.reduceLeDiff, aB, aA, e4, e7, ob, sc, al, g0, decide_false]
    rw [NI (by rfl)]
    simp only [push_cast, ↓reduceIte, Nat.reduceEqDiff, reduceCtorEq, Nat.reduceAdd, Nat.reduceLT, Nat.reduceLeDiff]
    exact hQ _ e4 e7 e10 e11 e12 rfl
  | cons a l =>
    have hl := C.len
    cases ts with
    | nil => simp at hl
    | cons t0 ts =>
    have h1 := C.pl 0 t0 ⟨a, 0⟩ rfl rfl
    have he := dM ow
    have ax : aF 1 v (.int .i64 0) = some (ptk v 0 0) := aN (i := 0) he (by simp) _
    have lx : ((t0 :: ts).map xZ)[0]? = some (xZ t0) := rfl
    have g0 : ((t0 :: ts).length : Int) > 0 := by simp only [List.length_cons]; omega
    have le := aU he lx (List.prefix_refl H)
    generalize (t0 :: ts).length = m at al g0
    simp only [push_cast, ↓reduceIte, Nat.reduceEqDiff, reduceCtorEq, Nat.reduceAdd, Nat.reduceLT, Nat.reduceLeDiff, aB, aA, e4, e7, ob, sc, al, g0, decide_true, hB, h1, lP, qY, ax, le]
    rw [NH (by rfl)]
    (refine aC.look (IV b _) ?_; simp only [push_cast, ↓reduceIte, Nat.reduceEqDiff, reduceCtorEq, Nat.reduceAdd, Nat.reduceLT, Nat.reduceLeDiff, aB, aA, exJ])
    (refine aC.look (IV a _) ?_; simp only [push_cast, ↓reduceIte, Nat.reduceEqDiff, reduceCtorEq, Nat.reduceAdd, Nat.reduceLT, Nat.reduceLeDiff, aB, aA, exJ])
    refine hQ _ e4 e7 e10 e11 e12 ?_
    simp only [push_cast, ↓reduceIte, Nat.reduceEqDiff, reduceCtorEq, Nat.reduceAdd, Nat.reduceLT, Nat.reduceLeDiff, mZ]
    simp
theorem Cur.more {H0 H : AH} {c : Nat} {v : AV} {ts : List Nat} {ps : List Pl} (C : Cur H0 H c v ts ps) (p : Pl) (hb : ts.length < 1099511627776) :
    ∃ v' Hm H2, lR 1 8 v (.ref 1 (H.length + 1) 0 1 1 true) (H ++ [.live 3 [plC p]] ++ [.live 1 [xZ H.length]]) = some (v', Hm) ∧ obj? Hm c = some (1, [.agg [v]]) ∧ cells v' = [v'] ∧ cS v' = true ∧ List.set Hm c (.live 1 [.agg [v']]) = H2 ∧ Cur H0 H2 c v' (ts ++ [H.length]) (ps ++ [p]) := by
  have X := C.o.box 3 [plC p]
  obtain ⟨v', Hm, H2, h1, h2, h3, h4, h5, h6, h7⟩ := X.appk 0 8 (xZ H.length) rfl rfl (by simp only [List.length_map]; omega)
  rw [show (H ++ [aM.live 3 [plC p]]).length = H.length + 1 by simp] at h1
  have hlow : ∀ u, idx v = some u → u < H.length := fun u hu => (C.o.low (i := 0) rfl hu).2
  have hnew := h7 H.length (3, [plC p]) (bA _ _ _) (fun e => by have := hlow _ e; omega) X.bt
  have hold : ∀ t ∈ ts, ∀ o, obj? H t = some o → obj? H2 t = some o ∧ idx v' ≠ some t := fun t ht o ho => h7 t o (bO (List.prefix_append _ _) ho) (C.ap t ht).2.1 (C.ap t ht).1
  have hlt : ∀ t ∈ ts, ∃ o, obj? H t = some o := fun t ht => by
    obtain ⟨i, hi, rfl⟩ := List.mem_iff_getElem.1 ht
    exact ⟨_, C.pl i _ _ (List.getElem?_eq_getElem hi) (List.getElem?_eq_getElem (show i < ps.length by rw [← C.len]; exact hi))⟩
  refine ⟨v', Hm, H2, h1, h2, h3, h4, h5, ⟨by rw [List.map_append]; exact h6.o, by simp [C.len], fun i t q hi hq => ?_, fun t ht => ?_, ?_⟩⟩
  · rw [List.getElem?_append] at hi hq
    split at hi
    · rename_i hlt2
      rw [if_pos (by rw [← C.len]; exact hlt2)] at hq
      exact (hold t (List.mem_of_getElem? hi) _ (C.pl i t q hi hq)).1
    · rename_i hge
      rw [if_neg (by rw [← C.len]; exact hge)] at hq
      have hle := C.len
      obtain ⟨i', rfl⟩ : ∃ j, i = ts.length + j := ⟨i - ts.length, by omega⟩
      rw [Nat.add_sub_cancel_left] at hi
      rw [← hle, Nat.add_sub_cancel_left] at hq
      cases i' with
      | zero => simp at hi hq; subst hi hq; exact hnew.1
      | succ k => simp at hi
  · rcases List.mem_append.1 ht with ht | ht
    · obtain ⟨o, ho⟩ := hlt t ht
      exact ⟨(C.ap t ht).1, (hold t ht o ho).2, (C.ap t ht).2.2⟩
    · rw [List.mem_singleton.1 ht]
      exact ⟨X.bt, hnew.2, C.o.pre.length_le⟩
  · rw [List.nodup_append]
    refine ⟨C.nd, by simp, fun a ha b hb e => ?_⟩
    rw [List.mem_singleton] at hb
    subst e
    obtain ⟨o, ho⟩ := hlt a ha
    have := bJ ho
    omega
theorem Cur.mono {H0 H J : AH} {c : Nat} {v : AV} {ts : List Nat} {ps : List Pl} (C : Cur H0 H c v ts ps) : Cur H0 (H ++ J) c v ts ps :=
  ⟨C.o.mono, C.len, fun i t p h1 h2 => bO (List.prefix_append _ _) (C.pl i t p h1 h2), C.ap, C.nd⟩
theorem sN {l : List Bt} {b : Bt} {r : List (Option Bt)} : fU l (some b :: r) = if mZ l b = true then none else fU (l ++ [b]) r := by
  cases l with
  | nil => rfl
  | cons a l =>
    simp only [fU, mZ]
    by_cases h : b.key = a.key <;> simp [h]
theorem BA {x : AV} {bs : List (Option Bt)} {H : AH} {f : AF} {Q : AE → AF → AH → Prop} (hx : elems 1 x H = some (bs.map FY)) (hl : bs.length < 1099511627776) (hok : ∀ b, some b ∈ bs → AL b) (e4 : f 4 = .ptr H.length 0 0) (e10 : f 10 = x) (e11 : f 11 = .int .i64 bs.length) (e12 : f 12 = .int .i64 0)
    (h1 : fU [] bs = none → ∀ f H', H <+: H' → f 2 = .nilp → f 3 = .int .i64 1 → Q .ret f H')
    (h2 : ∀ l f H' v ts, fU [] bs = some l → Cur H H' H.length v ts (l.map fun b => ⟨b, 0⟩) → f 4 = .ptr H.length 0 0 → Q .normal f H') : xO.wp Try.prog Q f (H ++ [.live 1 [.agg [.nils]]]) := by
  unfold xO
  simp only [push_cast, ↓reduceIte, Nat.reduceEqDiff, reduceCtorEq, Nat.reduceAdd, Nat.reduceLT, Nat.reduceLeDiff]
  have c0 : Cur H (H ++ [.live 1 [.agg [.nils]]]) H.length .nils [] [] := by
    refine ⟨⟨aR (List.prefix_refl _), Nat.le_refl _, bA _ _ _, fun i v l h1 h2 => ?_, fun i j v w u hij h1 h2 hu => ?_, fun i v h1 => ?_, rfl⟩, rfl, fun i t p h => by simp at h, fun t h => by simp at h, List.nodup_nil⟩
    · match i with
      | 0 => cases h1; cases h2; exact .inl ⟨rfl, rfl⟩
      | n + 1 => cases h1
    · match i with
      | 0 => cases h1; cases hu
      | n + 1 => cases h1
    · match i with
      | 0 => cases h1; exact fun e => by cases e
      | n + 1 => cases h1
  refine aJ (fun (s : Nat × List Bt) f H' => s.1 ≤ bs.length ∧ s.2.length ≤ s.1 ∧ f 4 = .ptr H.length 0 0 ∧ f 10 = x ∧ f 11 = .int .i64 bs.length ∧ f 12 = .int .i64 s.1 ∧ fU [] bs = fU s.2 (bs.drop s.1) ∧ ∃ v ts, Cur H H' H.length v ts (s.2.map fun b => ⟨b, 0⟩)) (fun s => bs.length - s.1) (0, []) ⟨Nat.zero_le _, Nat.le_refl _, e4, e10, e11, e12, rfl, _, _, c0⟩ ?_
  clear e4 e10 e11 e12 c0
  rintro ⟨i, l⟩ f H2 ⟨h3, h3b, e4, e10, e11, e12, hs, v, ts, C⟩
  dsimp only at h3 h3b e12 hs
  have hp := C.o.pre
  by_cases hi : i < bs.length
  · have hi' : (i : Int) < bs.length := by omega
    have ax : aF 1 x (.int .i64 (i : Int)) = some (ptk x i 0) := aN hx (by rw [List.length_map]; exact hi) _
    have lx : (bs.map FY)[i]? = some (FY bs[i]) := by simp [hi]
    rw [List.drop_eq_getElem_cons hi] at hs
    have hmem := List.getElem_mem hi
    generalize bs[i] = ob at lx hs hmem
    cases ob with
    | none =>
      have po : part false 1 0 (FY none) = some .nilp := rfl
      simp only [push_cast, ↓reduceIte, Nat.reduceEqDiff, reduceCtorEq, Nat.reduceAdd, Nat.reduceLT, Nat.reduceLeDiff, aB, aA, e4, e10, e11, e12, hi', ax, aU hx lx, hp, po]
      refine ⟨(i + 1, l), ⟨hi, by dsimp only; omega, ?_, by rw [hs]; cases l <;> rfl, v, ts, C⟩, by dsimp only; omega⟩
      dsimp only; rw [aG (by omega) (by omega)]; simp
    | some b =>
      have po : part false 1 0 (FY (some b)) = some (gK b) := rfl
      have ck : cells (bG b.keys) = [bG b.keys] ∧ cS (bG b.keys) = true := ⟨rfl, rfl⟩
      have cb : cells (.lptr 9 [xW b] 0 0) = [.lptr 9 [xW b] 0 0] := rfl
      simp only [push_cast, ↓reduceIte, Nat.reduceEqDiff, reduceCtorEq, Nat.reduceAdd, Nat.reduceLT, Nat.reduceLeDiff, aB, aA, e4, e10, e11, e12, hi', ax, aU hx lx, hp, po, gK]
      (refine aC.look (IW b (hok b hmem) _) ?_; simp only [push_cast, ↓reduceIte, Nat.reduceEqDiff, reduceCtorEq, Nat.reduceAdd, Nat.reduceLT, Nat.reduceLeDiff, aB, aA, e4, e10, e11, e12, ck, cb, bG])
      have hbx : AV.agg [.lptr 9 [xW b] 0 0, .list 1 (b.keys.map rowA) false, .int .i64 0] = plC ⟨b, 0⟩ := rfl
      rw [hbx]
      rw [sN] at hs
      refine sM (B := H2.length) (b := b) C.mono (bA _ _ _) (by exact e4) (by rfl) (by exact e10) (by exact e11) (by exact e12) fun f' g4 g7 g10 g11 g12 g46 => ?_
      cases hd : mZ l b with
      | true =>
        rw [hd, if_pos rfl] at hs
        rw [hd] at g46
        simp only [push_cast, ↓reduceIte, Nat.reduceEqDiff, reduceCtorEq, Nat.reduceAdd, Nat.reduceLT, Nat.reduceLeDiff, g46]
        exact h1 hs _ _ (aR hp) rfl rfl
      | false =>
        rw [hd, if_neg (by decide)] at hs
        rw [hd] at g46
        have hts : ts.length = l.length := by rw [C.len, List.length_map]
        obtain ⟨v', Hm, H3, q1, q2, q3, q4, q5, C2⟩ := C.more ⟨b, 0⟩ (by omega)
        have ob := (C.mono (J := [.live 3 [plC ⟨b, 0⟩]])).mono (J := [.live 1 [xZ H2.length]]) |>.o.ob
        have ob1 := (C.mono (J := [.live 3 [plC ⟨b, 0⟩]])).o.ob
        simp only [List.length_cons, List.length_nil, List.nil_append, Nat.reduceAdd] at ob ob1
        have sc := dH (C.o.own 0 _ _ rfl rfl)
        have hpA : ∀ t, xZ t = .ptr t 0 0 := fun _ => rfl
        simp only [hpA] at q1 ob
        have hl2 : (H2 ++ [aM.live 3 [plC ⟨b, 0⟩]]).length = H2.length + 1 := by simp
        have cpt : ∀ t, cells (.ptr t 0 0) = [.ptr t 0 0] := fun _ => rfl
        simp only [push_cast, ↓reduceIte, Nat.reduceEqDiff, reduceCtorEq, Nat.reduceAdd, Nat.reduceLT, Nat.reduceLeDiff, aB, aA, g46, g4, g7, g10, g11, g12, ob1, cpt, sc, q1, q2, q3, q4, q5]
        refine ⟨(i + 1, l ++ [b]), ⟨hi, by dsimp only; rw [List.length_append, List.length_singleton]; omega, ?_, hs, v', _, by rw [List.map_append]; exact C2⟩, by dsimp only; omega⟩
        dsimp only; rw [aG (by omega) (by omega)]; simp
  · have hi' : ¬ (i : Int) < bs.length := by omega
    simp only [push_cast, ↓reduceIte, Nat.reduceEqDiff, reduceCtorEq, Nat.reduceAdd, Nat.reduceLT, Nat.reduceLeDiff, e11, e12, hi']
    rw [List.drop_eq_nil_of_le (by omega)] at hs
    exact h2 l _ _ v ts (by rw [hs]; cases l <;> rfl) C e4
theorem qZ (x : AV) (bs : List (Option Bt)) (H : AH) (hx : elems 1 x H = some (bs.map FY)) (hl : bs.length < 1099511627776) (hok : ∀ b, some b ∈ bs → AL b) :
    aC Try.prog 51 [x] H fun r H' => H <+: H' ∧ (fU [] bs = none → r = .tup [.nilp, .int .i64 1]) ∧ ∀ l, fU [] bs = some l → ∃ v ts, r = .tup [.ptr H.length 0 0, .int .i64 0] ∧ Cur H H' H.length v ts (l.map fun b => ⟨b, 0⟩) := by
  refine aP c51 (by simp [F51]) ?_
  unfold F51
  have la := aS hx
  rw [List.length_map] at la
  simp only [push_cast, ↓reduceIte, Nat.reduceEqDiff, reduceCtorEq, Nat.reduceAdd, Nat.reduceLT, Nat.reduceLeDiff, aB, aA, la]
  refine BA hx hl hok (by rfl) (by rfl) (by rfl) (by rfl) (fun hn f H' hp e2 e3 => ?_) (fun l f H' v ts hs C e4 => ?_)
  · simp only [push_cast, ↓reduceIte, Nat.reduceEqDiff, reduceCtorEq, Nat.reduceAdd, Nat.reduceLT, Nat.reduceLeDiff, e2, e3]
    exact ⟨hp, fun l h => by rw [hn] at h; cases h⟩
  · simp only [push_cast, ↓reduceIte, Nat.reduceEqDiff, reduceCtorEq, Nat.reduceAdd, Nat.reduceLT, Nat.reduceLeDiff, e4]
    have e1 : fU [] bs = none → AV.tup [.ptr H.length 0 0, .int .i64 0] = .tup [.nilp, .int .i64 1] := fun h => by rw [hs] at h; cases h
    refine ⟨C.o.pre, e1, fun l2 h => ?_⟩
    have e2 : l = l2 := by rw [hs] at h; exact Option.some.inj h
    rw [← e2]
    exact ⟨v, ts, C⟩
def MB : AFn := ⟨24, 1, [.t 2, .t 3], (.seq (.ops [oo 2 (.mov (.v .nils)), oo 3 (.mov (.v (.bool false)))]) (.seq (.seq (.ops [oo 24 (.mov (.t 0)), oo 25 (.nilc (.t 24)), oo 26 (.faddr 2 (.t 25)), oo 27 (.load false 1 (.t 26)), oo 28 (.mov (.t 0)), oo 29 (.nilc (.t 28)), oo 30 (.faddr 1 (.t 29)), oo 31 (.load false 1 (.t 30)), oo 32 (.len (.t 31)), oo 33 (.bin .eql (.t 27) (.t 32)), oo 4 (.mov (.t 24)), oo 5 (.mov (.t 25)), oo 6 (.mov (.t 26)), oo 7 (.mov (.t 27)), oo 8 (.mov (.t 28)), oo 9 (.mov (.t 29)), oo 10 (.mov (.t 30)), oo 11 (.mov (.t 31)), oo 12 (.mov (.t 32)), oo 13 (.mov (.t 33))]) (.cond (.t 13) (.seq (.ops [oo 2 (.mov (.v .nils)), oo 3 (.mov (.v (.bool false)))]) .ret) .skip)) (.seq (.ops [oo 24 (.mov (.t 0)), oo 25 (.nilc (.t 24)), oo 26 (.faddr 1 (.t 25)), oo 27 (.load false 1 (.t 26)), oo 28 (.mov (.t 0)), oo 29 (.nilc (.t 28)), oo 30 (.faddr 2 (.t 29)), oo 31 (.load false 1 (.t 30)), oo 32 (.iaddr 1 (.t 27) (.t 31)), oo 33 (.load false 1 (.t 32)), oo 34 (.mov (.t 33)), oo 35 (.mov (.v (.bool true))), oo 14 (.mov (.t 24)), oo 15 (.mov (.t 25)), oo 16 (.mov (.t 26)), oo 17 (.mov (.t 27)), oo 18 (.mov (.t 28)), oo 19 (.mov (.t 29)), oo 20 (.mov (.t 30)), oo 21 (.mov (.t 31)), oo 22 (.mov (.t 32)), oo 23 (.mov (.t 33)), oo 2 (.mov (.t 34)), oo 3 (.mov (.t 35))]) .ret)))⟩
theorem NJ : aD Try.prog 122 = some MB := by kernel_rfl
theorem MC {H : AH} {t : Nat} {p : Pl} (h : obj? H t = some (3, [plC p])) (hl : p.b.keys.length < 1099511627776) (ha : p.at_ ≤ p.b.keys.length) : aC Try.prog 122 [.ptr t 0 0] H fun r H' => r = (match p.b.keys[p.at_]? with | some k => .tup [rowA k, .bool true] | none => .tup [.nils, .bool false]) ∧ H' = H := by
  refine aP NJ (by simp [MB]) ?_
  unfold MB
  have al : dI (bG p.b.keys) = some p.b.keys.length := by simp [bG, dI]
  by_cases hi : p.at_ < p.b.keys.length
  · have hne : ¬ (p.at_ : Int) = p.b.keys.length := by omega
    have ax : aF 1 (bG p.b.keys) (.int .i64 (p.at_ : Int)) = some (.lptr 1 (p.b.keys.map rowA) p.at_ 0) := AY (by rw [List.length_map]; exact hi) _
    have lx : (p.b.keys.map rowA)[p.at_]? = some (rowA p.b.keys[p.at_]) := by simp [hi]
    have e : p.b.keys[p.at_]? = some p.b.keys[p.at_] := List.getElem?_eq_getElem hi
    rw [e]
    simp only [push_cast, ↓reduceIte, Nat.reduceEqDiff, reduceCtorEq, Nat.reduceAdd, Nat.reduceLT, Nat.reduceLeDiff, aB, aA, h, lP, al, hne, decide_false, ax, lx, lO]
    (repeat (first | exact List.prefix_refl _ | refine List.IsPrefix.trans ?_ (List.prefix_append _ _)))
  · have e : p.b.keys[p.at_]? = none := List.getElem?_eq_none (by omega)
    have hne : (p.at_ : Int) = p.b.keys.length := by omega
    rw [e]
    simp only [push_cast, ↓reduceIte, Nat.reduceEqDiff, reduceCtorEq, Nat.reduceAdd, Nat.reduceLT, Nat.reduceLeDiff, aB, aA, h, lP, al, hne, decide_true]
    (repeat (first | exact List.prefix_refl _ | refine List.IsPrefix.trans ?_ (List.prefix_append _ _)))
def Pl.key (p : Pl) : Option (List Val) := p.b.keys[p.at_]?
def sO (k : List Val) : Option (List Val) → Bool
  | none => true
  | some o => decide (fB k o < 0)
def jL (o : Option (List Val)) (p : Pl) : Option (List Val) :=
  match p.key with
  | none => o
  | some k => if sO k o = true then some k else o
def rA (ps : List Pl) : Option (List Val) := ps.foldl jL none
def MK : Option (List Val) → AV
  | none => .nils
  | some k => rowA k
structure MD (ps : List Pl) : Prop where
  n : ps.length < 1099511627776
  kl : ∀ p ∈ ps, p.b.keys.length < 1099511627776
  at_ : ∀ p ∈ ps, p.at_ ≤ p.b.keys.length
  kr : ∀ p ∈ ps, ∀ k ∈ p.b.keys, k.length < 1099511627776
def F86 : AFn := ⟨39, 1, [.t 2, .t 3], (.seq (.ops [oo 2 (.mov (.v .nils)), oo 3 (.mov (.v (.bool false)))]) (.seq (.seq (.ops [oo 8 (.mov (.t 0)), oo 9 (.eqn 0 false (.t 8))]) (.cond (.t 9) (.seq (.ops [oo 2 (.mov (.v .nils)), oo 3 (.mov (.v (.bool false)))]) .ret) .skip)) (.seq (.seq (.ops [oo 10 (.mov (.t 0)), oo 11 (.nilc (.t 10)), oo 12 (.faddr 0 (.t 11)), oo 13 (.load false 1 (.t 12)), oo 14 (.len (.t 13)), oo 15 (.mov (.v (.int .i64 0)))]) (.block 0 (.loop (.seq (.ops [oo 16 (.bin .lss (.t 15) (.t 14))]) (.seq (.cond (.t 16) .skip (.exit 0)) (.seq (.block 1 (.seq (.ops [oo 17 (.iaddr 1 (.t 13) (.t 15)), oo 18 (.load false 1 (.t 17)), oo 5 (.mov (.t 18))]) (.seq (.ops [oo 20 (.mov (.t 5)), oo 21 (.call 122 [(.t 20)]), oo 19 (.mov (.t 21)), oo 22 (.ext (.t 19) 0), oo 23 (.ext (.t 19) 1), oo 6 (.mov (.t 22)), oo 7 (.mov (.t 23))]) (.seq (.ops [oo 24 (.mov (.t 7)), oo 25 (.mov (.t 24)), og 26 25 true (.mov (.t 3)), og 27 25 true (.un .not (.t 26)), og 28 25 true (.mov (.t 27)), og 29 28 false (.mov (.t 6)), og 30 28 false (.mov (.t 2)), og 31 28 false (.call 61 [(.t 29), (.t 30)]), og 32 28 false (.bin .lss (.t 31) (.v (.int .i64 0))), og 33 25 true (.pick (.t 28) (.v (.bool true)) (.t 32)), oo 34 (.pick (.t 25) (.t 33) (.v (.bool false)))]) (.cond (.t 34) (.ops [oo 35 (.mov (.t 6)), oo 2 (.mov (.t 35)), oo 3 (.mov (.v (.bool true)))]) .skip))))) (.ops [oo 36 (.bin .add (.t 15) (.v (.int .i64 1))), oo 15 (.mov (.t 36))]))))))) (.seq (.ops [oo 37 (.mov (.t 2)), oo 38 (.mov (.t 3)), oo 2 (.mov (.t 37)), oo 3 (.mov (.t 38))]) .ret))))⟩
theorem c86 : aD Try.prog 86 = some F86 := by kernel_rfl
theorem FF {H0 H : AH} {c : Nat} {v : AV} {ts : List Nat} {ps : List Pl} (C : Cur H0 H c v ts ps) (hok : MD ps) : aC Try.prog 86 [.ptr c 0 0] H fun r H' => r = .tup [MK (rA ps), .bool (rA ps).isSome] ∧ H' = H := by
  refine aP c86 (by simp [F86]) ?_
  unfold F86
  have ob := C.o.ob
  simp only [List.length_cons, List.length_nil, List.nil_append, Nat.reduceAdd] at ob
  have ow := C.o.own 0 _ _ rfl rfl
  have he := dM ow
  have al := lN ow
  rw [List.length_map, C.len] at al
  have sc := dH ow
  have hn := hok.n
  simp only [push_cast, ↓reduceIte, Nat.reduceEqDiff, reduceCtorEq, Nat.reduceAdd, Nat.reduceLT, Nat.reduceLeDiff, aB, aA, ob, sc, al]
  refine aJ (fun (s : Nat × Option (List Val)) f H' => H' = H ∧ s.1 ≤ ps.length ∧ f 13 = v ∧ f 14 = .int .i64 ps.length ∧ f 15 = .int .i64 s.1 ∧ f 2 = MK s.2 ∧ f 3 = .bool s.2.isSome ∧ s.2 = (ps.take s.1).foldl jL none ∧ ∀ k, s.2 = some k → k.length < 1099511627776) (fun s => ps.length - s.1) (0, none) ⟨rfl, Nat.zero_le _, rfl, rfl, rfl, rfl, rfl, rfl, fun k h => by cases h⟩ ?_
  rintro ⟨i, o⟩ f H' ⟨rfl, h1, e13, e14, e15, e2, e3, hs, hso⟩
  dsimp only at h1 e15 e2 e3 hs hso
  by_cases hi : i < ps.length
  · have hi' : (i : Int) < ps.length := by omega
    have hti : i < ts.length := by rw [C.len]; exact hi
    have ax : aF 1 v (.int .i64 (i : Int)) = some (ptk v i 0) := aN he (by rw [List.length_map]; exact hti) _
    have lx : (ts.map xZ)[i]? = some (xZ ts[i]) := by simp [hti]
    have hp := C.pl i ts[i] ps[i] (List.getElem?_eq_getElem hti) (List.getElem?_eq_getElem hi)
    have hsn : (ps.take (i + 1)).foldl jL none = jL o ps[i] := by rw [List.take_succ_eq_append_getElem hi, List.foldl_append, ← hs]; rfl
    have hm := List.getElem_mem hi
    have kp := MC hp (hok.kl _ hm) (hok.at_ _ hm)
    have hkr := hok.kr _ hm
    generalize ps[i] = p at hp hsn hm kp hkr
    generalize ts[i] = t at lx hp kp
    have le := aU he lx (List.prefix_refl H')
    simp only [push_cast, ↓reduceIte, Nat.reduceEqDiff, reduceCtorEq, Nat.reduceAdd, Nat.reduceLT, Nat.reduceLeDiff, aB, aA, e13, e14, e15, e2, e3, hi', ax, le, qY]
    refine kp.mono fun r H2 ⟨hr, hh⟩ => ?_
    subst hh
    have wi : IntKind.i64.wrap ((i : Int) + 1) = ((i + 1 : Nat) : Int) := by rw [aG (by omega) (by omega)]; omega
    have hle : i + 1 ≤ ps.length := hi
    have hms : ps.length - (i + 1) < ps.length - i := by omega
    cases hk : p.b.keys[p.at_]? with
    | none =>
      have hsl : jL o p = o := by simp [jL, Pl.key, hk]
      rw [hsl] at hsn
      rw [hk] at hr
      dsimp only at hr
      subst hr
      simp only [push_cast, ↓reduceIte, Nat.reduceEqDiff, reduceCtorEq, Nat.reduceAdd, Nat.reduceLT, Nat.reduceLeDiff, e13, e14, e15, e2, e3]
      exact ⟨(i + 1, o), ⟨hle, wi, rfl, rfl, hsn.symm, hso⟩, hms⟩
    | some k =>
      have hkl := hkr k (List.mem_of_getElem? hk)
      have hsk : ∀ x, some k = some x → x.length < 1099511627776 := fun x e => by cases e; exact hkl
      have hsl : jL o p = if sO k o = true then some k else o := by simp [jL, Pl.key, hk]
      rw [hsl] at hsn
      rw [hk] at hr
      dsimp only at hr
      subst hr
      cases o with
      | none =>
        have i0 : (none : Option (List Val)).isSome = false := rfl
        rw [show sO k none = true from rfl, if_pos rfl] at hsn
        simp only [push_cast, ↓reduceIte, Nat.reduceEqDiff, reduceCtorEq, Nat.reduceAdd, Nat.reduceLT, Nat.reduceLeDiff, e13, e14, e15, e2, e3, i0]
        exact ⟨(i + 1, some k), ⟨hle, wi, rfl, rfl, hsn.symm, hsk⟩, hms⟩
      | some o =>
        have i1 : (some o : Option (List Val)).isSome = true := rfl
        have hol := hso o rfl
        simp only [push_cast, ↓reduceIte, Nat.reduceEqDiff, reduceCtorEq, Nat.reduceAdd, Nat.reduceLT, Nat.reduceLeDiff, e13, e14, e15, e2, e3, i1]
        (refine aC.look (fQ (rowA k) (rowA o) k o _ rfl rfl hkl hol) ?_; simp only [push_cast, ↓reduceIte, Nat.reduceEqDiff, reduceCtorEq, Nat.reduceAdd, Nat.reduceLT, Nat.reduceLeDiff, aB, aA, e13, e14, e15, e2, e3, i1])
        by_cases h : fB k o < 0
        · rw [if_pos (by simpa [sO] using h)] at hsn
          simp only [push_cast, ↓reduceIte, Nat.reduceEqDiff, reduceCtorEq, Nat.reduceAdd, Nat.reduceLT, Nat.reduceLeDiff, h, decide_true, e13, e14, e15, e2, e3, i1]
          exact ⟨(i + 1, some k), ⟨hle, wi, rfl, rfl, hsn.symm, hsk⟩, hms⟩
        · rw [if_neg (by simpa [sO] using h)] at hsn
          simp only [push_cast, ↓reduceIte, Nat.reduceEqDiff, reduceCtorEq, Nat.reduceAdd, Nat.reduceLT, Nat.reduceLeDiff, h, decide_false, e13, e14, e15, e2, e3, i1]
          exact ⟨(i + 1, some o), ⟨hle, wi, rfl, rfl, hsn.symm, hso⟩, hms⟩
  · have hi' : ¬ (i : Int) < ps.length := by omega
    simp only [push_cast, ↓reduceIte, Nat.reduceEqDiff, reduceCtorEq, Nat.reduceAdd, Nat.reduceLT, Nat.reduceLeDiff, e13, e14, e15, e2, e3, hi']
    rw [List.take_of_length_le (by omega)] at hs
    rw [hs]
    rfl
def F47 : AFn := ⟨11, 1, [.t 2], (.seq (.ops [oo 2 (.mov (.v (.bool false)))]) (.seq (.ops [oo 6 (.mov (.t 0)), oo 7 (.call 86 [(.t 6)]), oo 5 (.mov (.t 7)), oo 8 (.ext (.t 5) 0), oo 9 (.ext (.t 5) 1), oo 3 (.mov (.t 8)), oo 4 (.mov (.t 9))]) (.seq (.ops [oo 10 (.mov (.t 4)), oo 2 (.mov (.t 10))]) .ret)))⟩
theorem c47 : aD Try.prog 47 = some F47 := by kernel_rfl
theorem FG {H0 H : AH} {c : Nat} {v : AV} {ts : List Nat} {ps : List Pl} (C : Cur H0 H c v ts ps) (hok : MD ps) : aC Try.prog 47 [.ptr c 0 0] H fun r H' => r = .bool (rA ps).isSome ∧ H' = H := by
  refine aI c47 (fun _ => rfl) (by simp [F47]) ?_
  unfold F47
  simp only [push_cast, ↓reduceIte, Nat.reduceEqDiff, reduceCtorEq, Nat.reduceAdd, Nat.reduceLT, Nat.reduceLeDiff]
  (refine aC.look (FF C hok) ?_; try simp only [push_cast, ↓reduceIte, Nat.reduceEqDiff, reduceCtorEq, Nat.reduceAdd, Nat.reduceLT, Nat.reduceLeDiff, aB, aA])
  (repeat (first | exact List.prefix_refl _ | refine List.IsPrefix.trans ?_ (List.prefix_append _ _)))
theorem pU (H : AH) : aC Try.prog 86 [.nilp] H fun r H' => r = .tup [.nils, .bool false] ∧ H' = H := by
  refine aI c86 (fun _ => rfl) (by simp [F86]) ?_
  unfold F86
  simp only [push_cast, ↓reduceIte, Nat.reduceEqDiff, reduceCtorEq, Nat.reduceAdd, Nat.reduceLT, Nat.reduceLeDiff]
  (repeat (first | exact List.prefix_refl _ | refine List.IsPrefix.trans ?_ (List.prefix_append _ _)))
theorem FH (H : AH) : aC Try.prog 47 [.nilp] H fun r H' => r = .bool false ∧ H' = H := by
  refine aI c47 (fun _ => rfl) (by simp [F47]) ?_
  unfold F47
  simp only [push_cast, ↓reduceIte, Nat.reduceEqDiff, reduceCtorEq, Nat.reduceAdd, Nat.reduceLT, Nat.reduceLeDiff]
  (refine aC.look (pU _) ?_; try simp only [push_cast, ↓reduceIte, Nat.reduceEqDiff, reduceCtorEq, Nat.reduceAdd, Nat.reduceLT, Nat.reduceLeDiff, aB, aA])
  (repeat (first | exact List.prefix_refl _ | refine List.IsPrefix.trans ?_ (List.prefix_append _ _)))
def F48 : AFn := ⟨12, 1, [.t 2], (.seq (.ops [oo 2 (.mov (.v .nils))]) (.seq (.ops [oo 6 (.mov (.t 0)), oo 7 (.call 86 [(.t 6)]), oo 5 (.mov (.t 7)), oo 8 (.ext (.t 5) 0), oo 9 (.ext (.t 5) 1), oo 3 (.mov (.t 8)), oo 4 (.mov (.t 9))]) (.seq (.ops [oo 10 (.mov (.t 3)), oo 11 (.call 87 [(.t 10)]), oo 2 (.mov (.t 11))]) .ret)))⟩
theorem c48 : aD Try.prog 48 = some F48 := by kernel_rfl
theorem JB (H : AH) : aC Try.prog 48 [.nilp] H fun r H' => r = rowA [] ∧ H' = H := by
  refine aI c48 (fun n => jW n _) (by simp [F48]) ?_
  unfold F48
  simp only [push_cast, ↓reduceIte, Nat.reduceEqDiff, reduceCtorEq, Nat.reduceAdd, Nat.reduceLT, Nat.reduceLeDiff]
  (refine aC.look (pU _) ?_; try simp only [push_cast, ↓reduceIte, Nat.reduceEqDiff, reduceCtorEq, Nat.reduceAdd, Nat.reduceLT, Nat.reduceLeDiff, aB, aA])
  (refine aC.look (dL .nils [] _ rfl (by decide)) ?_; try simp only [push_cast, ↓reduceIte, Nat.reduceEqDiff, reduceCtorEq, Nat.reduceAdd, Nat.reduceLT, Nat.reduceLeDiff, aB, aA])
  (repeat (first | exact List.prefix_refl _ | refine List.IsPrefix.trans ?_ (List.prefix_append _ _)))
def F85 : AFn := ⟨19, 1, [.t 2], (.seq (.ops [oo 2 (.mov (.v .nils))]) (.seq (.ops [oo 6 (.mov (.t 0)), oo 7 (.call 86 [(.t 6)]), oo 5 (.mov (.t 7)), oo 8 (.ext (.t 5) 0), oo 9 (.ext (.t 5) 1), oo 3 (.alloc 1 .nils), on (.store 1 (.t 3) (.t 8)), oo 4 (.mov (.t 9))]) (.seq (.seq (.ops [oo 10 (.mov (.t 4)), oo 11 (.un .not (.t 10))]) (.cond (.t 11) (.seq (.ops [oo 2 (.mov (.v .nils))]) .ret) .skip)) (.seq (.ops [oo 12 (.mov (.t 0)), oo 13 (.nilc (.t 12)), oo 14 (.faddr 0 (.t 13)), oo 15 (.load false 1 (.t 14)), oo 16 (.call 120 [(.t 15)]), oo 17 (.mkf 121 [] [(.t 3)]), oo 18 (.call 119 [(.t 16), (.t 17)]), oo 2 (.mov (.t 18))]) .ret))))⟩
theorem c85 : aD Try.prog 85 = some F85 := by kernel_rfl
theorem CI (H : AH) : aC Try.prog 85 [.nilp] H fun r H' => r = .nils ∧ H' = H := by
  refine aI c85 (fun _ => rfl) (by simp [F85]) ?_
  unfold F85
  simp only [push_cast, ↓reduceIte, Nat.reduceEqDiff, reduceCtorEq, Nat.reduceAdd, Nat.reduceLT, Nat.reduceLeDiff]
  (refine aC.look (pU _) ?_; try simp only [push_cast, ↓reduceIte, Nat.reduceEqDiff, reduceCtorEq, Nat.reduceAdd, Nat.reduceLT, Nat.reduceLeDiff, aB, aA])
  (repeat (first | exact List.prefix_refl _ | refine List.IsPrefix.trans ?_ (List.prefix_append _ _)))
def F49 : AFn := ⟨26, 1, [.t 2], (.seq (.ops [oo 2 (.mov (.v .nils))]) (.seq (.ops [oo 3 (.mov (.v .nils))]) (.seq (.seq (.ops [oo 6 (.mov (.t 0)), oo 7 (.call 85 [(.t 6)]), oo 8 (.len (.t 7)), oo 9 (.mov (.v (.int .i64 0)))]) (.block 0 (.loop (.seq (.ops [oo 10 (.bin .lss (.t 9) (.t 8))]) (.seq (.cond (.t 10) .skip (.exit 0)) (.seq (.block 1 (.seq (.ops [oo 11 (.iaddr 1 (.t 7) (.t 9)), oo 12 (.load false 1 (.t 11)), oo 5 (.mov (.t 12))]) (.ops [oo 26 (.mov (.t 3)), oo 27 (.mov (.t 5)), oo 28 (.nilc (.t 27)), oo 29 (.faddr 0 (.t 28)), oo 30 (.load false 1 (.t 29)), oo 31 (.mov (.t 5)), oo 32 (.nilc (.t 31)), oo 33 (.faddr 2 (.t 32)), oo 34 (.load false 1 (.t 33)), oo 35 (.call 31 [(.t 30), (.t 34)]), oo 36 (.app 4 48 (.t 26) (.t 35)), oo 37 (.mov (.t 36)), oo 13 (.mov (.t 26)), oo 14 (.mov (.t 27)), oo 15 (.mov (.t 28)), oo 16 (.mov (.t 29)), oo 17 (.mov (.t 30)), oo 18 (.mov (.t 31)), oo 19 (.mov (.t 32)), oo 20 (.mov (.t 33)), oo 21 (.mov (.t 34)), oo 22 (.mov (.t 35)), oo 23 (.mov (.t 36)), oo 3 (.mov (.t 37))]))) (.ops [oo 24 (.bin .add (.t 9) (.v (.int .i64 1))), oo 9 (.mov (.t 24))]))))))) (.seq (.ops [oo 25 (.mov (.t 3)), oo 2 (.mov (.t 25))]) .ret))))⟩
theorem c49 : aD Try.prog 49 = some F49 := by kernel_rfl
theorem JC (H : AH) : aC Try.prog 49 [.nilp] H fun r H' => r = .nils ∧ H' = H := by
  refine aI c49 (fun _ => rfl) (by simp [F49]) ?_
  unfold F49
  simp only [push_cast, ↓reduceIte, Nat.reduceEqDiff, reduceCtorEq, Nat.reduceAdd, Nat.reduceLT, Nat.reduceLeDiff]
  (refine aC.look (CI _) ?_; try simp only [push_cast, ↓reduceIte, Nat.reduceEqDiff, reduceCtorEq, Nat.reduceAdd, Nat.reduceLT, Nat.reduceLeDiff, aB, aA])
  have h0 : ¬ (0 : Int) < 0 := by decide
  refine aJ (fun (_ : Unit) f H' => H <+: H' ∧ f 3 = .nils ∧ f 8 = .int .i64 0 ∧ f 9 = .int .i64 0) (fun _ => 0) () ⟨List.prefix_refl _, rfl, rfl, rfl⟩ ?_
  rintro _ f H' ⟨hp, e3, e8, e9⟩
  simp only [push_cast, ↓reduceIte, Nat.reduceEqDiff, reduceCtorEq, Nat.reduceAdd, Nat.reduceLT, Nat.reduceLeDiff, e3, e8, e9, h0, decide_false]
  exact hp
def F44 : AFn := ⟨19, 1, [], (.seq (.ops [oo 4 (.mov (.t 0)), oo 5 (.call 85 [(.t 4)]), oo 6 (.len (.t 5)), oo 7 (.mov (.v (.int .i64 0)))]) (.block 0 (.loop (.seq (.ops [oo 8 (.bin .lss (.t 7) (.t 6))]) (.seq (.cond (.t 8) .skip (.exit 0)) (.seq (.block 1 (.seq (.ops [oo 9 (.iaddr 1 (.t 5) (.t 7)), oo 10 (.load false 1 (.t 9)), oo 3 (.mov (.t 10))]) (.ops [oo 11 (.mov (.t 3)), oo 12 (.nilc (.t 11)), oo 13 (.faddr 2 (.t 12)), oo 14 (.load false 1 (.t 13)), oo 15 (.bin .add (.t 14) (.v (.int .i64 1))), oo 16 (.nilc (.t 11)), oo 17 (.faddr 2 (.t 16)), on (.store 1 (.t 17) (.t 15))]))) (.ops [oo 18 (.bin .add (.t 7) (.v (.int .i64 1))), oo 7 (.mov (.t 18))])))))))⟩
theorem c44 : aD Try.prog 44 = some F44 := by kernel_rfl
theorem JD (H : AH) : aC Try.prog 44 [.nilp] H fun r H' => r = .tup [] ∧ H' = H := by
  refine aI c44 (fun _ => rfl) (by simp [F44]) ?_
  unfold F44
  simp only [push_cast, ↓reduceIte, Nat.reduceEqDiff, reduceCtorEq, Nat.reduceAdd, Nat.reduceLT, Nat.reduceLeDiff]
  (refine aC.look (CI _) ?_; try simp only [push_cast, ↓reduceIte, Nat.reduceEqDiff, reduceCtorEq, Nat.reduceAdd, Nat.reduceLT, Nat.reduceLeDiff, aB, aA])
  have h0 : ¬ (0 : Int) < 0 := by decide
  refine aJ (fun (_ : Unit) f H' => H <+: H' ∧ f 6 = .int .i64 0 ∧ f 7 = .int .i64 0) (fun _ => 0) () ⟨List.prefix_refl _, rfl, rfl⟩ ?_
  rintro _ f H' ⟨hp, e6, e7⟩
  simp only [push_cast, ↓reduceIte, Nat.reduceEqDiff, reduceCtorEq, Nat.reduceAdd, Nat.reduceLT, Nat.reduceLeDiff, e6, e7, h0, decide_false]
  exact hp
def F45 : AFn := ⟨34, 2, [], (.seq (.seq (.ops [oo 6 (.mov (.t 0)), oo 7 (.eqn 0 false (.t 6))]) (.cond (.t 7) .ret .skip)) (.seq (.ops [oo 8 (.mov (.t 0)), oo 9 (.nilc (.t 8)), oo 10 (.faddr 0 (.t 9)), oo 11 (.load false 1 (.t 10)), oo 12 (.len (.t 11)), oo 13 (.mov (.v (.int .i64 0)))]) (.block 0 (.loop (.seq (.ops [oo 14 (.bin .lss (.t 13) (.t 12))]) (.seq (.cond (.t 14) .skip (.exit 0)) (.seq (.block 1 (.seq (.ops [oo 15 (.iaddr 1 (.t 11) (.t 13)), oo 16 (.load false 1 (.t 15)), oo 5 (.mov (.t 16))]) (.ops [oo 34 (.mov (.t 5)), oo 35 (.mov (.t 5)), oo 36 (.nilc (.t 35)), oo 37 (.faddr 1 (.t 36)), oo 38 (.load false 1 (.t 37)), oo 39 (.mov (.t 5)), oo 40 (.nilc (.t 39)), oo 41 (.faddr 2 (.t 40)), oo 42 (.load false 1 (.t 41)), oo 43 (.mov (.t 1)), oo 44 (.call 12 [(.t 38), (.t 42), (.t 43)]), oo 45 (.mov (.t 44)), oo 46 (.ext (.t 45) 0), oo 47 (.ext (.t 45) 1), oo 48 (.nilc (.t 34)), oo 49 (.faddr 2 (.t 48)), oo 50 (.store 1 (.t 49) (.t 46)), oo 18 (.mov (.t 34)), oo 19 (.mov (.t 35)), oo 20 (.mov (.t 36)), oo 21 (.mov (.t 37)), oo 22 (.mov (.t 38)), oo 23 (.mov (.t 39)), oo 24 (.mov (.t 40)), oo 25 (.mov (.t 41)), oo 26 (.mov (.t 42)), oo 27 (.mov (.t 43)), oo 28 (.mov (.t 44)), oo 17 (.mov (.t 45)), oo 29 (.mov (.t 46)), oo 30 (.mov (.t 47)), oo 31 (.mov (.t 48)), oo 32 (.mov (.t 49))]))) (.ops [oo 33 (.bin .add (.t 13) (.v (.int .i64 1))), oo 13 (.mov (.t 33))]))))))))⟩
theorem c45 : aD Try.prog 45 = some F45 := by kernel_rfl
theorem FI (x : AV) (H : AH) : aC Try.prog 45 [.nilp, x] H fun r H' => r = .tup [] ∧ H' = H := by
  refine aI c45 (fun _ => rfl) (by simp [F45]) ?_
  unfold F45
  simp only [push_cast, ↓reduceIte, Nat.reduceEqDiff, reduceCtorEq, Nat.reduceAdd, Nat.reduceLT, Nat.reduceLeDiff]
  (repeat (first | exact List.prefix_refl _ | refine List.IsPrefix.trans ?_ (List.prefix_append _ _)))
def F46 : AFn := ⟨19, 1, [], (.seq (.seq (.ops [oo 4 (.mov (.t 0)), oo 5 (.eqn 0 false (.t 4))]) (.cond (.t 5) .ret .skip)) (.seq (.ops [oo 6 (.mov (.t 0)), oo 7 (.nilc (.t 6)), oo 8 (.faddr 0 (.t 7)), oo 9 (.load false 1 (.t 8)), oo 10 (.len (.t 9)), oo 11 (.mov (.v (.int .i64 0)))]) (.block 0 (.loop (.seq (.ops [oo 12 (.bin .lss (.t 11) (.t 10))]) (.seq (.cond (.t 12) .skip (.exit 0)) (.seq (.block 1 (.seq (.ops [oo 13 (.iaddr 1 (.t 9) (.t 11)), oo 14 (.load false 1 (.t 13)), oo 3 (.mov (.t 14))]) (.ops [oo 15 (.mov (.t 3)), oo 16 (.nilc (.t 15)), oo 17 (.faddr 2 (.t 16)), on (.store 1 (.t 17) (.v (.int .i64 0)))]))) (.ops [oo 18 (.bin .add (.t 11) (.v (.int .i64 1))), oo 11 (.mov (.t 18))]))))))))⟩
theorem c46 : aD Try.prog 46 = some F46 := by kernel_rfl
theorem BB (H : AH) : aC Try.prog 46 [.nilp] H fun r H' => r = .tup [] ∧ H' = H := by
  refine aI c46 (fun _ => rfl) (by simp [F46]) ?_
  unfold F46
  simp only [push_cast, ↓reduceIte, Nat.reduceEqDiff, reduceCtorEq, Nat.reduceAdd, Nat.reduceLT, Nat.reduceLeDiff]
  (repeat (first | exact List.prefix_refl _ | refine List.IsPrefix.trans ?_ (List.prefix_append _ _)))
end Go.Eng
end
