/- KMuch, KLive10, KOpen, KOpenU, KMade, LSeekNils. -/
import Derived.Test.YtpflmgbpjhbmnaaQSn2
import Derived.Test.YtpflmgbpjhbmnaaQSn3
import Derived.Deep.Slices
import Derived.ChangeArms
import Derived.Below
import Derived.KernelRfl
section
set_option linter.unusedVariables false
set_option linter.unusedSimpArgs false
set_option maxRecDepth 10000
namespace Go.Eng
open Go Go.Proofs
def gP (r : List Val) : Bool := decide (r.length > 30) || r.any fun v => decide (v.f2.size > 5000)
def nA (l : List Upd) : Bool := decide (l.length > 60) || l.any fun u => gP u.f0
def F9 : AFn := ⟨20, 1, [.t 2], (.seq (.ops [oo 2 (.mov (.v (.bool false)))]) (.seq (.seq (.ops [oo 4 (.mov (.t 0)), oo 5 (.len (.t 4)), oo 6 (.bin .gtr (.t 5) (.v (.int .i64 30)))]) (.cond (.t 6) (.seq (.ops [oo 2 (.mov (.v (.bool true)))]) .ret) .skip)) (.seq (.seq (.ops [oo 3 (.mov (.v (.int .i64 0)))]) (.block 0 (.loop (.seq (.seq (.ops [oo 7 (.mov (.t 3)), oo 8 (.mov (.t 0)), oo 9 (.len (.t 8)), oo 10 (.bin .lss (.t 7) (.t 9))]) (.cond (.t 10) .skip (.exit 0))) (.seq (.block 1 (.seq (.ops [oo 13 (.mov (.t 0)), oo 14 (.mov (.t 3)), oo 15 (.iaddr 3 (.t 13) (.t 14)), oo 16 (.faddr 2 (.t 15)), oo 17 (.load false 1 (.t 16)), oo 18 (.slen (.t 17)), oo 19 (.bin .gtr (.t 18) (.v (.int .i64 5000)))]) (.cond (.t 19) (.seq (.ops [oo 2 (.mov (.v (.bool true)))]) .ret) .skip))) (.ops [oo 11 (.mov (.t 3)), oo 12 (.bin .add (.t 11) (.v (.int .i64 1))), oo 3 (.mov (.t 12))])))))) (.seq (.ops [oo 2 (.mov (.v (.bool false)))]) .ret))))⟩
theorem c9 : aD Try.prog 9 = some F9 := by kernel_rfl
theorem JE (x : AV) (r : List Val) (H : AH) (hx : elems 3 x H = some (r.map gA)) : aC Try.prog 9 [x] H fun y H' => y = .bool (gP r) ∧ H' = H := by
  refine aI c9 (fun _ => rfl) (by simp [F9]) ?_
  unfold F9
  have la := aS hx
  rw [List.length_map] at la
  by_cases h0 : r.length > 30
  · have h0' : (r.length : Int) > 30 := by omega
    simp only [push_cast, ↓reduceIte, Nat.reduceEqDiff, reduceCtorEq, Nat.reduceAdd, Nat.reduceLT, Nat.reduceLeDiff, aB, aA, la, h0']
    exact ⟨List.prefix_refl _, by simp [gP, h0]⟩
  · have h0' : ¬ (r.length : Int) > 30 := by omega
    simp only [push_cast, ↓reduceIte, Nat.reduceEqDiff, reduceCtorEq, Nat.reduceAdd, Nat.reduceLT, Nat.reduceLeDiff, aB, aA, la, h0']
    refine aJ (fun (i : Nat) f H' => H <+: H' ∧ i ≤ r.length ∧ f 0 = x ∧ f 3 = .int .i64 i ∧ (r.take i).any (fun v => decide (v.f2.size > 5000)) = false) (fun i => r.length - i) 0 ⟨List.prefix_refl _, Nat.zero_le _, rfl, rfl, rfl⟩ ?_
    rintro i f H' ⟨hp, h1, e0, e3, hs⟩
    by_cases hi : i < r.length
    · have hi' : (i : Int) < r.length := by omega
      have ax : aF 3 x (.int .i64 (i : Int)) = some (ptk x i 0) := aN hx (by rw [List.length_map]; exact hi) _
      have lx : (r.map gA)[i]? = some (gA r[i]) := by simp [hi]
      have hsn : (r.take (i + 1)).any (fun v => decide (v.f2.size > 5000)) = ((r.take i).any (fun v => decide (v.f2.size > 5000)) || decide (r[i].f2.size > 5000)) := by rw [List.take_succ_eq_append_getElem hi, List.any_append]; simp
      have hm := List.getElem_mem hi
      generalize r[i] = v at lx hsn hm
      have pv : part false 1 2 (gA v) = some (.str v.f2) := rfl
      by_cases hc : v.f2.size > 5000
      · have hc' : (v.f2.size : Int) > 5000 := by omega
        simp only [push_cast, ↓reduceIte, Nat.reduceEqDiff, reduceCtorEq, Nat.reduceAdd, Nat.reduceLT, Nat.reduceLeDiff, aB, aA, e0, e3, la, hi', ax, fX, aU hx lx, hp, pv, hc']
        have : gP r = true := by
          unfold gP
          rw [Bool.or_eq_true]
          exact .inr (List.any_eq_true.2 ⟨v, hm, by simpa using hc⟩)
        rw [this]
      · have hc' : ¬ (v.f2.size : Int) > 5000 := by omega
        simp only [push_cast, ↓reduceIte, Nat.reduceEqDiff, reduceCtorEq, Nat.reduceAdd, Nat.reduceLT, Nat.reduceLeDiff, aB, aA, e0, e3, la, hi', ax, fX, aU hx lx, hp, pv, hc']
        refine ⟨i + 1, ⟨hi, ?_, ?_⟩, by omega⟩
        · rw [aG (by omega) (by omega)]; simp
        · rw [hsn, hs]; simpa using hc
    · have hi' : ¬ (i : Int) < r.length := by omega
      simp only [push_cast, ↓reduceIte, Nat.reduceEqDiff, reduceCtorEq, Nat.reduceAdd, Nat.reduceLT, Nat.reduceLeDiff, aB, aA, e0, e3, la, hi']
      rw [List.take_of_length_le (by omega)] at hs
      exact ⟨hp, by simp only [gP, hs]; simp; omega⟩
def F15 : AFn := ⟨19, 1, [.t 2], (.seq (.ops [oo 2 (.mov (.v (.bool false)))]) (.seq (.seq (.ops [oo 4 (.mov (.t 0)), oo 5 (.len (.t 4)), oo 6 (.bin .gtr (.t 5) (.v (.int .i64 60)))]) (.cond (.t 6) (.seq (.ops [oo 2 (.mov (.v (.bool true)))]) .ret) .skip)) (.seq (.seq (.ops [oo 3 (.mov (.v (.int .i64 0)))]) (.block 0 (.loop (.seq (.seq (.ops [oo 7 (.mov (.t 3)), oo 8 (.mov (.t 0)), oo 9 (.len (.t 8)), oo 10 (.bin .lss (.t 7) (.t 9))]) (.cond (.t 10) .skip (.exit 0))) (.seq (.block 1 (.seq (.ops [oo 13 (.mov (.t 0)), oo 14 (.mov (.t 3)), oo 15 (.iaddr 4 (.t 13) (.t 14)), oo 16 (.faddr 0 (.t 15)), oo 17 (.load false 1 (.t 16)), oo 18 (.call 9 [(.t 17)])]) (.cond (.t 18) (.seq (.ops [oo 2 (.mov (.v (.bool true)))]) .ret) .skip))) (.ops [oo 11 (.mov (.t 3)), oo 12 (.bin .add (.t 11) (.v (.int .i64 1))), oo 3 (.mov (.t 12))])))))) (.seq (.ops [oo 2 (.mov (.v (.bool false)))]) .ret))))⟩
theorem c15 : aD Try.prog 15 = some F15 := by kernel_rfl
theorem CJ (x : AV) (l : List Upd) (H : AH) (hx : elems 4 x H = some (l.map upA)) : aC Try.prog 15 [x] H fun y H' => y = .bool (nA l) ∧ H' = H := by
  refine aI c15 (fun _ => rfl) (by simp [F15]) ?_
  unfold F15
  have la := aS hx
  rw [List.length_map] at la
  by_cases h0 : l.length > 60
  · have h0' : (l.length : Int) > 60 := by omega
    simp only [push_cast, ↓reduceIte, Nat.reduceEqDiff, reduceCtorEq, Nat.reduceAdd, Nat.reduceLT, Nat.reduceLeDiff, aB, aA, la, h0']
    exact ⟨List.prefix_refl _, by simp [nA, h0]⟩
  · have h0' : ¬ (l.length : Int) > 60 := by omega
    simp only [push_cast, ↓reduceIte, Nat.reduceEqDiff, reduceCtorEq, Nat.reduceAdd, Nat.reduceLT, Nat.reduceLeDiff, aB, aA, la, h0']
    refine aJ (fun (i : Nat) f H' => H <+: H' ∧ i ≤ l.length ∧ f 0 = x ∧ f 3 = .int .i64 i ∧ (l.take i).any (fun u => gP u.f0) = false) (fun i => l.length - i) 0 ⟨List.prefix_refl _, Nat.zero_le _, rfl, rfl, rfl⟩ ?_
    rintro i f H' ⟨hp, h1, e0, e3, hs⟩
    by_cases hi : i < l.length
    · have hi' : (i : Int) < l.length := by omega
      have ax : aF 4 x (.int .i64 (i : Int)) = some (ptk x i 0) := aN hx (by rw [List.length_map]; exact hi) _
      have lx : (l.map upA)[i]? = some (upA l[i]) := by simp [hi]
      have hsn : (l.take (i + 1)).any (fun u => gP u.f0) = ((l.take i).any (fun u => gP u.f0) || gP l[i].f0) := by rw [List.take_succ_eq_append_getElem hi, List.any_append]; simp
      have hm := List.getElem_mem hi
      generalize l[i] = u at lx hsn hm
      have pv : part false 1 0 (upA u) = some (rowA u.f0) := rfl
      simp only [push_cast, ↓reduceIte, Nat.reduceEqDiff, reduceCtorEq, Nat.reduceAdd, Nat.reduceLT, Nat.reduceLeDiff, aB, aA, e0, e3, la, hi', ax, fX, aU hx lx, hp, pv]
      (refine aC.look (JE _ u.f0 _ rfl) ?_; simp only [push_cast, ↓reduceIte, Nat.reduceEqDiff, reduceCtorEq, Nat.reduceAdd, Nat.reduceLT, Nat.reduceLeDiff, aB, aA, e0, e3])
      cases hc : gP u.f0 with
      | true =>
        simp only [push_cast, ↓reduceIte, Nat.reduceEqDiff, reduceCtorEq, Nat.reduceAdd, Nat.reduceLT, Nat.reduceLeDiff, aB, aA, e0, e3]
        have : nA l = true := by
          unfold nA
          rw [Bool.or_eq_true]
          exact .inr (List.any_eq_true.2 ⟨u, hm, hc⟩)
        exact ⟨hp, by rw [this]⟩
      | false =>
        simp only [push_cast, ↓reduceIte, Nat.reduceEqDiff, reduceCtorEq, Nat.reduceAdd, Nat.reduceLT, Nat.reduceLeDiff, aB, aA, e0, e3]
        refine ⟨i + 1, ⟨hp, hi, ?_, ?_⟩, by omega⟩
        · rw [aG (by omega) (by omega)]; simp
        · rw [hsn, hs, hc]; rfl
    · have hi' : ¬ (i : Int) < l.length := by omega
      simp only [push_cast, ↓reduceIte, Nat.reduceEqDiff, reduceCtorEq, Nat.reduceAdd, Nat.reduceLT, Nat.reduceLeDiff, aB, aA, e0, e3, la, hi']
      rw [List.take_of_length_le (by omega)] at hs
      exact ⟨hp, by simp only [nA, hs]; simp; omega⟩
theorem BC {l : List Upd} (h : nA l = false) : l.length ≤ 60 ∧ ∀ u ∈ l, u.f0.length ≤ 30 := by
  unfold nA at h
  rw [Bool.or_eq_false_iff] at h
  refine ⟨by simpa using h.1, fun u hu => ?_⟩
  have := List.any_eq_false.1 h.2 u hu
  unfold gP at this
  simp only [Bool.not_eq_true, Bool.or_eq_false_iff] at this
  simpa using this.1
end Go.Eng
end
section
set_option linter.unusedVariables false
set_option linter.unusedSimpArgs false
set_option maxRecDepth 10000
namespace Go.Eng
open Go Go.Proofs
def F10 : AFn := ⟨24, 0, [.t 0], (.seq (.ops [oo 0 (.mov (.v (.bool false)))]) (.seq (.ops [oo 4 (.build [(.int .i64 0), (.int .i64 0), (.str ⟨#[]⟩)] [(1, 1, (.v (.int .i64 1)))]), oo 5 (.bslz 3 1 (.agg [(.int .i64 0), (.int .i64 0), (.str ⟨#[]⟩)]) [(0, (.t 4))]), oo 6 (.build [(.int .i64 0), (.int .i64 0), (.str ⟨#[]⟩)] [(1, 1, (.v (.int .i64 3)))]), oo 7 (.bslz 3 1 (.agg [(.int .i64 0), (.int .i64 0), (.str ⟨#[]⟩)]) [(0, (.t 6))]), oo 8 (.build [(.int .i64 0), (.int .i64 0), (.str ⟨#[]⟩)] [(1, 1, (.v (.int .i64 5)))]), oo 9 (.bslz 3 1 (.agg [(.int .i64 0), (.int .i64 0), (.str ⟨#[]⟩)]) [(0, (.t 8))]), oo 10 (.build [(.int .i64 0), (.int .i64 0), (.str ⟨#[]⟩)] [(1, 1, (.v (.int .i64 7)))]), oo 11 (.bslz 3 1 (.agg [(.int .i64 0), (.int .i64 0), (.str ⟨#[]⟩)]) [(0, (.t 10))]), oo 12 (.bslz 1 4 .nils [(0, (.t 5)), (1, (.t 7)), (2, (.t 9)), (3, (.t 11))]), oo 13 (.build [(.int .i64 0), (.int .i64 0), (.str ⟨#[]⟩)] [(1, 1, (.v (.int .i64 4)))]), oo 14 (.bslz 3 1 (.agg [(.int .i64 0), (.int .i64 0), (.str ⟨#[]⟩)]) [(0, (.t 13))]), oo 15 (.call 12 [(.t 12), (.v (.int .i64 0)), (.t 14)]), oo 3 (.mov (.t 15)), oo 16 (.ext (.t 3) 0), oo 17 (.ext (.t 3) 1), oo 1 (.mov (.t 16)), oo 2 (.mov (.t 17))]) (.seq (.ops [oo 18 (.mov (.t 1)), oo 19 (.bin .eql (.t 18) (.v (.int .i64 2))), oo 20 (.mov (.t 19)), og 21 20 true (.mov (.t 2)), og 22 20 true (.bin .gtr (.t 21) (.v (.int .i64 0))), oo 23 (.pick (.t 20) (.t 22) (.v (.bool false))), oo 0 (.mov (.t 23))]) .ret)))⟩
theorem c10 : fW Try.prog (fun d => d == 5 || d == 7 || d == 9 || d == 11 || d == 12 || d == 14) 10 = some F10 := by kernel_rfl
theorem jZ (H : AH) : aC Try.prog 10 [] H fun r H' => r = .bool true ∧ H' = H := by
  refine aI c10 (fun _ => rfl) (by simp [F10]) ?_
  unfold F10
  simp only [push_cast, ↓reduceIte, Nat.reduceEqDiff, reduceCtorEq, Nat.reduceAdd, Nat.reduceLT, Nat.reduceLeDiff]
  have hf : AZ [[⟨0, 1, ⟨#[]⟩⟩], [⟨0, 3, ⟨#[]⟩⟩], [⟨0, 5, ⟨#[]⟩⟩], [⟨0, 7, ⟨#[]⟩⟩]] 0 [⟨0, 4, ⟨#[]⟩⟩] = (2, 3) := by decide
  have c := fun H => JA [[⟨0, 1, ⟨#[]⟩⟩], [⟨0, 3, ⟨#[]⟩⟩], [⟨0, 5, ⟨#[]⟩⟩], [⟨0, 7, ⟨#[]⟩⟩]] 0 [⟨0, 4, ⟨#[]⟩⟩] H (by decide) (by decide) (by decide)
  rw [hf] at c
  have c2 : ∀ H, aC Try.prog 12 [bG [[⟨0, 1, ⟨#[]⟩⟩], [⟨0, 3, ⟨#[]⟩⟩], [⟨0, 5, ⟨#[]⟩⟩], [⟨0, 7, ⟨#[]⟩⟩]], .int .i64 0, rowA [⟨0, 4, ⟨#[]⟩⟩]] H fun x H' => x = .tup [.int .i64 2, .int .i64 3] ∧ H' = H := c
  have t1 : (2 : Int) = 2 := rfl
  have t2 : (3 : Int) > 0 := by decide
  (refine aC.look (c2 _) ?_; simp only [push_cast, ↓reduceIte, Nat.reduceEqDiff, reduceCtorEq, Nat.reduceAdd, Nat.reduceLT, Nat.reduceLeDiff, aB, aA, t1, t2])
  (repeat (first | exact List.prefix_refl _ | refine List.IsPrefix.trans ?_ (List.prefix_append _ _)))
end Go.Eng
end
section
set_option linter.unusedVariables false
set_option linter.unusedSimpArgs false
namespace Go.Eng
open Go Go.Proofs Go.RowKit
def K0 (W : World) : KW := ⟨fun _ => none, fun b => W.heap[b]?, fun _ => none, ioW W⟩
theorem JF (W : World) : Rel (K0 W) W [] :=
  ⟨fun t p h => (by cases h), fun t p sz es h => (by cases h), fun t t' p p' sz es sz' es' n h => (by cases h), fun b o h => h, ⟨fun t p f lp st pd h => (by cases h), fun t t' p p' f lp st pd f' lp' st' pd' n h => (by cases h)⟩, rfl⟩
theorem BD {W w' : World} {K' : KW} {H' : AH} (e : Ext (K0 W) [] K' H') (r : Rel K' w' H') : Below W.heap.size W w' := by
  have hio : ioW w' = ioW W := r.io.trans e.le.io
  have hb : ∀ k, k < W.heap.size → w'.heap[k]? = W.heap[k]? := fun k hk => by
    have h : (K0 W).fz k = some W.heap[k] := Array.getElem?_eq_getElem hk
    rw [r.fz k _ (e.le.fz k _ h)]
    exact h.symm
  unfold ioW at hio
  injection hio with h1 h2 h3
  refine ⟨h1, h2, h3, ?_, hb⟩
  by_cases h : W.heap.size ≤ w'.heap.size
  · exact h
  · have := hb w'.heap.size (by omega)
    rw [Array.getElem?_eq_none (Nat.le_refl _), Array.getElem?_eq_getElem (by omega)] at this
    cases this
theorem calls_law {P : Program} {g : FuncId} {args : List AV} (h : aC P g args [] fun r H' => r = .bool true ∧ H' = []) {W : World} {cargs : Array Value} (ha : RelL (K0 W) args cargs.toList) : Calls P g cargs W fun e w' => e = .returned (.bool true) ∧ Below W.heap.size W w' :=
  (h.2 (K0 W) W cargs (JF W) ha).mono fun e w' ⟨v, K', H', r, h1, h2, h3, h4, h5, h6⟩ => by
    subst h5
    cases h4
    exact ⟨h1, BD h2 h3⟩
section
variable {T : Type} {enc : TypeId × Value → T} {P : Program} {w : World} {base : Nat} {spare : Nat → Bool} {held : Bool}
def eU (enc : TypeId × Value → T) (P : Program) (w : World) (base : Nat) (spare : Nat → Bool) (held : Bool) (t : TypeId) {α : Type} (ec : α → AV) (G : α → Prop) : Prop :=
  ∀ fuel cs x, DataW.trod enc P w base spare held fuel t cs = some x → ∃ y, RelL (K0 w) (cells (ec y)) cs ∧ G y
theorem JG {t : TypeId} {k : IntKind} (ht : P.underlying t = some (.int k)) : eU enc P w base spare held t (fun n => .int k n) (fun n => (Lit.int k n).wf = true) := by
  intro fuel cs x h
  obtain ⟨n, rfl, hx, hw⟩ := DataW.trod_int ht h
  exact ⟨n, RelL.cons (.int k n) (RelL.nil _), hw⟩
theorem NK {t : TypeId} (ht : P.underlying t = some .string) : eU enc P w base spare held t (fun s => .str s) (fun s => s.size ≤ 9223372036854775807) := by
  intro fuel cs x h
  obtain ⟨s, rfl, hx, hw⟩ := DataW.trod_string ht h
  exact ⟨s, RelL.cons (.str s) (RelL.nil _), hw⟩
theorem FJ {α : Type} {n : Nat} {p : Nat → α → Prop} (h : ∀ i, i < n → ∃ x, p i x) : ∃ l : List α, l.length = n ∧ ∀ (i : Nat) x, l[i]? = some x → p i x := by
  induction n with
  | zero => exact ⟨[], rfl, fun i x hx => by simp at hx⟩
  | succ n ih =>
    obtain ⟨l, hl, hp⟩ := ih (fun i hi => h i (by omega))
    obtain ⟨x, hx⟩ := h n (by omega)
    refine ⟨l ++ [x], by simp [hl], fun i y hy => ?_⟩
    rcases Nat.lt_or_ge i l.length with hi | hi
    · rw [List.getElem?_append_left hi] at hy; exact hp i y hy
    · have := (List.getElem?_eq_some_iff.1 hy).1
      rw [List.length_append, List.length_singleton] at this
      have : i = n := by omega
      subst this
      have : x = y := by simpa [hl] using hy
      exact this ▸ hx
theorem nB {w : World} {a : Addr} {v : Value} (h : w.cell? a = some v) : a.spot = none ∧ ∃ cs T fr, w.heap[a.block]? = some (.cells cs T fr) ∧ cs[a.off]? = some v := by
  unfold World.cell? at h
  split at h
  · rename_i c T fr hb
    split at h
    · cases h
    · rename_i hs
      refine ⟨by cases hsp : a.spot with | none => rfl | some _ => (rw [hsp] at hs; simp at hs), c, T, fr, hb, h⟩
  · cases h
theorem CK {t e : TypeId} {α : Type} {ec : α → AV} {G : α → Prop} {sz : Nat} (ht : P.underlying t = some (.slice e)) (hc : P.cellsOf e = sz) (h0 : 0 < sz) (hf : ∀ y, fits sz (ec y)) (ho : eU enc P w base spare held e ec G) :
    eU enc P w base spare held t (fun (l : List α) => .list sz (l.map ec) false) (fun (l : List α) => l.length ≤ 9223372036854775807 ∧ ∀ y ∈ l, G y) := by
  intro fuel cs x h
  rcases Go.Deep.open_slice ht h with ⟨rfl, _⟩ | ⟨a, len, cap, m, n, D, Pl, rfl, hb, hl, hm, hmm, rfl, hx⟩
  · exact ⟨[], RelL.cons (.list0 (fun e => by cases e)) (RelL.nil _), by simp, fun y hy => by simp at hy⟩
  · have hlm : len ≤ m := by rw [hmm]; split <;> omega
    have key : ∀ i, i < len → ∃ y, (∃ c, c.length = sz ∧ RelL (K0 w) (cells (ec y)) c ∧ ∀ j, j < sz → w.cell? ((a.add (i * sz)).add j) = c[j]?) ∧ G y := by
      intro i hi
      obtain ⟨cs', h1, h2⟩ := hx i (by omega)
      obtain ⟨y, hy, hg⟩ := ho _ _ _ h2
      rw [hc] at h1
      have h3 := World.cells?_some h1
      exact ⟨y, ⟨cs', h3.2.1, hy, h3.2.2⟩, hg⟩
    obtain ⟨l, hll, hp⟩ := FJ key
    have hml : len ≤ 9223372036854775807 := by unfold maxLen at hm; omega
    refine ⟨l, RelL.cons ?_ (RelL.nil _), by omega, fun y hy => ?_⟩
    · by_cases hz : len = 0
      · rw [hz] at hll
        obtain rfl := List.eq_nil_of_length_eq_zero hll
        rw [hz]
        exact .list0 (fun e => by cases e)
      · obtain ⟨v0, hv0⟩ : ∃ v, w.cell? a = some v := by
          obtain ⟨y, ⟨c, c1, c2, c3⟩, _⟩ := key 0 (by omega)
          have := c3 0 h0
          rw [List.getElem?_eq_getElem (by omega), Nat.zero_mul] at this
          exact ⟨_, this⟩
        obtain ⟨hsp, cs0, T, fr, hb0, _⟩ := nB hv0
        obtain ⟨blk, off, spt⟩ := a
        have hsp' : spt = none := hsp
        subst hsp'
        have hb0' : w.heap[blk]? = some (.cells cs0 T fr) := hb0
        have hadd : ∀ i j, ((⟨blk, off, none⟩ : Addr).add i).add j = ⟨blk, off + (i + j), none⟩ := fun i j => by
          rw [Go.Deep.add_add]
          unfold Addr.add
          split
          · rename_i e; rw [e]; rfl
          · rfl
        have cell : ∀ i, i < len → ∀ j, j < sz → ∃ v, w.cell? ⟨blk, off + (i * sz + j), none⟩ = some v := fun i hi j hj => by
          obtain ⟨y, ⟨c, c1, c2, c3⟩, _⟩ := key i hi
          have := c3 j hj
          rw [List.getElem?_eq_getElem (by omega), hadd] at this
          exact ⟨_, this⟩
        have hget : ∀ k v, w.cell? ⟨blk, k, none⟩ = some v → k < cs0.size ∧ cs0.getD k Go.undef = v := fun k v hk => by
          obtain ⟨_, cs1, T1, fr1, q1, q2⟩ := nB hk
          have q1' : w.heap[blk]? = some (.cells cs1 T1 fr1) := q1
          rw [hb0'] at q1'
          cases q1'
          have q2' : cs0[k]? = some v := q2
          exact ⟨(Array.getElem?_eq_some_iff.1 q2').1, by simp [Array.getD_eq_getD_getElem?, q2']⟩
        refine .list (K := K0 w) (cs := cs0) (T := T) (fr := fr) hb0' (by rw [List.length_map]; exact hll) hl (fun e => by cases e) ?_ (fun x hx => ?_) (fun i k x y hxi hyk => ?_)
        · obtain ⟨v, hv⟩ := cell (len - 1) (by omega) (sz - 1) (by omega)
          have := (hget _ _ hv).1
          have e1 : (len - 1) * sz + sz = len * sz := by
            have : len = len - 1 + 1 := by omega
            rw (config := { occs := .pos [2] }) [this]
            rw [Nat.add_mul, Nat.one_mul]
          omega
        · obtain ⟨y, _, rfl⟩ := List.mem_map.1 hx
          exact hf y
        · rw [List.getElem?_map] at hxi
          cases hli : l[i]? with
          | none => rw [hli] at hxi; cases hxi
          | some z =>
            rw [hli] at hxi
            cases hxi
            have hil : i < len := by rw [← hll]; exact (List.getElem?_eq_some_iff.1 hli).1
            obtain ⟨⟨c, c1, c2, c3⟩, _⟩ := hp i z hli
            have hk : k < sz := by rw [← (hf z).1]; exact (List.getElem?_eq_some_iff.1 hyk).1
            have hck : c[k]? = some c[k] := List.getElem?_eq_getElem (by omega)
            have h4 := c3 k hk
            rw [hck] at h4
            have h5 : w.cell? ⟨blk, off + (i * sz + k), none⟩ = some c[k] := by rw [← hadd]; exact h4
            rw [(hget _ _ h5).2]
            exact c2.2 k y _ hyk hck
    · obtain ⟨i, hi⟩ := List.getElem?_of_mem hy
      exact (hp i y hi).2
theorem gL {t : TypeId} {fs : Array Field} {fuel : Nat} {cs : List Value} {x : DataW T × List MemPlace} (ht : P.underlying t = some (.struct fs)) (h : DataW.trod enc P w base spare held fuel t cs = some x)
    (i : Nat) (f : Field) (hf : fs[i]? = some f) {α : Type} {ec : α → AV} {G : α → Prop} {sz : Nat} (hc : P.cellsOf f.type = sz) (ho : eU enc P w base spare held f.type ec G) :
    cs.length = P.cellsOf t ∧ ∃ y, RelL (K0 w) (cells (ec y)) ((cs.drop f.offset).take sz) ∧ G y := by
  obtain ⟨xs, n, _, _, hl, hlen, hx⟩ := DataW.trod_struct ht h
  have h1 := hx i f hf
  have hi : i < xs.length := by rw [hlen]; exact (Array.getElem?_eq_some_iff.1 hf).1
  rw [List.getElem?_eq_getElem hi, hc] at h1
  obtain ⟨y, h2, h3⟩ := ho _ _ _ h1
  exact ⟨hl, y, h2, h3⟩
theorem FK {K : KW} {xs ys : List AV} {cs : List Value} {n : Nat} (h1 : RelL K xs (cs.take n)) (h2 : RelL K ys (cs.drop n)) : RelL K (xs ++ ys) cs := by
  have := h1.append h2
  rwa [List.take_append_drop] at this
end
end Go.Eng
end
section
set_option linter.unusedVariables false
namespace Go.Eng
open Go Go.Proofs
def GV (v : Val) : Prop := (Lit.int .i64 v.f0).wf = true ∧ (Lit.int .i64 v.f1).wf = true ∧ v.f2.size ≤ 9223372036854775807
def GL {α : Type} (G : α → Prop) (l : List α) : Prop := l.length ≤ 9223372036854775807 ∧ ∀ v ∈ l, G v
def GT (t : Tm) : Prop := (Lit.int .i64 t.f0).wf = true ∧ (Lit.int .i64 t.f1).wf = true
def GU (u : Upd) : Prop := GL GV u.f0 ∧ GT u.f1 ∧ (Lit.int .i64 u.f2).wf = true
theorem xP {K : KW} {xs ys zs : List AV} {cs : List Value} {a b c : Nat} (hl : cs.length = a + (b + c)) (h1 : RelL K xs ((cs.drop 0).take a)) (h2 : RelL K ys ((cs.drop a).take b)) (h3 : RelL K zs ((cs.drop (a + b)).take c)) : RelL K (xs ++ (ys ++ zs)) cs := by
  rw [List.drop_zero] at h1
  refine FK h1 (FK h2 ?_)
  rw [List.drop_drop]
  rwa [List.take_of_length_le (by rw [List.length_drop]; omega)] at h3
theorem JH {K : KW} {xs ys : List AV} {cs : List Value} {a b : Nat} (hl : cs.length = a + b) (h1 : RelL K xs ((cs.drop 0).take a)) (h2 : RelL K ys ((cs.drop a).take b)) : RelL K (xs ++ ys) cs := by
  rw [List.drop_zero] at h1
  refine FK h1 ?_
  rwa [List.take_of_length_le (by rw [List.length_drop]; omega)] at h2
theorem NL (v : Val) : fits 3 (gA v) := ⟨rfl, fun y hy => by
  have : y ∈ [AV.int .i64 v.f0, .int .i64 v.f1, .str v.f2] := hy
  simp at this
  rcases this with rfl | rfl | rfl <;> rfl⟩
theorem NM (u : Upd) : fits 4 (upA u) := ⟨rfl, fun y hy => by
  have : y ∈ [rowA u.f0, AV.int .i64 u.f1.f0, .int .i64 u.f1.f1, .int .i64 u.f2] := hy
  simp at this
  rcases this with rfl | rfl | rfl | rfl <;> rfl⟩
section
variable {T : Type} {enc : TypeId × Value → T} {w : World} {base : Nat} {spare : Nat → Bool} {held : Bool}
theorem NN : eU enc Try.prog w base spare held 56 gA GV := by
  intro fuel cs x h
  obtain ⟨hl, y0, k0, g0⟩ := gL Try.underlying56 h 0 _ rfl (sz := 1) (by kernel_rfl) (JG Try.underlying3)
  obtain ⟨_, y1, k1, g1⟩ := gL Try.underlying56 h 1 _ rfl (sz := 1) (by kernel_rfl) (JG Try.underlying3)
  obtain ⟨_, y2, k2, g2⟩ := gL Try.underlying56 h 2 _ rfl (sz := 1) (by kernel_rfl) (NK Try.underlying9)
  have hl : cs.length = 3 := hl.trans (by kernel_rfl)
  exact ⟨⟨y0, y1, y2⟩, xP (a := 1) (b := 1) (c := 1) hl k0 k1 k2, g0, g1, g2⟩
theorem rowE : eU enc Try.prog w base spare held 24 rowA (GL GV) := CK Try.underlying24 (by kernel_rfl) (by decide) NL NN
theorem ME : eU enc Try.prog w base spare held 48 bC GT := by
  intro fuel cs x h
  obtain ⟨hl, y0, k0, g0⟩ := gL Try.underlying48 h 0 _ rfl (sz := 1) (by kernel_rfl) (JG Try.underlying3)
  obtain ⟨_, y1, k1, g1⟩ := gL Try.underlying48 h 1 _ rfl (sz := 1) (by kernel_rfl) (JG Try.underlying3)
  have hl : cs.length = 2 := hl.trans (by kernel_rfl)
  exact ⟨⟨y0, y1⟩, JH (a := 1) (b := 1) hl k0 k1, g0, g1⟩
theorem upE : eU enc Try.prog w base spare held 50 upA GU := by
  intro fuel cs x h
  obtain ⟨hl, y0, k0, g0⟩ := gL Try.underlying50 h 0 _ rfl (sz := 1) (by kernel_rfl) rowE
  obtain ⟨_, y1, k1, g1⟩ := gL Try.underlying50 h 1 _ rfl (sz := 2) (by kernel_rfl) ME
  obtain ⟨_, y2, k2, g2⟩ := gL Try.underlying50 h 2 _ rfl (sz := 1) (by kernel_rfl) (JG Try.underlying3)
  have hl : cs.length = 4 := hl.trans (by kernel_rfl)
  exact ⟨⟨y0, y1, y2⟩, xP (a := 1) (b := 2) (c := 1) hl k0 k1 k2, g0, g1, g2⟩
theorem upsE : eU enc Try.prog w base spare held 33 upsA (GL GU) := CK Try.underlying33 (by kernel_rfl) (by decide) NM upE
end
end Go.Eng
end
section
set_option linter.unusedVariables false
set_option linter.unusedSimpArgs false
namespace Go.Eng
open Go
def NO (key : Int) (l : List Upd) (since : List Tm) : Gr := NF key.toNat (dA (gE since l)).1
theorem xQ (key : Int) (l : List Upd) (since : List Tm) : Gs (jC key l since) (NO key l since) := mT _ (Bt.none_ key l.length since) [] (wU _ _ _)
theorem BE {since : List Tm} {l : List Upd} {u : Upd} (h : u ∈ (dA (gE since l)).1) : ∃ v ∈ l, u.f0 = v.f0 := by
  obtain ⟨v, hv, e, _⟩ := (iY (gE since l)).2 u h
  obtain ⟨w, hw, e2⟩ := qX hv
  exact ⟨w, hw, e.trans e2⟩
theorem FL {N : Nat} (key : Int) (l : List Upd) (since : List Tm) (h : ∀ u ∈ l, u.f0.length < N) : Vd N (jC key l since) :=
  iZ _ _ ⟨fun x h => absurd h List.not_mem_nil, fun x h => absurd h List.not_mem_nil⟩ fun u hu => by
    obtain ⟨v, hv, e⟩ := BE hu
    rw [e]; exact h v hv
theorem gW (key : Int) (l : List Upd) (since : List Tm) : (jC key l since).key = key ∧ (jC key l since).weight = l.length ∧ (jC key l since).since = since ∧ (jC key l since).times = (dA (gE since l)).1.map (·.f1) := by
  obtain ⟨h1, h2, h3, h4, _⟩ := jY (dA (gE since l)).1 (Bt.none_ key l.length since)
  exact ⟨h1, h2, h3, h4⟩
theorem kA (key : Int) (l : List Upd) (since : List Tm) : (jC key l since).times.length ≤ l.length := by
  rw [(gW key l since).2.2.2, List.length_map]
  have := (iY (gE since l)).1
  rw [qW] at this
  exact this
theorem FM {b : Bt} {g : Gr} (G : Gs b g) (hv : Vd 1099511627776 b) (ht : b.times.length < 1099511627776) (hs : b.since.length < 1099511627776) : AL b := by
  obtain ⟨l1, l2, _⟩ := pP G
  exact ⟨hs, by omega, hv.wk, by omega, hv.wr⟩
theorem JI {b : Bt} {g : Gr} (G : Gs b g) : b.keys = [] ↔ b.times = [] := by
  obtain ⟨l1, l2, _⟩ := pP G
  constructor
  · intro h
    have hg : g = [] := by have := G.keys; rw [h] at this; simpa using this.symm
    rw [G.times, hg]; rfl
  · intro h
    rw [h] at l2
    simp at l2
    rw [l2] at l1
    simpa using l1
theorem xR (key : Int) (l : List Upd) (since : List Tm) (hl : l.length < 1099511627776) (hr : ∀ u ∈ l, u.f0.length < 1099511627776) (hs : since.length < 1099511627776) : AL (jC key l since) :=
  FM (xQ key l since) (FL key l since hr) (by have := kA key l since; omega) (by rw [(gW key l since).2.2.1]; exact hs)
end Go.Eng
end
section
set_option linter.unusedVariables false
set_option linter.unusedSimpArgs false
set_option maxRecDepth 10000
namespace Go.Eng
open Go Go.Proofs
def F50 : AFn := ⟨4, 1, [.t 2], (.seq (.ops [oo 2 (.mov (.v (.int .i64 0)))]) (.seq (.ops [oo 3 (.mov (.t 0)), oo 2 (.mov (.t 3))]) .ret))⟩
theorem c50 : aD Try.prog 50 = some F50 := by kernel_rfl
theorem dW (n : Int) (H : AH) : aC Try.prog 50 [.int .i64 n] H fun r H' => r = .int .i64 n ∧ H' = H := by
  refine aI c50 (fun _ => rfl) (by simp [F50]) ?_
  unfold F50
  simp only [push_cast, ↓reduceIte, Nat.reduceEqDiff, reduceCtorEq, Nat.reduceAdd, Nat.reduceLT, Nat.reduceLeDiff]
  (repeat (first | exact List.prefix_refl _ | refine List.IsPrefix.trans ?_ (List.prefix_append _ _)))
theorem xT {b : Bt} {g : Gr} (G : Gs b g) : (rA [⟨b, 0⟩]).isSome = decide (0 < b.times.length) := by
  have h := JI G
  show (jL none ⟨b, 0⟩).isSome = _
  unfold jL Pl.key
  dsimp only
  cases hk : b.keys with
  | nil =>
    rw [h.1 hk]
    rfl
  | cons k r =>
    have : 0 < b.times.length := List.length_pos_iff.2 fun e => by rw [h.2 e] at hk; cases hk
    simp [sO, this]
theorem rB (H : AH) : aC Try.prog 18 [.int .i64 0, .nils, .nils] H fun r H' => r = .tup [gK (jC 0 [] []), .int .i64 0] ∧ H' = H := by
  have h : xL 0 [] [] = .tup [gK (jC 0 [] []), .int .i64 0] := by
    unfold xL
    rw [if_pos (by decide)]
  have := FC 0 .nils .nils [] [] H rfl (by decide) (fun u h => absurd h List.not_mem_nil) rfl (by decide) (fun h => absurd rfl h)
  rw [h] at this
  exact this
def F7 : AFn := ⟨115, 3, [.t 6], (.seq (.ops [oo 6 (.mov (.v (.bool false)))]) (.seq (.ops [oo 7 (.mov (.v .nilp))]) (.seq (.ops [oo 16 (.mov (.t 7)), oo 17 (.call 44 [(.t 16)])]) (.seq (.ops [oo 18 (.mov (.t 7)), oo 19 (.mov (.t 2)), oo 20 (.call 45 [(.t 18), (.t 19)])]) (.seq (.ops [oo 21 (.mov (.t 7)), oo 22 (.call 46 [(.t 21)])]) (.seq (.seq (.ops [oo 23 (.mov (.t 7)), oo 24 (.call 47 [(.t 23)]), oo 25 (.mov (.t 24)), og 26 25 false (.mov (.t 7)), og 27 25 false (.call 48 [(.t 26)]), og 28 25 false (.len (.t 27)), og 29 25 false (.mov (.t 7)), og 30 25 false (.call 49 [(.t 29)]), og 31 25 false (.len (.t 30)), og 32 25 false (.bin .add (.t 28) (.t 31)), og 33 25 false (.bin .neq (.t 32) (.v (.int .i64 0))), oo 34 (.pick (.t 25) (.v (.bool true)) (.t 33)), oo 35 (.mov (.t 34)), og 36 35 false (.mov (.t 1)), og 37 35 false (.call 15 [(.t 36)]), oo 38 (.pick (.t 35) (.v (.bool true)) (.t 37))]) (.cond (.t 38) (.seq (.ops [oo 39 (.mov (.t 1)), oo 40 (.call 15 [(.t 39)]), oo 41 (.mov (.t 40)), og 42 41 true (.call 10 []), oo 43 (.pick (.t 41) (.t 42) (.v (.bool false))), oo 6 (.mov (.t 43))]) .ret) .skip)) (.seq (.ops [oo 45 (.mov (.t 0)), oo 46 (.mov (.t 1)), oo 47 (.call 18 [(.t 45), (.t 46), (.v .nils)]), oo 44 (.mov (.t 47)), oo 48 (.ext (.t 44) 0), oo 49 (.ext (.t 44) 1), oo 8 (.mov (.t 48)), oo 9 (.mov (.t 49))]) (.seq (.ops [oo 51 (.call 18 [(.v (.int .i64 0)), (.v .nils), (.v .nils)]), oo 50 (.mov (.t 51)), oo 52 (.ext (.t 50) 0), oo 53 (.ext (.t 50) 1), oo 10 (.mov (.t 52)), oo 11 (.mov (.t 53))]) (.seq (.seq (.ops [oo 54 (.mov (.t 11)), oo 55 (.call 50 [(.t 54)]), oo 56 (.bin .neq (.t 55) (.v (.int .i64 0))), oo 57 (.mov (.t 56)), og 58 57 false (.mov (.t 10)), og 59 57 false (.eqn 0 false (.t 58)), oo 60 (.pick (.t 57) (.v (.bool true)) (.t 59))]) (.cond (.t 60) (.seq (.ops [oo 6 (.mov (.v (.bool false)))]) .ret) .skip)) (.seq (.seq (.ops [oo 61 (.mov (.t 9)), oo 62 (.call 50 [(.t 61)]), oo 63 (.bin .neq (.t 62) (.v (.int .i64 0)))]) (.cond (.t 63) (.seq (.ops [oo 64 (.mov (.t 8)), oo 65 (.eqn 0 false (.t 64)), oo 66 (.mov (.t 65)), og 67 66 true (.call 10 []), oo 68 (.pick (.t 66) (.t 67) (.v (.bool false))), oo 6 (.mov (.t 68))]) .ret) .skip)) (.seq (.ops [oo 70 (.mov (.t 8)), oo 71 (.bslz 1 3 .nilp [(0, (.v .nilp)), (1, (.t 70)), (2, (.v .nilp))]), oo 72 (.call 51 [(.t 71)]), oo 69 (.mov (.t 72)), oo 73 (.ext (.t 69) 0), oo 74 (.ext (.t 69) 1), oo 12 (.mov (.t 73)), oo 13 (.mov (.t 74))]) (.seq (.ops [oo 76 (.mov (.t 10)), oo 77 (.mov (.t 8)), oo 78 (.bslz 1 2 .nilp [(0, (.t 76)), (1, (.t 77))]), oo 79 (.call 51 [(.t 78)]), oo 75 (.mov (.t 79)), oo 80 (.ext (.t 75) 0), oo 81 (.ext (.t 75) 1), oo 14 (.mov (.t 80)), oo 15 (.mov (.t 81))]) (.seq (.ops [oo 82 (.mov (.t 13)), oo 83 (.call 50 [(.t 82)]), oo 84 (.bin .eql (.t 83) (.v (.int .i64 0))), oo 85 (.mov (.t 84)), og 86 85 true (.mov (.t 12)), og 87 85 true (.eqn 0 true (.t 86)), oo 88 (.pick (.t 85) (.t 87) (.v (.bool false))), oo 89 (.mov (.t 88)), og 90 89 true (.mov (.t 12)), og 91 89 true (.call 47 [(.t 90)]), og 92 89 true (.mov (.t 8)), og 93 89 true (.call 33 [(.t 92)]), og 94 89 true (.bin .gtr (.t 93) (.v (.int .i64 0))), og 95 89 true (.eqb false (.t 91) (.t 94)), oo 96 (.pick (.t 89) (.t 95) (.v (.bool false))), oo 97 (.mov (.t 96)), og 98 97 true (.mov (.t 15)), og 99 97 true (.call 50 [(.t 98)]), og 100 97 true (.bin .eql (.t 99) (.v (.int .i64 0))), og 101 97 true (.mov (.t 0)), og 102 97 true (.bin .eql (.t 101) (.v (.int .i64 0))), og 103 97 true (.eqb false (.t 100) (.t 102)), oo 104 (.pick (.t 97) (.t 103) (.v (.bool false))), oo 105 (.mov (.t 104)), og 106 105 true (.mov (.t 14)), og 107 105 true (.eqn 0 false (.t 106)), og 108 105 true (.mov (.t 0)), og 109 105 true (.bin .neq (.t 108) (.v (.int .i64 0))), og 110 105 true (.eqb false (.t 107) (.t 109)), oo 111 (.pick (.t 105) (.t 110) (.v (.bool false))), oo 112 (.mov (.t 111)), og 113 112 true (.call 10 []), oo 114 (.pick (.t 112) (.t 113) (.v (.bool false))), oo 6 (.mov (.t 114))]) .ret)))))))))))))⟩
theorem c7 : fW Try.prog (fun d => d == 71 || d == 78) 7 = some F7 := by kernel_rfl
theorem seekNils_law (key : Int) (wk : (Lit.int .i64 key).wf = true) (l : List Upd) (gl : GL GU l) (rr : List Val) (gr : GL GV rr) (H : AH) : aC Try.prog 7 [.int .i64 key, upsA l, rowA rr] H fun r H' => r = .bool true ∧ H' = H := by
  refine aI c7 (fun _ => rfl) (by simp [F7]) ?_
  unfold F7
  have z1 : dI (rowA []) = some 0 := rfl
  have w0 : IntKind.i64.wrap (0 + 0) = 0 := by decide
  simp only [push_cast, ↓reduceIte, Nat.reduceEqDiff, reduceCtorEq, Nat.reduceAdd, Nat.reduceLT, Nat.reduceLeDiff]
  (refine aC.look (JD _) ?_; try simp only [push_cast, ↓reduceIte, Nat.reduceEqDiff, reduceCtorEq, Nat.reduceAdd, Nat.reduceLT, Nat.reduceLeDiff, aB, aA])
  (refine aC.look (FI _ _) ?_; try simp only [push_cast, ↓reduceIte, Nat.reduceEqDiff, reduceCtorEq, Nat.reduceAdd, Nat.reduceLT, Nat.reduceLeDiff, aB, aA])
  (refine aC.look (BB _) ?_; try simp only [push_cast, ↓reduceIte, Nat.reduceEqDiff, reduceCtorEq, Nat.reduceAdd, Nat.reduceLT, Nat.reduceLeDiff, aB, aA])
  (refine aC.look (FH _) ?_; try simp only [push_cast, ↓reduceIte, Nat.reduceEqDiff, reduceCtorEq, Nat.reduceAdd, Nat.reduceLT, Nat.reduceLeDiff, aB, aA])
  (refine aC.look (JB _) ?_; simp only [push_cast, ↓reduceIte, Nat.reduceEqDiff, reduceCtorEq, Nat.reduceAdd, Nat.reduceLT, Nat.reduceLeDiff, aB, aA, z1])
  (refine aC.look (JC _) ?_; simp only [push_cast, ↓reduceIte, Nat.reduceEqDiff, reduceCtorEq, Nat.reduceAdd, Nat.reduceLT, Nat.reduceLeDiff, aB, aA, w0])
  (refine aC.look (CJ (upsA l) l _ rfl) ?_; try simp only [push_cast, ↓reduceIte, Nat.reduceEqDiff, reduceCtorEq, Nat.reduceAdd, Nat.reduceLT, Nat.reduceLeDiff, aB, aA])
  cases hm : nA l with
  | true =>
    simp only [push_cast, ↓reduceIte, Nat.reduceEqDiff, reduceCtorEq, Nat.reduceAdd, Nat.reduceLT, Nat.reduceLeDiff]
    (refine aC.look (CJ (upsA l) l _ rfl) ?_; simp only [push_cast, ↓reduceIte, Nat.reduceEqDiff, reduceCtorEq, Nat.reduceAdd, Nat.reduceLT, Nat.reduceLeDiff, aB, aA, hm])
    (refine aC.look (jZ _) ?_; try simp only [push_cast, ↓reduceIte, Nat.reduceEqDiff, reduceCtorEq, Nat.reduceAdd, Nat.reduceLT, Nat.reduceLeDiff, aB, aA])
    (repeat (first | exact List.prefix_refl _ | refine List.IsPrefix.trans ?_ (List.prefix_append _ _)))
  | false =>
    obtain ⟨m1, m2⟩ := BC hm
    have hs : cN l := fun u hu => by have := m2 u hu; omega
    simp only [push_cast, ↓reduceIte, Nat.reduceEqDiff, reduceCtorEq, Nat.reduceAdd, Nat.reduceLT, Nat.reduceLeDiff]
    by_cases hc : fT key l [] = 0
    · have hA : xL key l [] = .tup [gK (jC key l []), .int .i64 0] := by rw [xL, if_pos hc]
      have G := xQ key l []
      obtain ⟨k1, k2, k3, k4⟩ := gW key l []
      have hok : AL (jC key l []) := xR key l [] (by omega) hs (by decide)
      have htm : (jC key l []).times.length ≤ 60 := by have := kA key l []; omega
      generalize jC key l [] = b at hA G k1 k2 k3 k4 hok htm
      have hok0 : AL (jC 0 [] []) := xR 0 [] [] (by decide) (fun u h => absurd h List.not_mem_nil) (by decide)
      have k0 : (jC 0 [] []).key = 0 := (gW 0 [] []).1
      (refine aC.look (FC key (upsA l) .nils l [] _ rfl (by omega) hs rfl (by decide) (fun h => absurd rfl h)) ?_; simp only [push_cast, ↓reduceIte, Nat.reduceEqDiff, reduceCtorEq, Nat.reduceAdd, Nat.reduceLT, Nat.reduceLeDiff, aB, aA, hA])
      (refine aC.look (rB _) ?_; simp only [push_cast, ↓reduceIte, Nat.reduceEqDiff, reduceCtorEq, Nat.reduceAdd, Nat.reduceLT, Nat.reduceLeDiff, aB, aA, gK])
      (refine aC.look (dW _ _) ?_; simp only [push_cast, ↓reduceIte, Nat.reduceEqDiff, reduceCtorEq, Nat.reduceAdd, Nat.reduceLT, Nat.reduceLeDiff, aB, aA, gK])
      (refine aC.look (dW _ _) ?_; simp only [push_cast, ↓reduceIte, Nat.reduceEqDiff, reduceCtorEq, Nat.reduceAdd, Nat.reduceLT, Nat.reduceLeDiff, aB, aA, gK])
      generalize jC 0 [] [] = b0 at hok0 k0
      have nb : ∀ x, some x ∈ [none, some b, none] → AL x := fun x hx => by
        simp at hx; rw [hx]; exact hok
      have cn : cells .nilp = [.nilp] := rfl
      have cl2 : ∀ x : Bt, cells (.lptr 9 [xW x] 0 0) = [.lptr 9 [xW x] 0 0] := fun _ => rfl
      simp only [push_cast, ↓reduceIte, Nat.reduceEqDiff, reduceCtorEq, Nat.reduceAdd, Nat.reduceLT, Nat.reduceLeDiff, cn, cl2]
      have c1 := qZ (.list 1 [.nilp, gK b, .nilp] false) [none, some b, none] (H ++ [.dead]) rfl (by simp) nb
      refine c1.mono fun r H1 ⟨hp1, _, hr⟩ => ?_
      obtain ⟨v, ts, rfl, C⟩ := hr [b] rfl
      have nb2 : ∀ x, some x ∈ [some b0, some b] → AL x := fun x hx => by
        simp at hx; rcases hx with rfl | rfl
        · exact hok0
        · exact hok
      have hs2 : fU [] [some b0, some b] = if key = 0 then some [b0, b] else none := by
        show (if b.key = b0.key then _ else _) = _
        rw [k1, k0]; rfl
      simp only [push_cast, ↓reduceIte, Nat.reduceEqDiff, reduceCtorEq, Nat.reduceAdd, Nat.reduceLT, Nat.reduceLeDiff, cn, cl2]
      have c2 := qZ (.list 1 [gK b0, gK b] false) [some b0, some b] (H1 ++ [.dead]) rfl (by simp) nb2
      refine c2.mono fun r H2 ⟨hp2, hn, hr2⟩ => ?_
      have hpp : H1 <+: H2 := (List.prefix_append _ _).trans hp2
      obtain ⟨J, rfl⟩ := hpp
      have C2 := C.mono (J := J)
      have pok : MD [⟨b, 0⟩] := by
        refine ⟨by simp, fun p hp => ?_, fun p hp => ?_, fun p hp => ?_⟩ <;> rw [List.mem_singleton.1 hp]
        · exact hok.keys
        · exact Nat.zero_le _
        · exact hok.kl
      have lo := xT G
      rw [hs2] at hn hr2
      have hl1 : (H ++ [aM.dead]).length = H.length + 1 := by simp
      rw [hl1] at C2
      have vc := FG (ps := [⟨b, 0⟩]) C2 pok
      rw [lo] at vc
      have hpre : H <+: H1 ++ J := ((List.prefix_append _ _).trans hp1).trans (List.prefix_append _ _)
      have n10 : ¬ (1 : Int) = 0 := by decide
      have ff : (false == false) = true := rfl
      have hlen : ((b.times.length : Int) > 0) ↔ 0 < b.times.length := by omega
      by_cases hk : key = 0
      · rw [if_pos hk] at hr2
        obtain ⟨v2, ts2, rfl, _⟩ := hr2 _ rfl
        clear hn hr2 c1 c2 hs2
        by_cases hp0 : 0 < b.times.length
        · have hp1 : (b.times.length : Int) > 0 := by omega
          simp only [hp0, decide_true] at vc
          simp only [push_cast, ↓reduceIte, Nat.reduceEqDiff, reduceCtorEq, Nat.reduceAdd, Nat.reduceLT, Nat.reduceLeDiff]
          (refine aC.look (dW _ _) ?_; try simp only [push_cast, ↓reduceIte, Nat.reduceEqDiff, reduceCtorEq, Nat.reduceAdd, Nat.reduceLT, Nat.reduceLeDiff, aB, aA])
          (refine aC.look (vc) ?_; try simp only [push_cast, ↓reduceIte, Nat.reduceEqDiff, reduceCtorEq, Nat.reduceAdd, Nat.reduceLT, Nat.reduceLeDiff, aB, aA])
          (refine aC.look (AM b _) ?_; simp only [push_cast, ↓reduceIte, Nat.reduceEqDiff, reduceCtorEq, Nat.reduceAdd, Nat.reduceLT, Nat.reduceLeDiff, aB, aA, hp1])
          (refine aC.look (dW _ _) ?_; simp only [push_cast, ↓reduceIte, Nat.reduceEqDiff, reduceCtorEq, Nat.reduceAdd, Nat.reduceLT, Nat.reduceLeDiff, aB, aA, hk])
          (refine aC.look (jZ _) ?_; try simp only [push_cast, ↓reduceIte, Nat.reduceEqDiff, reduceCtorEq, Nat.reduceAdd, Nat.reduceLT, Nat.reduceLeDiff, aB, aA])
          exact hpre
        · have hp1 : ¬ (b.times.length : Int) > 0 := by omega
          simp only [hp0, decide_false] at vc
          simp only [push_cast, ↓reduceIte, Nat.reduceEqDiff, reduceCtorEq, Nat.reduceAdd, Nat.reduceLT, Nat.reduceLeDiff]
          (refine aC.look (dW _ _) ?_; try simp only [push_cast, ↓reduceIte, Nat.reduceEqDiff, reduceCtorEq, Nat.reduceAdd, Nat.reduceLT, Nat.reduceLeDiff, aB, aA])
          (refine aC.look (vc) ?_; try simp only [push_cast, ↓reduceIte, Nat.reduceEqDiff, reduceCtorEq, Nat.reduceAdd, Nat.reduceLT, Nat.reduceLeDiff, aB, aA])
          (refine aC.look (AM b _) ?_; simp only [push_cast, ↓reduceIte, Nat.reduceEqDiff, reduceCtorEq, Nat.reduceAdd, Nat.reduceLT, Nat.reduceLeDiff, aB, aA, hp1])
          (refine aC.look (dW _ _) ?_; simp only [push_cast, ↓reduceIte, Nat.reduceEqDiff, reduceCtorEq, Nat.reduceAdd, Nat.reduceLT, Nat.reduceLeDiff, aB, aA, hk])
          (refine aC.look (jZ _) ?_; try simp only [push_cast, ↓reduceIte, Nat.reduceEqDiff, reduceCtorEq, Nat.reduceAdd, Nat.reduceLT, Nat.reduceLeDiff, aB, aA])
          exact hpre
      · rw [if_neg hk] at hn
        have hr := hn rfl
        subst hr
        clear hn hr2 c1 c2 hs2
        by_cases hp0 : 0 < b.times.length
        · have hp1 : (b.times.length : Int) > 0 := by omega
          simp only [hp0, decide_true] at vc
          simp only [push_cast, ↓reduceIte, Nat.reduceEqDiff, reduceCtorEq, Nat.reduceAdd, Nat.reduceLT, Nat.reduceLeDiff]
          (refine aC.look (dW _ _) ?_; try simp only [push_cast, ↓reduceIte, Nat.reduceEqDiff, reduceCtorEq, Nat.reduceAdd, Nat.reduceLT, Nat.reduceLeDiff, aB, aA])
          (refine aC.look (vc) ?_; try simp only [push_cast, ↓reduceIte, Nat.reduceEqDiff, reduceCtorEq, Nat.reduceAdd, Nat.reduceLT, Nat.reduceLeDiff, aB, aA])
          (refine aC.look (AM b _) ?_; simp only [push_cast, ↓reduceIte, Nat.reduceEqDiff, reduceCtorEq, Nat.reduceAdd, Nat.reduceLT, Nat.reduceLeDiff, aB, aA, hp1])
          (refine aC.look (dW _ _) ?_; simp only [push_cast, ↓reduceIte, Nat.reduceEqDiff, reduceCtorEq, Nat.reduceAdd, Nat.reduceLT, Nat.reduceLeDiff, aB, aA, hk, n10, ff, decide_false])
          (refine aC.look (jZ _) ?_; try simp only [push_cast, ↓reduceIte, Nat.reduceEqDiff, reduceCtorEq, Nat.reduceAdd, Nat.reduceLT, Nat.reduceLeDiff, aB, aA])
          exact hpre
        · have hp1 : ¬ (b.times.length : Int) > 0 := by omega
          simp only [hp0, decide_false] at vc
          simp only [push_cast, ↓reduceIte, Nat.reduceEqDiff, reduceCtorEq, Nat.reduceAdd, Nat.reduceLT, Nat.reduceLeDiff]
          (refine aC.look (dW _ _) ?_; try simp only [push_cast, ↓reduceIte, Nat.reduceEqDiff, reduceCtorEq, Nat.reduceAdd, Nat.reduceLT, Nat.reduceLeDiff, aB, aA])
          (refine aC.look (vc) ?_; try simp only [push_cast, ↓reduceIte, Nat.reduceEqDiff, reduceCtorEq, Nat.reduceAdd, Nat.reduceLT, Nat.reduceLeDiff, aB, aA])
          (refine aC.look (AM b _) ?_; simp only [push_cast, ↓reduceIte, Nat.reduceEqDiff, reduceCtorEq, Nat.reduceAdd, Nat.reduceLT, Nat.reduceLeDiff, aB, aA, hp1])
          (refine aC.look (dW _ _) ?_; simp only [push_cast, ↓reduceIte, Nat.reduceEqDiff, reduceCtorEq, Nat.reduceAdd, Nat.reduceLT, Nat.reduceLeDiff, aB, aA, hk, n10, ff, decide_false])
          (refine aC.look (jZ _) ?_; try simp only [push_cast, ↓reduceIte, Nat.reduceEqDiff, reduceCtorEq, Nat.reduceAdd, Nat.reduceLT, Nat.reduceLeDiff, aB, aA])
          exact hpre
    · have hA : xL key l [] = .tup [.nilp, .int .i64 (fT key l [])] := by rw [xL, if_neg hc]
      (refine aC.look (FC key (upsA l) .nils l [] _ rfl (by omega) hs rfl (by decide) (fun h => absurd rfl h)) ?_; simp only [push_cast, ↓reduceIte, Nat.reduceEqDiff, reduceCtorEq, Nat.reduceAdd, Nat.reduceLT, Nat.reduceLeDiff, aB, aA, hA])
      (refine aC.look (rB _) ?_; simp only [push_cast, ↓reduceIte, Nat.reduceEqDiff, reduceCtorEq, Nat.reduceAdd, Nat.reduceLT, Nat.reduceLeDiff, aB, aA, gK])
      (refine aC.look (dW _ _) ?_; simp only [push_cast, ↓reduceIte, Nat.reduceEqDiff, reduceCtorEq, Nat.reduceAdd, Nat.reduceLT, Nat.reduceLeDiff, aB, aA, gK])
      (refine aC.look (dW _ _) ?_; simp only [push_cast, ↓reduceIte, Nat.reduceEqDiff, reduceCtorEq, Nat.reduceAdd, Nat.reduceLT, Nat.reduceLeDiff, aB, aA, hc])
      (refine aC.look (jZ _) ?_; try simp only [push_cast, ↓reduceIte, Nat.reduceEqDiff, reduceCtorEq, Nat.reduceAdd, Nat.reduceLT, Nat.reduceLeDiff, aB, aA])
      (repeat (first | exact List.prefix_refl _ | refine List.IsPrefix.trans ?_ (List.prefix_append _ _)))
end Go.Eng
end
