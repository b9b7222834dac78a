/- SymUp3. -/
import Derived.Test.YtpflmgbpjhbmnaaGreatQBm9
import Derived.Deep.DeepCutAuto
import Derived.Deep.CutBlock
section
namespace Go.Proofs.YtpflmgbpjhbmnaaGreat.SU
open Go Go.Sort Go.RowKit Go.Lib Go.Shelf Go.Proofs Go.Proofs.YtpflmgbpjhbmnaaGreat.Stab
variable {α : Type} [Inhabited α]
set_option linter.unusedVariables false
set_option linter.unusedSimpArgs false
structure gY (cf : α → α → Int) (D : Array α) (a m b n lo hi st r : Nat) : Prop where
 h1 : lo ≤ st
 h2 : st ≤ r
 h3 : r ≤ hi
 up : ∀ c, lo ≤ c → c < st → 0 ≤ cf D[n - 1 - c]! D[c]!
 down : ∀ c, r ≤ c → c < hi → cf D[n - 1 - c]! D[c]! < 0
theorem pS (p x y q : List α) (a m : Nat) (hp : p.length = a) (hm : a + x.length = m) (c : Nat) (h1 : a ≤ c) (h2 : c < m) : ∃ v, x[c - a]? = some v ∧ (p ++ (x ++ (y ++ q))).toArray[c]! = v := by
 have hl : c - a < x.length := by omega
 refine ⟨x[c - a], List.getElem?_eq_getElem hl, ?_⟩
 have := fM (p ++ x.take (c - a)) (x.drop (c - a + 1) ++ (y ++ q)) x[c - a]
 have e : (p ++ x.take (c - a)) ++ x[c - a] :: (x.drop (c - a + 1) ++ (y ++ q)) = p ++ (x ++ (y ++ q)) := by
  have := List.take_append_drop (c - a) x
  rw [List.drop_eq_getElem_cons hl] at this
  conv => rhs; rw [← this]
  generalize x.take (c - a) = X0, x.drop (c - a + 1) = X1, x[c - a] = xe
  simp
 rw [e, show (p ++ x.take (c - a)).length = c by simp; omega] at this
 exact this
theorem sA (p x y q : List α) (a m b : Nat) (hp : p.length = a) (hm : a + x.length = m) (hb : m + y.length = b) (c : Nat) (h1 : m ≤ c) (h2 : c < b) : ∃ v, y[c - m]? = some v ∧ (p ++ (x ++ (y ++ q))).toArray[c]! = v := by
 obtain ⟨v, h, e⟩ := pS (p ++ x) y [] q m b (by simp; omega) hb c h1 h2
 exact ⟨v, h, by rw [← e]; simp⟩
theorem lA {cf : α → α → Int} (O : Ord cf) (p x y q : List α) (a m b n lo hi st : Nat) (hp : p.length = a) (hm : a + x.length = m) (hb : m + y.length = b) (hx : Srt cf x) (hy : Srt cf y)
  (hlo : lo = a ∨ n = lo + b) (hhi : hi = m ∨ n = hi + m) (hla : a ≤ lo) (hhm : hi ≤ m) (hn1 : m + hi ≤ n) (hn2 : n ≤ lo + b) (P : gY cf (p ++ (x ++ (y ++ q))).toArray a m b n lo hi st st) :
  ∃ x1 x2 y1 y2, x = x1 ++ x2 ∧ y = y1 ++ y2 ∧ a + x1.length = st ∧ m + y1.length = n - st ∧ (∀ u ∈ x2, ∀ v ∈ y1, cf v u < 0) ∧ (∀ u ∈ x1, ∀ v ∈ y2, cf u v ≤ 0) := by
 have h1 := P.h1
 have h3 := P.h3
 refine ⟨x.take (st - a), x.drop (st - a), y.take (n - st - m), y.drop (n - st - m), (List.take_append_drop _ _).symm, (List.take_append_drop _ _).symm, by simp; omega, by simp; omega, ?_, ?_⟩
 ·intro u hu v hv
  obtain ⟨s, hs⟩ := List.getElem?_of_mem hu
  obtain ⟨t, ht⟩ := List.getElem?_of_mem hv
  rw [List.getElem?_drop] at hs
  rw [List.getElem?_take] at ht
  split at ht
  ·rename_i htl
   have hsl := (List.getElem?_eq_some_iff.1 hs).1
   have hst : st < hi := by omega
   obtain ⟨u0, e1, e2⟩ := pS p x y q a m hp hm st (by omega) (by omega)
   obtain ⟨v0, e3, e4⟩ := sA p x y q a m b hp hm hb (n - 1 - st) (by omega) (by omega)
   have k1 := P.down st (Nat.le_refl _) hst
   rw [e2, e4] at k1
   have k2 := eX O hx (by omega) e1 hs
   have k3 := eX O hy (show t ≤ n - 1 - st - m by omega) ht e3
   exact O.lt_le (O.le_lt k3 k1) k2
  ·cases ht
 ·intro u hu v hv
  obtain ⟨s, hs⟩ := List.getElem?_of_mem hu
  obtain ⟨t, ht⟩ := List.getElem?_of_mem hv
  rw [List.getElem?_take] at hs
  rw [List.getElem?_drop] at ht
  split at hs
  ·rename_i hsl
   have htl := (List.getElem?_eq_some_iff.1 ht).1
   have hst : lo < st := by omega
   obtain ⟨u0, e1, e2⟩ := pS p x y q a m hp hm (st - 1) (by omega) (by omega)
   obtain ⟨v0, e3, e4⟩ := sA p x y q a m b hp hm hb (n - 1 - (st - 1)) (by omega) (by omega)
   have k1 := P.up (st - 1) (by omega) (by omega)
   rw [e2, e4] at k1
   have k2 := eX O hx (show s ≤ st - 1 - a by omega) hs e1
   have k3 := eX O hy (show n - 1 - (st - 1) - m ≤ n - st - m + t by omega) e3 ht
   have := O.sw u0 v0
   exact O.tr _ _ _ k2 (O.tr _ _ _ (by omega) k3)
  ·cases hs
theorem gY.step_up {cf : α → α → Int} (O : Ord cf) {p x y q : List α} {a m b n lo hi st r : Nat} (hp : p.length = a) (hm : a + x.length = m) (hb : m + y.length = b) (hx : Srt cf x) (hy : Srt cf y)
  (hla : a ≤ lo) (hhm : hi ≤ m) (hn1 : m + hi ≤ n) (hn2 : n ≤ lo + b) (P : gY cf (p ++ (x ++ (y ++ q))).toArray a m b n lo hi st r) (hlt : st < r) (c : Nat) (hc1 : st ≤ c) (hc2 : c < r) (hc : ¬ cf (p ++ (x ++ (y ++ q))).toArray[n - 1 - c]! (p ++ (x ++ (y ++ q))).toArray[c]! < 0) :
  gY cf (p ++ (x ++ (y ++ q))).toArray a m b n lo hi (c + 1) r := by
 have h1 := P.h1
 have h3 := P.h3
 refine ⟨by omega, by omega, h3, fun c' l1 l2 => ?_, P.down⟩
 obtain ⟨u0, e1, e2⟩ := pS p x y q a m hp hm c (by omega) (by omega)
 obtain ⟨u1, e5, e6⟩ := pS p x y q a m hp hm c' (by omega) (by omega)
 obtain ⟨v0, e3, e4⟩ := sA p x y q a m b hp hm hb (n - 1 - c) (by omega) (by omega)
 obtain ⟨v1, e7, e8⟩ := sA p x y q a m b hp hm hb (n - 1 - c') (by omega) (by omega)
 rw [e6, e8]
 rw [e2, e4] at hc
 have k2 := eX O hx (show c' - a ≤ c - a by omega) e5 e1
 have k3 := eX O hy (show n - 1 - c - m ≤ n - 1 - c' - m by omega) e3 e7
 have s1 := O.sw u0 v0
 have s2 := O.sw u1 v1
 have := O.tr _ _ _ k2 (O.tr _ _ _ (show cf u0 v0 ≤ 0 by omega) k3)
 omega
theorem gY.step_down {cf : α → α → Int} (O : Ord cf) {p x y q : List α} {a m b n lo hi st r : Nat} (hp : p.length = a) (hm : a + x.length = m) (hb : m + y.length = b) (hx : Srt cf x) (hy : Srt cf y)
  (hla : a ≤ lo) (hhm : hi ≤ m) (hn1 : m + hi ≤ n) (hn2 : n ≤ lo + b) (P : gY cf (p ++ (x ++ (y ++ q))).toArray a m b n lo hi st r) (hlt : st < r) (c : Nat) (hc1 : st ≤ c) (hc2 : c < r) (hc : cf (p ++ (x ++ (y ++ q))).toArray[n - 1 - c]! (p ++ (x ++ (y ++ q))).toArray[c]! < 0) :
  gY cf (p ++ (x ++ (y ++ q))).toArray a m b n lo hi st c := by
 have h1 := P.h1
 have h3 := P.h3
 refine ⟨h1, hc1, by omega, P.up, fun c' l1 l2 => ?_⟩
 obtain ⟨u0, e1, e2⟩ := pS p x y q a m hp hm c (by omega) (by omega)
 obtain ⟨u1, e5, e6⟩ := pS p x y q a m hp hm c' (by omega) (by omega)
 obtain ⟨v0, e3, e4⟩ := sA p x y q a m b hp hm hb (n - 1 - c) (by omega) (by omega)
 obtain ⟨v1, e7, e8⟩ := sA p x y q a m b hp hm hb (n - 1 - c') (by omega) (by omega)
 rw [e6, e8]
 rw [e2, e4] at hc
 have k2 := eX O hx (show c - a ≤ c' - a by omega) e1 e5
 have k3 := eX O hy (show n - 1 - c' - m ≤ n - 1 - c - m by omega) e7 e3
 exact O.lt_le (O.le_lt k3 hc) k2
end Go.Proofs.YtpflmgbpjhbmnaaGreat.SU
end
