/- NewB, Grp, Span, Front. -/
import Derived.Test.YtpflmgbpjhbmnaaGreatQBm19
import Derived.Test.YtpflmgbpjhbmnaaGreatQBm5
import Derived.Test.YtpflmgbpjhbmnaaGreatQBm4
section
namespace Go.Proofs.YtpflmgbpjhbmnaaGreat.B
open Go Go.RowKit Go.Proofs Go.Proofs.YtpflmgbpjhbmnaaGreatW.PrintWords Go.Proofs.YtpflmgbpjhbmnaaGreat.Stab
set_option linter.unusedVariables false
set_option linter.unusedSimpArgs false
theorem nG (l : List Int) : (bump l).length = l.length := by simp [bump]
theorem lF (l : List Int) (h : 0 < l.length) : (bump l).getD ((bump l).length - 1) 0 = l.getD (l.length - 1) 0 + 1 := by
 unfold bump
 rw [List.length_set]
 simp [List.getD_eq_getElem?_getD, List.getElem?_set, show l.length - 1 < l.length by omega]
theorem xF {b : Bt} {k r : List S85} (h : r ∈ (lP b k).keys) : r ∈ b.keys ∨ r = k := by simpa [lP] using h
theorem zS (b : Bt) (u : S61) (hv : Vd b) (hu : u.f0.length ≤ 1099511627776) : Vd (jC b u) := by
 have h1 := hv.kl
 have h2 := hv.el
 have h3 := hv.dl
 have h4 := hv.kr
 have h5 := hv.rt
 have h6 := hv.kk
 have h7 := hv.lk
 have h8 := hv.le
 have hk : (u.f0.take b.key.toNat).length ≤ 1099511627776 := by rw [List.length_take]; omega
 have hr : (u.f0.drop b.key.toNat).length ≤ 1099511627776 := by rw [List.length_drop]; omega
 unfold jC
 dsimp only
 generalize u.f0.take b.key.toNat = k at hk ⊢
 generalize u.f0.drop b.key.toNat = r at hr ⊢
 have stT : ∀ (c : Bt), Vd c → 0 < c.ends.length → Vd (iG c u.f1 u.f2) := by
  intro c hc h0
  refine ⟨hc.kl, by simp [iG, nG, hc.el], by simp [iG, hc.dl], hc.kr, by have := hc.rt; simp [iG]; omega, hc.kk, hc.lk, fun _ => ?_, hc.wk, hc.wr⟩
  show (bump c.ends).getD ((bump c.ends).length - 1) 0 = ((c.times ++ [u.f1]).length : Int)
  rw [lF _ h0, hc.le h0]
  simp
 -- a rest that is new: the times are still to come
 have stR : ∀ (c : Bt), c.kend.length = c.keys.length → c.ends.length = c.rests.length → c.diffs.length = c.times.length → c.keys.length ≤ c.rests.length + 1 → c.rests.length ≤ c.times.length → 0 < c.keys.length → c.kend.getD (c.kend.length - 1) 0 = c.rests.length →
   (∀ r ∈ c.keys, r.length ≤ 1099511627776) → (∀ r ∈ c.rests, r.length ≤ 1099511627776) → Vd (iG (iM c r) u.f1 u.f2) := by
  intro c a1 a2 a3 a4 a5 a6 a7 a8 a9
  have e1 : (iM c r).ends.length = c.ends.length + 1 := by simp [iM]
  refine ⟨by simp [iG, iM, nG, a1], by simp [iG, iM, nG, a2], by simp [iG, iM, a3], by simp [iG, iM]; omega, by simp [iG, iM]; omega, fun e => absurd e (by show c.keys.length ≠ 0; omega), fun _ => ?_, fun _ => ?_, a8, ?_⟩
  ·show (bump c.kend).getD ((bump c.kend).length - 1) 0 = ((c.rests ++ [r]).length : Int)
   rw [lF _ (by omega), a7]
   simp
  ·show (bump (iM c r).ends).getD ((bump (iM c r).ends).length - 1) 0 = (((iM c r).times ++ [u.f1]).length : Int)
   rw [lF _ (by omega), e1]
   simp [iM]
  ·intro q hq
   have hq : q ∈ c.rests ++ [r] := hq
   rcases List.mem_append.1 hq with hq | hq
   ·exact a9 q hq
   ·rw [List.mem_singleton.1 hq]; exact hr
 cases hf : dY b.keys k with
 | true =>
  rw [if_pos rfl]
  refine stR (lP b k) (by simp [lP, h1]) h2 h3 (by simp [lP]; omega) h5 (by simp [lP]) (by simp [lP]) ?_ hv.wr
  intro q hq
  rcases xF hq with hq | hq
  ·exact hv.wk q hq
  ·rw [hq]; exact hk
 | false =>
  rw [if_neg (by decide)]
  have hk9 : b.keys.length ≠ 0 := fun e => by
   unfold dY at hf
   rw [if_pos e] at hf
   cases hf
  cases hg : dY b.rests r with
  | true =>
   rw [if_pos rfl]
   exact stR b h1 h2 h3 (by omega) h5 (by omega) (h7 (by omega)) hv.wk hv.wr
  | false =>
   rw [if_neg (by decide)]
   exact stT b hv (by omega)
theorem rD (b : Bt) (u : S61) : (jC b u).key = b.key ∧ (jC b u).weight = b.weight ∧ (jC b u).since = b.since ∧ (jC b u).times = b.times ++ [u.f1] ∧ (jC b u).diffs = b.diffs ++ [u.f2] := by
 unfold jC
 dsimp only
 split
 ·exact ⟨rfl, rfl, rfl, rfl, rfl⟩
 ·split
  ·exact ⟨rfl, rfl, rfl, rfl, rfl⟩
  ·exact ⟨rfl, rfl, rfl, rfl, rfl⟩
def Bt.none_ (key weight : Int) (since : List S59) : Bt := ⟨key, weight, since, [], [], [], [], [], []⟩
theorem uM (key weight : Int) (since : List S59) : Vd (Bt.none_ key weight since) :=
 ⟨rfl, rfl, rfl, Nat.le_refl _, Nat.le_refl _, fun _ => rfl, fun h => absurd h (Nat.lt_irrefl 0), fun h => absurd h (Nat.lt_irrefl 0), fun _ h => absurd h List.not_mem_nil, fun _ h => absurd h List.not_mem_nil⟩
def eG (b : Bt) (l : List S61) : Bt := l.foldl jC b
theorem pV (b : Bt) (l : List S61) (u : S61) : eG b (l ++ [u]) = jC (eG b l) u := by simp [eG]
theorem oQ (l : List S61) : ∀ (b : Bt), Vd b → (∀ u ∈ l, u.f0.length ≤ 1099511627776) → Vd (eG b l) := by
 induction l with
 | nil => exact fun b hv _ => hv
 | cons u r ih => exact fun b hv hu => ih _ (zS b u hv (hu u List.mem_cons_self)) (fun x hx => hu x (List.mem_cons_of_mem _ hx))
theorem mN (l : List S61) : ∀ (b : Bt), (eG b l).key = b.key ∧ (eG b l).weight = b.weight ∧ (eG b l).since = b.since ∧ (eG b l).times = b.times ++ l.map (·.f1) ∧ (eG b l).diffs = b.diffs ++ l.map (·.f2) := by
 induction l with
 | nil => intro b; simp [eG]
 | cons u r ih =>
  intro b
  obtain ⟨h1, h2, h3, h4, h5⟩ := ih (jC b u)
  obtain ⟨g1, g2, g3, g4, g5⟩ := rD b u
  refine ⟨h1.trans g1, h2.trans g2, h3.trans g3, ?_, ?_⟩
  ·show (eG (jC b u) r).times = _
   rw [h4, g4]; simp
  ·show (eG (jC b u) r).diffs = _
   rw [h5, g5]; simp
theorem mO {l x : List S61} (hl : l ≠ []) (h : eS l = some x) (u : S61) (hu : u ∈ x) : ∃ v ∈ l, u.f0 = v.f0 ∧ u.f1 = v.f1 := by
 unfold eS at h
 cases hs : lB 0 l with
 | none => rw [hs] at h; cases h
 | some n =>
  rw [hs] at h
  dsimp only at h
  split at h
  ·cases h; cases hu
  ·cases h
   rw [List.mem_singleton.1 hu]
   cases l with
   | nil => exact absurd rfl hl
   | cons a t => exact ⟨a, List.mem_cons_self, rfl, rfl⟩
theorem uN (ls : List (List S61)) : ∀ (out z : List S61), (∀ l ∈ ls, l ≠ []) → eF out ls = some z → ∀ u ∈ z, u ∈ out ∨ ∃ l ∈ ls, ∃ v ∈ l, u.f0 = v.f0 ∧ u.f1 = v.f1 := by
 induction ls with
 | nil => intro out z _ h u hu; cases h; exact .inl hu
 | cons l r ih =>
  intro out z hne h u hu
  simp only [eF] at h
  cases ho : eS l with
  | none => rw [ho] at h; cases h
  | some x =>
   rw [ho] at h
   rcases ih (out ++ x) z (fun q hq => hne q (List.mem_cons_of_mem _ hq)) h u hu with h1 | ⟨q, hq, v, hv, e⟩
   ·rcases List.mem_append.1 h1 with h1 | h1
    ·exact .inl h1
    ·obtain ⟨v, hv, e⟩ := mO (hne l List.mem_cons_self) ho u h1
     exact .inr ⟨l, List.mem_cons_self, v, hv, e⟩
   ·exact .inr ⟨q, List.mem_cons_of_mem _ hq, v, hv, e⟩
theorem nH : ∀ (k : Nat) (z l : List S61), l ∈ lD k z → l ≠ [] ∧ ∀ v ∈ l, v ∈ z := by
 intro k
 induction k with
 | zero => intro z l h; cases h
 | succ k ih =>
  intro z l h
  cases z with
  | nil => cases h
  | cons x r =>
   rcases List.mem_cons.1 h with h | h
   ·subst h
    refine ⟨fun e => ?_, fun v hv => List.mem_of_mem_take hv⟩
    have h1 := congrArg List.length e
    have h2 : 1 ≤ grp cY x r := by unfold grp; omega
    simp at h1
    omega
   ·obtain ⟨h1, h2⟩ := ih _ _ h
    exact ⟨h1, fun v hv => List.mem_of_mem_drop (h2 v hv)⟩
theorem xG : ∀ (k : Nat) (z : List S61), (lD k z).length ≤ k := by
 intro k
 induction k with
 | zero => intro z; exact Nat.le_refl _
 | succ k ih =>
  intro z
  cases z with
  | nil => exact Nat.zero_le _
  | cons x r => exact Nat.succ_le_succ (ih _)
theorem lG (l : List S61) : (dC l).1.length ≤ l.length := by
 unfold dC
 cases h : eF [] (lD l.length (eY l)) with
 | none => exact Nat.zero_le _
 | some z =>
  have h1 := oO _ _ _ h
  have h2 := xG l.length (eY l)
  show z.length ≤ l.length
  simp at h1
  omega
theorem oR (l : List S61) (u : S61) (hu : u ∈ (dC l).1) : ∃ v ∈ l, u.f0 = v.f0 ∧ u.f1 = v.f1 := by
 unfold dC at hu
 cases h : eF [] (lD l.length (eY l)) with
 | none => rw [h] at hu; cases hu
 | some z =>
  rw [h] at hu
  rcases uN _ [] z (fun q hq => (nH _ _ q hq).1) h u hu with h1 | ⟨q, hq, v, hv, e⟩
  ·cases h1
  ·exact ⟨v, (sortS_mem _ v).1 ((nH _ _ q hq).2 v hv), e⟩
end Go.Proofs.YtpflmgbpjhbmnaaGreat.B
end
section
namespace Go.Proofs.YtpflmgbpjhbmnaaGreat.B
open Go Go.RowKit Go.Proofs Go.Proofs.YtpflmgbpjhbmnaaGreatW.PrintWords
set_option linter.unusedVariables false
set_option linter.unusedSimpArgs false
def jS : Nat → List Nat → List Int
 | _, [] => []
 | a, n :: r => ((a + n : Nat) : Int) :: jS (a + n) r
theorem gZ (l : List Nat) : ∀ (a n : Nat), jS a (l ++ [n]) = jS a l ++ [((a + l.sum + n : Nat) : Int)] := by
 induction l with
 | nil => intro a n; simp [jS]
 | cons x r ih => intro a n; simp [jS, ih, Nat.add_assoc]
theorem rE (l : List Nat) : ∀ a, (jS a l).length = l.length := by
 induction l with
 | nil => intro a; rfl
 | cons x r ih => intro a; simp [jS, ih]
theorem hO (l : List Nat) (n : Nat) : bump (jS 0 (l ++ [n])) = jS 0 (l ++ [n + 1]) := by
 rw [gZ, gZ]
 unfold bump
 have h : (jS 0 l ++ [((0 + l.sum + n : Nat) : Int)]).length - 1 = (jS 0 l).length := by simp
 rw [h]
 simp [List.getD_eq_getElem?_getD, List.set_append]
 omega
abbrev Rst := List S85 × List (S59 × Int)
abbrev Gr := List (List S85 × List Rst)
structure Gs (b : Bt) (g : Gr) : Prop where
 keys : b.keys = g.map (·.1)
 kend : b.kend = jS 0 (g.map (·.2.length))
 rests : b.rests = (g.flatMap (·.2)).map (·.1)
 ends : b.ends = jS 0 ((g.flatMap (·.2)).map (·.2.length))
 times : b.times = ((g.flatMap (·.2)).flatMap (·.2)).map (·.1)
 diffs : b.diffs = ((g.flatMap (·.2)).flatMap (·.2)).map (·.2)
 ne1 : ∀ x ∈ g, x.2 ≠ []
 ne2 : ∀ y ∈ g.flatMap (·.2), y.2 ≠ []
theorem zT (key weight : Int) (since : List S59) : Gs (Bt.none_ key weight since) [] :=
 ⟨rfl, rfl, rfl, rfl, rfl, rfl, fun _ h => absurd h List.not_mem_nil, fun _ h => absurd h List.not_mem_nil⟩
theorem yN (b : Bt) (g : Gr) (h : Gs b g) (k r : List S85) (t : S59) (d : Int) : Gs (iG (iM (lP b k) r) t d) (g ++ [(k, [(r, [(t, d)])])]) := by
 refine ⟨by simp [iG, iM, lP, h.keys], ?_, by simp [iG, iM, lP, h.rests], ?_, by simp [iG, iM, lP, h.times], by simp [iG, iM, lP, h.diffs], ?_, ?_⟩
 ·show bump (b.kend ++ [(b.rests.length : Int)]) = _
  rw [h.kend, List.map_append]
  have e : b.rests.length = (g.map (·.2.length)).sum := by rw [h.rests, List.length_map, List.length_flatMap]
  have e2 : jS 0 (g.map (·.2.length)) ++ [(b.rests.length : Int)] = jS 0 (g.map (·.2.length) ++ [0]) := by rw [gZ, e]; simp
  rw [e2, hO]
  rfl
 ·show bump (b.ends ++ [(b.times.length : Int)]) = _
  rw [h.ends, List.flatMap_append, List.map_append]
  have e : b.times.length = ((g.flatMap (·.2)).map (·.2.length)).sum := by rw [h.times, List.length_map, List.length_flatMap]
  have e2 : jS 0 ((g.flatMap (·.2)).map (·.2.length)) ++ [(b.times.length : Int)] = jS 0 ((g.flatMap (·.2)).map (·.2.length) ++ [0]) := by rw [gZ, e]; simp
  rw [e2, hO]
  rfl
 ·intro x hx
  rcases List.mem_append.1 hx with hx | hx
  ·exact h.ne1 x hx
  ·rw [List.mem_singleton.1 hx]; simp
 ·intro y hy
  rw [List.flatMap_append] at hy
  rcases List.mem_append.1 hy with hy | hy
  ·exact h.ne2 y hy
  ·simp at hy; rw [hy]; simp
theorem zU (b : Bt) (g : Gr) (k0 : List S85) (rs : List Rst) (h : Gs b (g ++ [(k0, rs)])) (r : List S85) (t : S59) (d : Int) : Gs (iG (iM b r) t d) (g ++ [(k0, rs ++ [(r, [(t, d)])])]) := by
 refine ⟨by have := h.keys; simpa [iG, iM] using this, ?_, by have := h.rests; simp [iG, iM, this], ?_, by have := h.times; simp [iG, iM, this], by have := h.diffs; simp [iG, iM, this], ?_, ?_⟩
 ·show bump b.kend = _
  rw [h.kend, List.map_append, List.map_append]
  show bump (jS 0 (_ ++ [rs.length])) = jS 0 (_ ++ [(rs ++ [(r, [(t, d)])]).length])
  rw [hO]
  simp
 ·show bump (b.ends ++ [(b.times.length : Int)]) = _
  have e : b.times.length = (((g ++ [(k0, rs)]).flatMap (·.2)).map (·.2.length)).sum := by rw [h.times, List.length_map, List.length_flatMap]
  have e2 : b.ends ++ [(b.times.length : Int)] = jS 0 (((g ++ [(k0, rs)]).flatMap (·.2)).map (·.2.length) ++ [0]) := by rw [gZ, h.ends, e]; simp
  rw [e2, hO]
  simp
 ·intro x hx
  rcases List.mem_append.1 hx with hx | hx
  ·exact h.ne1 x (List.mem_append_left _ hx)
  ·rw [List.mem_singleton.1 hx]; simp
 ·intro y hy
  have hy2 : y ∈ (g ++ [(k0, rs)]).flatMap (·.2) ∨ y = (r, [(t, d)]) := by
   simp at hy ⊢
   rcases hy with hy | hy | hy
   ·exact .inl (.inl hy)
   ·exact .inl (.inr hy)
   ·exact .inr hy
  rcases hy2 with hy2 | hy2
  ·exact h.ne2 y hy2
  ·rw [hy2]; simp
theorem zV (b : Bt) (g : Gr) (k0 : List S85) (rs : List Rst) (r0 : List S85) (ts : List (S59 × Int)) (h : Gs b (g ++ [(k0, rs ++ [(r0, ts)])])) (t : S59) (d : Int) : Gs (iG b t d) (g ++ [(k0, rs ++ [(r0, ts ++ [(t, d)])])]) := by
 refine ⟨by have := h.keys; simpa [iG] using this, by have := h.kend; simpa [iG] using this, by have := h.rests; simpa [iG] using this, ?_, by have := h.times; simp [iG, this], by have := h.diffs; simp [iG, this], ?_, ?_⟩
 ·show bump b.ends = _
  rw [h.ends]
  have e : ∀ q : List (S59 × Int), ((g ++ [(k0, rs ++ [(r0, q)])]).flatMap (·.2)).map (·.2.length) = ((g.flatMap (·.2)).map (·.2.length) ++ rs.map (·.2.length)) ++ [q.length] := by intro q; simp
  rw [e, e, hO]
  simp
 ·intro x hx
  rcases List.mem_append.1 hx with hx | hx
  ·exact h.ne1 x (List.mem_append_left _ hx)
  ·rw [List.mem_singleton.1 hx]; simp
 ·intro y hy
  have hy2 : y ∈ (g ++ [(k0, rs ++ [(r0, ts)])]).flatMap (·.2) ∨ y = (r0, ts ++ [(t, d)]) := by
   simp at hy ⊢
   rcases hy with hy | hy | hy
   ·exact .inl (.inl hy)
   ·exact .inl (.inr (.inl hy))
   ·exact .inr hy
  rcases hy2 with hy2 | hy2
  ·exact h.ne2 y hy2
  ·rw [hy2]; simp
end Go.Proofs.YtpflmgbpjhbmnaaGreat.B
end
section
namespace Go.Proofs.YtpflmgbpjhbmnaaGreat.B
open Go Go.RowKit Go.Proofs Go.Proofs.YtpflmgbpjhbmnaaGreatW.PrintWords
set_option linter.unusedVariables false
set_option linter.unusedSimpArgs false
theorem rF (l : List Nat) : ∀ (a i : Nat), i < l.length → (jS a l).getD i 0 = ((a + (l.take (i + 1)).sum : Nat) : Int) := by
 induction l with
 | nil => intro a i h; simp at h
 | cons n r ih =>
  intro a i h
  cases i with
  | zero => simp [jS]
  | succ i =>
   have h1 := ih (a + n) i (by simpa using h)
   simp only [jS, List.getD_cons_succ]
   rw [h1]
   simp [Nat.add_assoc]
theorem lH (l : List Nat) (i : Nat) (hi : i < l.length) (hl : l.length ≤ 1099511627776) : eZ.f (jS 0 l) (i : Int) = some ((((l.take i).sum : Nat) : Int), (((l.take (i + 1)).sum : Nat) : Int)) := by
 have hlen : ((jS 0 l).length : Int) = (l.length : Int) := by rw [rE]
 unfold eZ.f
 have h1 : rd (jS 0 l) (i : Int) = (((l.take (i + 1)).sum : Nat) : Int) := by
  have := rF l 0 i hi
  simpa [rd] using this
 by_cases h0 : (i : Int) > 0
 ·have hw : wrap64 ((i : Int) - 1) = ((i - 1 : Nat) : Int) := by unfold wrap64; omega
  have h2 : rd (jS 0 l) ((i - 1 : Nat) : Int) = (((l.take i).sum : Nat) : Int) := by
   have := rF l 0 (i - 1) (by omega)
   rw [show i - 1 + 1 = i by omega] at this
   simpa [rd] using this
  rw [if_pos h0, hw, hlen, if_pos (by omega), if_pos (by omega), if_pos (by omega), if_pos (by omega), h1, h2]
 ·have hz : i = 0 := by omega
  subst hz
  rw [if_neg h0, hlen, if_pos (by omega), if_pos (by omega), h1]
  rfl
theorem flat_get {α β : Type} (f : α → List β) : ∀ (g : List α) (i n : Nat) (hi : i < g.length), n < (f g[i]).length → (g.flatMap f)[((g.map (fun x => (f x).length)).take i).sum + n]? = (f g[i])[n]? := by
 intro g
 induction g with
 | nil => intro i n hi; simp at hi
 | cons x r ih =>
  intro i n hi hn
  cases i with
  | zero =>
   simp only [List.flatMap_cons, List.take_zero, List.sum_nil, Nat.zero_add, List.getElem_cons_zero] at hn ⊢
   rw [List.getElem?_append_left hn]
  | succ i =>
   have h1 := ih i n (by simpa using hi) (by simpa using hn)
   simp only [List.flatMap_cons, List.map_cons, List.take_succ_cons, List.sum_cons, List.getElem_cons_succ]
   rw [Nat.add_assoc, List.getElem?_append_right (by omega), Nat.add_sub_cancel_left]
   exact h1
theorem gN (l : List Nat) (i : Nat) (hi : i < l.length) : (l.take (i + 1)).sum = (l.take i).sum + l[i] := by
 have e : l.take (i + 1) = l.take i ++ [l[i]] := by rw [List.take_add_one, List.getElem?_eq_getElem hi]; rfl
 rw [e, List.sum_append]
 simp
theorem sF {α β : Type} (f : α → List β) : ∀ (g : List α) (i : Nat) (hi : i < g.length), ((g.flatMap f).take ((g.map (fun x => (f x).length)).take (i + 1)).sum).drop ((g.map (fun x => (f x).length)).take i).sum = f g[i] := by
 intro g
 induction g with
 | nil => intro i hi; simp at hi
 | cons x r ih =>
  intro i hi
  cases i with
  | zero => simp
  | succ i =>
   have h1 := ih i (by simpa using hi)
   simp only [List.flatMap_cons, List.map_cons, List.take_succ_cons, List.sum_cons, List.getElem_cons_succ]
   rw [List.take_length_add_append, List.drop_length_add_append]
   exact h1
theorem nI {α β : Type} (f : α → List β) (g : List α) (i : Nat) : ((g.map (fun x => (f x).length)).take i).sum ≤ (g.flatMap f).length := by
 rw [List.length_flatMap]
 induction g generalizing i with
 | nil => simp
 | cons x r ih =>
  cases i with
  | zero => simp
  | succ i => have := ih i; simp only [List.map_cons, List.take_succ_cons, List.sum_cons]; omega
end Go.Proofs.YtpflmgbpjhbmnaaGreat.B
end
section
namespace Go.Proofs.YtpflmgbpjhbmnaaGreat.B
open Go Go.RowKit Go.Proofs Go.Proofs.YtpflmgbpjhbmnaaGreatW.PrintWords Go.Proofs.YtpflmgbpjhbmnaaGreatW.PrintLast Go.Proofs.YtpflmgbpjhbmnaaGreatW.PrintMore
set_option linter.unusedVariables false
set_option linter.unusedSimpArgs false
set_option maxRecDepth 100000
def fN : List S59 → S59 → Bool
 | [], _ => false
 | x :: r, t => if x.f0 > t.f0 then false else if x.f1 ≤ t.f1 then true else fN r t
theorem fA (l : List S59) (i : Nat) (h : i < l.length) : bN l (i : Int) = l[i] := by
 simp [bN, List.getD, h]
theorem pW (f : List S59) (t : S59) (hf : f.length ≤ 1152921504606846976) : ∃ k, bE.f k f t.f0 t.f1 = some (fN f t) := by
 have h : ∀ (n i : Nat), i + n = f.length → bE.l0 (n + 1) f (f.length : Int) (i : Int) t.f0 t.f1 = some (fN (f.drop i) t) := by
  intro n
  induction n with
  | zero =>
   intro i hi
   unfold bE.l0
   rw [if_neg (by omega), List.drop_eq_nil_of_le (by omega)]
   rfl
  | succ n ih =>
   intro i hi
   have hlt : i < f.length := by omega
   have hw : wrap64 ((i : Int) + 1) = ((i + 1 : Nat) : Int) := by unfold wrap64; omega
   unfold bE.l0
   rw [if_pos (by omega), if_pos (by omega), if_pos (by omega), fA f i hlt, hw, ih (i + 1) (by omega), List.drop_eq_getElem_cons hlt]
   simp only [fN]
   by_cases h1 : f[i].f0 > t.f0
   ·rw [if_pos h1, if_pos h1]
   ·rw [if_neg h1, if_neg h1]
    by_cases h2 : f[i].f1 ≤ t.f1
    ·rw [if_pos h2, if_pos h2]
    ·rw [if_neg h2, if_neg h2]
 exact ⟨f.length + 1, by unfold bE.f; simpa using h f.length 0 (by omega)⟩
def jT : List S59 → List S59 → List S59
 | out, [] => out
 | out, t :: r => jT (if fN out t = true then out else out ++ [t]) r
def lI (l : List S59) : List S59 := jT [] (gS l)
def dZ.f (l : List S59) : Option (List S59) := if l.length ≤ 1099511627776 then some (lI l) else none
theorem dZ.f_some (l : List S59) (h : l.length ≤ 1099511627776) : dZ.f l = some (lI l) := if_pos h
theorem pX (A : Option Addr) (c : Nat) (f : List S59) (t : S59) (w : World) (hf : f.length ≤ 1152921504606846976) (hr : Kd.C k59 w A f.length f) (hc : f.length ≤ c) :
  Calls Tryz.prog 100 #[.slice A f.length c, .agg #[.int .i64 t.f0, .int .i64 t.f1]] w fun e w' => e = .returned (.bool (fN f t)) ∧ Below w.heap.size w w' := by
 obtain ⟨k, hk⟩ := pW f t hf
 exact bE.calls k A c f t.f0 t.f1 _ w hr hc hk
set_option maxHeartbeats 4000000 in
theorem dZ.calls (A0 : Option Addr) (c0 : Nat) (l0 : List S59) (r : List S59) (w : World) (hr0 : Kd.C k59 w A0 l0.length l0) (hc0 : l0.length ≤ c0) (h : dZ.f l0 = some r) :
  Calls Tryz.prog 74 #[.slice A0 l0.length c0] w fun e w' => ∃ v0_ : Value, e = .returned (v0_) ∧ Kd.R k59 59 w' w.heap.size (fun _ => True) v0_ r ∧ Below w.heap.size w w' := by
 unfold dZ.f at h
 split at h
 ·rename_i hl
  obtain rfl := Option.some.inj h
  clear h
  have HCl : aA (Calls Tryz.prog 55 #[.slice A0 l0.length c0] w fun e w' => ∃ (A : Option Addr) (c : Nat), e = .returned (.slice A l0.length c) ∧ l0.length ≤ c ∧ aA (Kd.R k59 59 w' w.heap.size (fun _ => True) (.slice A l0.length c) l0) ∧ aA (Below w.heap.size w w')) :=
   ⟨(cP.calls A0 c0 l0 l0 w hr0 hc0 (cP.f_some l0 (by omega))).mono fun e w' ⟨v, h1, h2, h3⟩ => by
    obtain ⟨A, c, rfl, hc, _⟩ := Kd.R_reads h2
    exact ⟨A, c, h1, hc, ⟨h2⟩, ⟨h3⟩⟩⟩
  have HS : aA (∀ (A : Option Addr) (c : Nat) (W : World), aA (Kd.R k59 59 W w.heap.size (fun _ => True) (.slice A l0.length c) l0) → aA (Below w.heap.size w W) → Calls Tryz.prog 98 #[.slice A l0.length c, .func (.func 99) #[] #[]] W fun e w' => e = .returned (.tuple #[]) ∧ aA (Kd.C k59 w' A l0.length (gS l0)) ∧ Below w.heap.size w w') :=
   ⟨fun A c W h1 h2 => (tW w.heap.size _ l0 _ w W h1.out h2.out h2.out.size (by omega)).mono fun e w' ⟨g1, g2, g3, _⟩ => by
    obtain ⟨q1, q2, q3⟩ := Kd.R_reads' g2
    exact ⟨g1, ⟨by rw [gX] at q3; exact q3⟩, g3⟩⟩
  have hsl : aA ((gS l0).length = l0.length) := ⟨gX l0⟩
  clear hr0
  generalize hS : lI l0 = R
  have HR : aA (jT [] (gS l0) = R) := ⟨hS⟩
  clear hS
  generalize gS l0 = S at *
  go_enter Tryz.func74, Tryz.ntmps74
  go_wp2_with (first
   | (go_at_call 55; refine HCl.out.mono ?_; rintro e w1 ⟨A1, c1, rfl, hc1, HO1, HB1⟩)
   | (go_at_call 98; refine (HS.out _ _ _ HO1 HB1).mono ?_; rintro e w2 ⟨rfl, HC2, hB2⟩))
  have HB0 := aA.mk (Below.refl w2.heap.size w2)
  go_loopw [3, 13] (fun v3 v13 wr => ∃ (i : Nat) (out : List S59), v13 = .int .i64 i ∧ i ≤ l0.length ∧ out.length ≤ i ∧ aA (jT out (S.drop i) = R) ∧ aA (Kd.R k59 59 wr w2.heap.size (fun _ => True) v3 out) ∧ aA (Below w2.heap.size w2 wr)) (fun v3 v13 wr => l0.length - (intOf v13).toNat)
  case atStart => exact ⟨0, [], rfl, by omega, by simp, by simpa using HR, ⟨Kd.R_nil _ _ _ _ _⟩, HB0⟩
  case round =>
   clear HR HB0 HCl HS HO1 HB1
   obtain ⟨i, out, rfl, hi, hol, HR, HO, HB⟩ := hrel
   obtain ⟨A3, c3, e3, hc3, hC3⟩ := Kd.R_reads HO.out
   subst e3
   by_cases hlt : i < l0.length
   ·have hb1 : decide ((i : Int) < (l0.length : Int)) = true := decide_eq_true (by omega)
    have hb2 : decide (i < l0.length) = true := decide_eq_true hlt
    have hls : i < S.length := by have := hsl.out; omega
    obtain ⟨ad, e, hx0, hx1⟩ := dW HC2.out (i : Int) (by omega) (by omega)
    cases e
    replace hx0 := aH HB.out hx0
    replace hx1 := aH HB.out hx1
    rw [Int.toNat_natCast, fA S i hls] at hx0 hx1
    have HD : aA (S.drop i = S[i] :: S.drop (i + 1)) := ⟨List.drop_eq_getElem_cons hls⟩
    clear hsl
    generalize S[i] = t at hx0 hx1 HD
    obtain ⟨te, tr⟩ := t
    dsimp only at hx0 hx1
    have HOL : aA (out.length ≤ 1099511627776) := ⟨by omega⟩
    have HA : aA (∀ W, Below wr.heap.size wr W → Calls Tryz.prog 100 #[.slice A3 out.length c3, .agg #[.int .i64 te, .int .i64 tr]] W fun e w' => e = .returned (.bool (fN out ⟨te, tr⟩)) ∧ aA (Below wr.heap.size wr w') ∧ aA (Below W.heap.size W w')) :=
     ⟨fun W hW => (pX A3 c3 out ⟨te, tr⟩ W (by have := HOL.out; omega) (Kd.C_below hC3 hW) hc3).mono fun e w' ⟨g1, g2⟩ => ⟨g1, ⟨hW.trans (g2.mono hW.size)⟩, ⟨g2⟩⟩⟩
    have hbx : Below wr.heap.size wr (wr.alloc (.cells #[.int .i64 te, .int .i64 tr] 59)) := (Below.refl _ _).alloc (Nat.le_refl _) _
    have HY : aA (∀ W, Below (wr.alloc (.cells #[.int .i64 te, .int .i64 tr] 59)).heap.size (wr.alloc (.cells #[.int .i64 te, .int .i64 tr] 59)) W → W.cell? ⟨wr.heap.size, 0, none⟩ = some (.int .i64 te) ∧ W.cell? ⟨wr.heap.size, 1, none⟩ = some (.int .i64 tr)) :=
     ⟨fun W hW => ⟨aH hW (by simp), aH hW (by simp)⟩⟩
    cases ha : fN out ⟨te, tr⟩ with
    | true =>
     rw [ha] at HA
     have HN : aA (jT out (S.drop (i + 1)) = R) := ⟨by have := HR.out; rw [HD.out] at this; simpa [jT, ha] using this⟩
     clear ha HR HD
     go_wp2_with (go_at_call 100; refine (HA.out _ hbx).mono ?_; rintro e w3 ⟨rfl, HB3, HB4⟩)
     go_roundw
     case rel => exact ⟨i + 1, out, by go_num, by omega, by omega, HN, ⟨Kd.R_below HO.out HB3.out⟩, ⟨HB.out.trans (HB3.out.mono HB.out.size)⟩⟩
     case measure => simp [intOf]; omega
    | false =>
     rw [ha] at HA
     have HN : aA (jT (out ++ [⟨te, tr⟩]) (S.drop (i + 1)) = R) := ⟨by have := HR.out; rw [HD.out] at this; simpa [jT, ha] using this⟩
     clear ha HR HD
     go_wp2_with (first
      | (go_at_call 100; refine (HA.out _ hbx).mono ?_; rintro e w3 ⟨rfl, HB3, HB4⟩; obtain ⟨hy0, hy1⟩ := HY.out _ HB4.out)
      | ((with_reducible refine cI (b := .append) (xs := #[.tmp 23, .tmp 25]) rfl ?_); at_builtin; refine Kd.R_append k59 (w0 := w2) w2.heap.size rfl (.tmp 23) (.tmp 25) 141 59 (.agg #[(.int .i64 0), (.int .i64 0)]) 16 rfl Tryz.underlying141 fZ rfl (by decide) (by omega) (.slice A3 out.length c3) out ⟨te, tr⟩ [.int .i64 te, .int .i64 tr] (fun _ => True) (fun _ => False) rfl rfl (gI _ _ _ ⟨te, tr⟩) (fun _ hk => hk.elim) (fun _ _ => trivial) (Kd.R_below HO.out HB3.out) (HB.out.trans (HB3.out.mono HB.out.size)) (HB.out.trans (HB3.out.mono HB.out.size)).size (by have := HOL.out; omega) ?_; intro v4 w4 ho hb hg hat; have HO4 := aA.mk ho; have HB5 := aA.mk hb; clear ho hb hg hat))
     go_roundw
     case rel => exact ⟨i + 1, _, by go_num, by omega, by simp; omega, HN, HO4, HB5⟩
     case measure => simp [intOf]; omega
   ·have hin : i = l0.length := by omega
    subst hin
    have hb1 : decide ((l0.length : Int) < (l0.length : Int)) = false := decide_eq_false (by omega)
    have HE : aA (out = R) := ⟨by have := HR.out; rwa [List.drop_eq_nil_of_le (by have := hsl.out; omega)] at this⟩
    clear HR
    go_wp2
    go_ret
    exact ⟨_, rfl, by rw [← HE.out]; exact Kd.R_lower HO.out hB2.size, hB2.trans (HB.out.mono hB2.size)⟩
 ·cases h
end Go.Proofs.YtpflmgbpjhbmnaaGreat.B
end
