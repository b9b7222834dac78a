/- NewB, Grp, Span, Front. -/
import Derived.Test.YtpflmgbpjhbmnaaQBb21
import Derived.Test.YtpflmgbpjhbmnaaQBb7
import Derived.Test.YtpflmgbpjhbmnaaQBb6
section
namespace Go.Proofs.Ytpflmgbpjhbmnaa.B
open Go Go.RowKit Go.Proofs Go.Proofs.YtpflmgbpjhbmnaaW.PrintWords Go.Proofs.Ytpflmgbpjhbmnaa.Stab
set_option linter.unusedVariables false
set_option linter.unusedSimpArgs false
theorem bump_len (l : List Int) : (bump l).length = l.length := by simp [bump]
theorem bump_last (l : List Int) (h : 0 < l.length) : (bump l).getD ((bump l).length - 1) 0 = l.getD (l.length - 1) 0 + 1 := by
 unfold bump
 rw [List.length_set]
 simp [List.getD_eq_getElem?_getD, List.getElem?_set, show l.length - 1 < l.length by omega]
theorem addK_mem {b : Bt} {k r : List S56} (h : r ∈ (addK b k).keys) : r ∈ b.keys ∨ r = k := by simpa [addK] using h
theorem addB_vd (b : Bt) (u : S50) (hv : Vd b) (hu : u.f0.length ≤ 1099511627776) : Vd (addB b u) := by
 have h1 := hv.kl
 have h2 := hv.el
 have h3 := hv.dl
 have h4 := hv.kr
 have h5 := hv.rt
 have h6 := hv.kk
 have h7 := hv.lk
 have h8 := hv.le
 have hk : (u.f0.take b.key.toNat).length ≤ 1099511627776 := by rw [List.length_take]; omega
 have hr : (u.f0.drop b.key.toNat).length ≤ 1099511627776 := by rw [List.length_drop]; omega
 unfold addB
 dsimp only
 generalize u.f0.take b.key.toNat = k at hk ⊢
 generalize u.f0.drop b.key.toNat = r at hr ⊢
 have stT : ∀ (c : Bt), Vd c → 0 < c.ends.length → Vd (addT c u.f1 u.f2) := by
  intro c hc h0
  refine ⟨hc.kl, by simp [addT, bump_len, hc.el], by simp [addT, hc.dl], hc.kr, by have := hc.rt; simp [addT]; omega, hc.kk, hc.lk, fun _ => ?_, hc.wk, hc.wr⟩
  show (bump c.ends).getD ((bump c.ends).length - 1) 0 = ((c.times ++ [u.f1]).length : Int)
  rw [bump_last _ h0, hc.le h0]
  simp
 -- a rest that is new: the times are still to come
 have stR : ∀ (c : Bt), c.kend.length = c.keys.length → c.ends.length = c.rests.length → c.diffs.length = c.times.length → c.keys.length ≤ c.rests.length + 1 → c.rests.length ≤ c.times.length → 0 < c.keys.length → c.kend.getD (c.kend.length - 1) 0 = c.rests.length →
   (∀ r ∈ c.keys, r.length ≤ 1099511627776) → (∀ r ∈ c.rests, r.length ≤ 1099511627776) → Vd (addT (addR c r) u.f1 u.f2) := by
  intro c a1 a2 a3 a4 a5 a6 a7 a8 a9
  have e1 : (addR c r).ends.length = c.ends.length + 1 := by simp [addR]
  refine ⟨by simp [addT, addR, bump_len, a1], by simp [addT, addR, bump_len, a2], by simp [addT, addR, a3], by simp [addT, addR]; omega, by simp [addT, addR]; omega, fun e => absurd e (by show c.keys.length ≠ 0; omega), fun _ => ?_, fun _ => ?_, a8, ?_⟩
  ·show (bump c.kend).getD ((bump c.kend).length - 1) 0 = ((c.rests ++ [r]).length : Int)
   rw [bump_last _ (by omega), a7]
   simp
  ·show (bump (addR c r).ends).getD ((bump (addR c r).ends).length - 1) 0 = (((addR c r).times ++ [u.f1]).length : Int)
   rw [bump_last _ (by omega), e1]
   simp [addR]
  ·intro q hq
   have hq : q ∈ c.rests ++ [r] := hq
   rcases List.mem_append.1 hq with hq | hq
   ·exact a9 q hq
   ·rw [List.mem_singleton.1 hq]; exact hr
 cases hf : isNew b.keys k with
 | true =>
  rw [if_pos rfl]
  refine stR (addK b k) (by simp [addK, h1]) h2 h3 (by simp [addK]; omega) h5 (by simp [addK]) (by simp [addK]) ?_ hv.wr
  intro q hq
  rcases addK_mem hq with hq | hq
  ·exact hv.wk q hq
  ·rw [hq]; exact hk
 | false =>
  rw [if_neg (by decide)]
  have hk9 : b.keys.length ≠ 0 := fun e => by
   unfold isNew at hf
   rw [if_pos e] at hf
   cases hf
  cases hg : isNew b.rests r with
  | true =>
   rw [if_pos rfl]
   exact stR b h1 h2 h3 (by omega) h5 (by omega) (h7 (by omega)) hv.wk hv.wr
  | false =>
   rw [if_neg (by decide)]
   exact stT b hv (by omega)
theorem addB_key (b : Bt) (u : S50) : (addB b u).key = b.key ∧ (addB b u).weight = b.weight ∧ (addB b u).since = b.since ∧ (addB b u).times = b.times ++ [u.f1] ∧ (addB b u).diffs = b.diffs ++ [u.f2] := by
 unfold addB
 dsimp only
 split
 ·exact ⟨rfl, rfl, rfl, rfl, rfl⟩
 ·split
  ·exact ⟨rfl, rfl, rfl, rfl, rfl⟩
  ·exact ⟨rfl, rfl, rfl, rfl, rfl⟩
def Bt.none_ (key weight : Int) (since : List S48) : Bt := ⟨key, weight, since, [], [], [], [], [], []⟩
theorem none_vd (key weight : Int) (since : List S48) : Vd (Bt.none_ key weight since) :=
 ⟨rfl, rfl, rfl, Nat.le_refl _, Nat.le_refl _, fun _ => rfl, fun h => absurd h (Nat.lt_irrefl 0), fun h => absurd h (Nat.lt_irrefl 0), fun _ h => absurd h List.not_mem_nil, fun _ h => absurd h List.not_mem_nil⟩
def addAll (b : Bt) (l : List S50) : Bt := l.foldl addB b
theorem addAll_snoc (b : Bt) (l : List S50) (u : S50) : addAll b (l ++ [u]) = addB (addAll b l) u := by simp [addAll]
theorem addAll_vd (l : List S50) : ∀ (b : Bt), Vd b → (∀ u ∈ l, u.f0.length ≤ 1099511627776) → Vd (addAll b l) := by
 induction l with
 | nil => exact fun b hv _ => hv
 | cons u r ih => exact fun b hv hu => ih _ (addB_vd b u hv (hu u List.mem_cons_self)) (fun x hx => hu x (List.mem_cons_of_mem _ hx))
theorem addAll_key (l : List S50) : ∀ (b : Bt), (addAll b l).key = b.key ∧ (addAll b l).weight = b.weight ∧ (addAll b l).since = b.since ∧ (addAll b l).times = b.times ++ l.map (·.f1) ∧ (addAll b l).diffs = b.diffs ++ l.map (·.f2) := by
 induction l with
 | nil => intro b; simp [addAll]
 | cons u r ih =>
  intro b
  obtain ⟨h1, h2, h3, h4, h5⟩ := ih (addB b u)
  obtain ⟨g1, g2, g3, g4, g5⟩ := addB_key b u
  refine ⟨h1.trans g1, h2.trans g2, h3.trans g3, ?_, ?_⟩
  ·show (addAll (addB b u) r).times = _
   rw [h4, g4]; simp
  ·show (addAll (addB b u) r).diffs = _
   rw [h5, g5]; simp
theorem oneRun_mem {l x : List S50} (hl : l ≠ []) (h : oneRun l = some x) (u : S50) (hu : u ∈ x) : ∃ v ∈ l, u.f0 = v.f0 ∧ u.f1 = v.f1 := by
 unfold oneRun at h
 cases hs : sumW 0 l with
 | none => rw [hs] at h; cases h
 | some n =>
  rw [hs] at h
  dsimp only at h
  split at h
  ·cases h; cases hu
  ·cases h
   rw [List.mem_singleton.1 hu]
   cases l with
   | nil => exact absurd rfl hl
   | cons a t => exact ⟨a, List.mem_cons_self, rfl, rfl⟩
theorem consR_mem (ls : List (List S50)) : ∀ (out z : List S50), (∀ l ∈ ls, l ≠ []) → consR out ls = some z → ∀ u ∈ z, u ∈ out ∨ ∃ l ∈ ls, ∃ v ∈ l, u.f0 = v.f0 ∧ u.f1 = v.f1 := by
 induction ls with
 | nil => intro out z _ h u hu; cases h; exact .inl hu
 | cons l r ih =>
  intro out z hne h u hu
  simp only [consR] at h
  cases ho : oneRun l with
  | none => rw [ho] at h; cases h
  | some x =>
   rw [ho] at h
   rcases ih (out ++ x) z (fun q hq => hne q (List.mem_cons_of_mem _ hq)) h u hu with h1 | ⟨q, hq, v, hv, e⟩
   ·rcases List.mem_append.1 h1 with h1 | h1
    ·exact .inl h1
    ·obtain ⟨v, hv, e⟩ := oneRun_mem (hne l List.mem_cons_self) ho u h1
     exact .inr ⟨l, List.mem_cons_self, v, hv, e⟩
   ·exact .inr ⟨q, List.mem_cons_of_mem _ hq, v, hv, e⟩
theorem grpU_mem : ∀ (k : Nat) (z l : List S50), l ∈ grpU k z → l ≠ [] ∧ ∀ v ∈ l, v ∈ z := by
 intro k
 induction k with
 | zero => intro z l h; cases h
 | succ k ih =>
  intro z l h
  cases z with
  | nil => cases h
  | cons x r =>
   rcases List.mem_cons.1 h with h | h
   ·subst h
    refine ⟨fun e => ?_, fun v hv => List.mem_of_mem_take hv⟩
    have h1 := congrArg List.length e
    have h2 : 1 ≤ grp ordU x r := by unfold grp; omega
    simp at h1
    omega
   ·obtain ⟨h1, h2⟩ := ih _ _ h
    exact ⟨h1, fun v hv => List.mem_of_mem_drop (h2 v hv)⟩
theorem grpU_len : ∀ (k : Nat) (z : List S50), (grpU k z).length ≤ k := by
 intro k
 induction k with
 | zero => intro z; exact Nat.le_refl _
 | succ k ih =>
  intro z
  cases z with
  | nil => exact Nat.zero_le _
  | cons x r => exact Nat.succ_le_succ (ih _)
theorem consU_len (l : List S50) : (consU l).1.length ≤ l.length := by
 unfold consU
 cases h : consR [] (grpU l.length (sortU l)) with
 | none => exact Nat.zero_le _
 | some z =>
  have h1 := consR_len _ _ _ h
  have h2 := grpU_len l.length (sortU l)
  show z.length ≤ l.length
  simp at h1
  omega
theorem consU_mem (l : List S50) (u : S50) (hu : u ∈ (consU l).1) : ∃ v ∈ l, u.f0 = v.f0 ∧ u.f1 = v.f1 := by
 unfold consU at hu
 cases h : consR [] (grpU l.length (sortU l)) with
 | none => rw [h] at hu; cases hu
 | some z =>
  rw [h] at hu
  rcases consR_mem _ [] z (fun q hq => (grpU_mem _ _ q hq).1) h u hu with h1 | ⟨q, hq, v, hv, e⟩
  ·cases h1
  ·exact ⟨v, (sortS_mem _ v).1 ((grpU_mem _ _ q hq).2 v hv), e⟩
end Go.Proofs.Ytpflmgbpjhbmnaa.B
end
section
namespace Go.Proofs.Ytpflmgbpjhbmnaa.B
open Go Go.RowKit Go.Proofs Go.Proofs.YtpflmgbpjhbmnaaW.PrintWords
set_option linter.unusedVariables false
set_option linter.unusedSimpArgs false
def psum : Nat → List Nat → List Int
 | _, [] => []
 | a, n :: r => ((a + n : Nat) : Int) :: psum (a + n) r
theorem psum_snoc (l : List Nat) : ∀ (a n : Nat), psum a (l ++ [n]) = psum a l ++ [((a + l.sum + n : Nat) : Int)] := by
 induction l with
 | nil => intro a n; simp [psum]
 | cons x r ih => intro a n; simp [psum, ih, Nat.add_assoc]
theorem psum_len (l : List Nat) : ∀ a, (psum a l).length = l.length := by
 induction l with
 | nil => intro a; rfl
 | cons x r ih => intro a; simp [psum, ih]
theorem bump_psum (l : List Nat) (n : Nat) : bump (psum 0 (l ++ [n])) = psum 0 (l ++ [n + 1]) := by
 rw [psum_snoc, psum_snoc]
 unfold bump
 have h : (psum 0 l ++ [((0 + l.sum + n : Nat) : Int)]).length - 1 = (psum 0 l).length := by simp
 rw [h]
 simp [List.getD_eq_getElem?_getD, List.set_append]
 omega
abbrev Rst := List S56 × List (S48 × Int)
abbrev Gr := List (List S56 × List Rst)
structure Gs (b : Bt) (g : Gr) : Prop where
 keys : b.keys = g.map (·.1)
 kend : b.kend = psum 0 (g.map (·.2.length))
 rests : b.rests = (g.flatMap (·.2)).map (·.1)
 ends : b.ends = psum 0 ((g.flatMap (·.2)).map (·.2.length))
 times : b.times = ((g.flatMap (·.2)).flatMap (·.2)).map (·.1)
 diffs : b.diffs = ((g.flatMap (·.2)).flatMap (·.2)).map (·.2)
 ne1 : ∀ x ∈ g, x.2 ≠ []
 ne2 : ∀ y ∈ g.flatMap (·.2), y.2 ≠ []
theorem none_gs (key weight : Int) (since : List S48) : Gs (Bt.none_ key weight since) [] :=
 ⟨rfl, rfl, rfl, rfl, rfl, rfl, fun _ h => absurd h List.not_mem_nil, fun _ h => absurd h List.not_mem_nil⟩
theorem gs_new (b : Bt) (g : Gr) (h : Gs b g) (k r : List S56) (t : S48) (d : Int) : Gs (addT (addR (addK b k) r) t d) (g ++ [(k, [(r, [(t, d)])])]) := by
 refine ⟨by simp [addT, addR, addK, h.keys], ?_, by simp [addT, addR, addK, h.rests], ?_, by simp [addT, addR, addK, h.times], by simp [addT, addR, addK, h.diffs], ?_, ?_⟩
 ·show bump (b.kend ++ [(b.rests.length : Int)]) = _
  rw [h.kend, List.map_append]
  have e : b.rests.length = (g.map (·.2.length)).sum := by rw [h.rests, List.length_map, List.length_flatMap]
  have e2 : psum 0 (g.map (·.2.length)) ++ [(b.rests.length : Int)] = psum 0 (g.map (·.2.length) ++ [0]) := by rw [psum_snoc, e]; simp
  rw [e2, bump_psum]
  rfl
 ·show bump (b.ends ++ [(b.times.length : Int)]) = _
  rw [h.ends, List.flatMap_append, List.map_append]
  have e : b.times.length = ((g.flatMap (·.2)).map (·.2.length)).sum := by rw [h.times, List.length_map, List.length_flatMap]
  have e2 : psum 0 ((g.flatMap (·.2)).map (·.2.length)) ++ [(b.times.length : Int)] = psum 0 ((g.flatMap (·.2)).map (·.2.length) ++ [0]) := by rw [psum_snoc, e]; simp
  rw [e2, bump_psum]
  rfl
 ·intro x hx
  rcases List.mem_append.1 hx with hx | hx
  ·exact h.ne1 x hx
  ·rw [List.mem_singleton.1 hx]; simp
 ·intro y hy
  rw [List.flatMap_append] at hy
  rcases List.mem_append.1 hy with hy | hy
  ·exact h.ne2 y hy
  ·simp at hy; rw [hy]; simp
theorem gs_rest (b : Bt) (g : Gr) (k0 : List S56) (rs : List Rst) (h : Gs b (g ++ [(k0, rs)])) (r : List S56) (t : S48) (d : Int) : Gs (addT (addR b r) t d) (g ++ [(k0, rs ++ [(r, [(t, d)])])]) := by
 refine ⟨by have := h.keys; simpa [addT, addR] using this, ?_, by have := h.rests; simp [addT, addR, this], ?_, by have := h.times; simp [addT, addR, this], by have := h.diffs; simp [addT, addR, this], ?_, ?_⟩
 ·show bump b.kend = _
  rw [h.kend, List.map_append, List.map_append]
  show bump (psum 0 (_ ++ [rs.length])) = psum 0 (_ ++ [(rs ++ [(r, [(t, d)])]).length])
  rw [bump_psum]
  simp
 ·show bump (b.ends ++ [(b.times.length : Int)]) = _
  have e : b.times.length = (((g ++ [(k0, rs)]).flatMap (·.2)).map (·.2.length)).sum := by rw [h.times, List.length_map, List.length_flatMap]
  have e2 : b.ends ++ [(b.times.length : Int)] = psum 0 (((g ++ [(k0, rs)]).flatMap (·.2)).map (·.2.length) ++ [0]) := by rw [psum_snoc, h.ends, e]; simp
  rw [e2, bump_psum]
  simp
 ·intro x hx
  rcases List.mem_append.1 hx with hx | hx
  ·exact h.ne1 x (List.mem_append_left _ hx)
  ·rw [List.mem_singleton.1 hx]; simp
 ·intro y hy
  have hy2 : y ∈ (g ++ [(k0, rs)]).flatMap (·.2) ∨ y = (r, [(t, d)]) := by
   simp at hy ⊢
   rcases hy with hy | hy | hy
   ·exact .inl (.inl hy)
   ·exact .inl (.inr hy)
   ·exact .inr hy
  rcases hy2 with hy2 | hy2
  ·exact h.ne2 y hy2
  ·rw [hy2]; simp
theorem gs_time (b : Bt) (g : Gr) (k0 : List S56) (rs : List Rst) (r0 : List S56) (ts : List (S48 × Int)) (h : Gs b (g ++ [(k0, rs ++ [(r0, ts)])])) (t : S48) (d : Int) : Gs (addT b t d) (g ++ [(k0, rs ++ [(r0, ts ++ [(t, d)])])]) := by
 refine ⟨by have := h.keys; simpa [addT] using this, by have := h.kend; simpa [addT] using this, by have := h.rests; simpa [addT] using this, ?_, by have := h.times; simp [addT, this], by have := h.diffs; simp [addT, this], ?_, ?_⟩
 ·show bump b.ends = _
  rw [h.ends]
  have e : ∀ q : List (S48 × Int), ((g ++ [(k0, rs ++ [(r0, q)])]).flatMap (·.2)).map (·.2.length) = ((g.flatMap (·.2)).map (·.2.length) ++ rs.map (·.2.length)) ++ [q.length] := by intro q; simp
  rw [e, e, bump_psum]
  simp
 ·intro x hx
  rcases List.mem_append.1 hx with hx | hx
  ·exact h.ne1 x (List.mem_append_left _ hx)
  ·rw [List.mem_singleton.1 hx]; simp
 ·intro y hy
  have hy2 : y ∈ (g ++ [(k0, rs ++ [(r0, ts)])]).flatMap (·.2) ∨ y = (r0, ts ++ [(t, d)]) := by
   simp at hy ⊢
   rcases hy with hy | hy | hy
   ·exact .inl (.inl hy)
   ·exact .inl (.inr (.inl hy))
   ·exact .inr hy
  rcases hy2 with hy2 | hy2
  ·exact h.ne2 y hy2
  ·rw [hy2]; simp
end Go.Proofs.Ytpflmgbpjhbmnaa.B
end
section
namespace Go.Proofs.Ytpflmgbpjhbmnaa.B
open Go Go.RowKit Go.Proofs Go.Proofs.YtpflmgbpjhbmnaaW.PrintWords
set_option linter.unusedVariables false
set_option linter.unusedSimpArgs false
theorem psum_get (l : List Nat) : ∀ (a i : Nat), i < l.length → (psum a l).getD i 0 = ((a + (l.take (i + 1)).sum : Nat) : Int) := by
 induction l with
 | nil => intro a i h; simp at h
 | cons n r ih =>
  intro a i h
  cases i with
  | zero => simp [psum]
  | succ i =>
   have h1 := ih (a + n) i (by simpa using h)
   simp only [psum, List.getD_cons_succ]
   rw [h1]
   simp [Nat.add_assoc]
theorem span_psum (l : List Nat) (i : Nat) (hi : i < l.length) (hl : l.length ≤ 1099511627776) : batch_span.f (psum 0 l) (i : Int) = some ((((l.take i).sum : Nat) : Int), (((l.take (i + 1)).sum : Nat) : Int)) := by
 have hlen : ((psum 0 l).length : Int) = (l.length : Int) := by rw [psum_len]
 unfold batch_span.f
 have h1 : rd (psum 0 l) (i : Int) = (((l.take (i + 1)).sum : Nat) : Int) := by
  have := psum_get l 0 i hi
  simpa [rd] using this
 by_cases h0 : (i : Int) > 0
 ·have hw : wrap64 ((i : Int) - 1) = ((i - 1 : Nat) : Int) := by unfold wrap64; omega
  have h2 : rd (psum 0 l) ((i - 1 : Nat) : Int) = (((l.take i).sum : Nat) : Int) := by
   have := psum_get l 0 (i - 1) (by omega)
   rw [show i - 1 + 1 = i by omega] at this
   simpa [rd] using this
  rw [if_pos h0, hw, hlen, if_pos (by omega), if_pos (by omega), if_pos (by omega), if_pos (by omega), h1, h2]
 ·have hz : i = 0 := by omega
  subst hz
  rw [if_neg h0, hlen, if_pos (by omega), if_pos (by omega), h1]
  rfl
theorem flat_get {α β : Type} (f : α → List β) : ∀ (g : List α) (i n : Nat) (hi : i < g.length), n < (f g[i]).length → (g.flatMap f)[((g.map (fun x => (f x).length)).take i).sum + n]? = (f g[i])[n]? := by
 intro g
 induction g with
 | nil => intro i n hi; simp at hi
 | cons x r ih =>
  intro i n hi hn
  cases i with
  | zero =>
   simp only [List.flatMap_cons, List.take_zero, List.sum_nil, Nat.zero_add, List.getElem_cons_zero] at hn ⊢
   rw [List.getElem?_append_left hn]
  | succ i =>
   have h1 := ih i n (by simpa using hi) (by simpa using hn)
   simp only [List.flatMap_cons, List.map_cons, List.take_succ_cons, List.sum_cons, List.getElem_cons_succ]
   rw [Nat.add_assoc, List.getElem?_append_right (by omega), Nat.add_sub_cancel_left]
   exact h1
theorem take_sum_le (l : List Nat) (i : Nat) (hi : i < l.length) : (l.take (i + 1)).sum = (l.take i).sum + l[i] := by
 have e : l.take (i + 1) = l.take i ++ [l[i]] := by rw [List.take_add_one, List.getElem?_eq_getElem hi]; rfl
 rw [e, List.sum_append]
 simp
theorem flat_slice {α β : Type} (f : α → List β) : ∀ (g : List α) (i : Nat) (hi : i < g.length), ((g.flatMap f).take ((g.map (fun x => (f x).length)).take (i + 1)).sum).drop ((g.map (fun x => (f x).length)).take i).sum = f g[i] := by
 intro g
 induction g with
 | nil => intro i hi; simp at hi
 | cons x r ih =>
  intro i hi
  cases i with
  | zero => simp
  | succ i =>
   have h1 := ih i (by simpa using hi)
   simp only [List.flatMap_cons, List.map_cons, List.take_succ_cons, List.sum_cons, List.getElem_cons_succ]
   rw [List.take_length_add_append, List.drop_length_add_append]
   exact h1
theorem flat_end {α β : Type} (f : α → List β) (g : List α) (i : Nat) : ((g.map (fun x => (f x).length)).take i).sum ≤ (g.flatMap f).length := by
 rw [List.length_flatMap]
 induction g generalizing i with
 | nil => simp
 | cons x r ih =>
  cases i with
  | zero => simp
  | succ i => have := ih i; simp only [List.map_cons, List.take_succ_cons, List.sum_cons]; omega
end Go.Proofs.Ytpflmgbpjhbmnaa.B
end
section
namespace Go.Proofs.Ytpflmgbpjhbmnaa.B
open Go Go.RowKit Go.Proofs Go.Proofs.YtpflmgbpjhbmnaaW.PrintWords Go.Proofs.YtpflmgbpjhbmnaaW.PrintLast Go.Proofs.YtpflmgbpjhbmnaaW.PrintMore
set_option linter.unusedVariables false
set_option linter.unusedSimpArgs false
set_option maxRecDepth 100000
def aheadF : List S48 → S48 → Bool
 | [], _ => false
 | x :: r, t => if x.f0 > t.f0 then false else if x.f1 ≤ t.f1 then true else aheadF r t
theorem rdT_nat (l : List S48) (i : Nat) (h : i < l.length) : rd_T48 l (i : Int) = l[i] := by
 simp [rd_T48, List.getD, h]
theorem aheadF_pure (f : List S48) (t : S48) (hf : f.length ≤ 1152921504606846976) : ∃ k, front_antichain_ahead.f k f t.f0 t.f1 = some (aheadF f t) := by
 have h : ∀ (n i : Nat), i + n = f.length → front_antichain_ahead.l0 (n + 1) f (f.length : Int) (i : Int) t.f0 t.f1 = some (aheadF (f.drop i) t) := by
  intro n
  induction n with
  | zero =>
   intro i hi
   unfold front_antichain_ahead.l0
   rw [if_neg (by omega), List.drop_eq_nil_of_le (by omega)]
   rfl
  | succ n ih =>
   intro i hi
   have hlt : i < f.length := by omega
   have hw : wrap64 ((i : Int) + 1) = ((i + 1 : Nat) : Int) := by unfold wrap64; omega
   unfold front_antichain_ahead.l0
   rw [if_pos (by omega), if_pos (by omega), if_pos (by omega), rdT_nat f i hlt, hw, ih (i + 1) (by omega), List.drop_eq_getElem_cons hlt]
   simp only [aheadF]
   by_cases h1 : f[i].f0 > t.f0
   ·rw [if_pos h1, if_pos h1]
   ·rw [if_neg h1, if_neg h1]
    by_cases h2 : f[i].f1 ≤ t.f1
    ·rw [if_pos h2, if_pos h2]
    ·rw [if_neg h2, if_neg h2]
 exact ⟨f.length + 1, by unfold front_antichain_ahead.f; simpa using h f.length 0 (by omega)⟩
def newGo : List S48 → List S48 → List S48
 | out, [] => out
 | out, t :: r => newGo (if aheadF out t = true then out else out ++ [t]) r
def newF (l : List S48) : List S48 := newGo [] (sortT l)
def front_New.f (l : List S48) : Option (List S48) := if l.length ≤ 1099511627776 then some (newF l) else none
theorem front_New.f_some (l : List S48) (h : l.length ≤ 1099511627776) : front_New.f l = some (newF l) := if_pos h
theorem ahead_calls (A : Option Addr) (c : Nat) (f : List S48) (t : S48) (w : World) (hf : f.length ≤ 1152921504606846976) (hr : Kd.C k48 w A f.length f) (hc : f.length ≤ c) :
  Calls Try.prog 105 #[.slice A f.length c, .agg #[.int .i64 t.f0, .int .i64 t.f1]] w fun e w' => e = .returned (.bool (aheadF f t)) ∧ Below w.heap.size w w' := by
 obtain ⟨k, hk⟩ := aheadF_pure f t hf
 exact front_antichain_ahead.calls k A c f t.f0 t.f1 _ w hr hc hk
set_option maxHeartbeats 4000000 in
theorem front_New.calls (A0 : Option Addr) (c0 : Nat) (l0 : List S48) (r : List S48) (w : World) (hr0 : Kd.C k48 w A0 l0.length l0) (hc0 : l0.length ≤ c0) (h : front_New.f l0 = some r) :
  Calls Try.prog 67 #[.slice A0 l0.length c0] w fun e w' => ∃ v0_ : Value, e = .returned (v0_) ∧ Kd.R k48 48 w' w.heap.size (fun _ => True) v0_ r ∧ Below w.heap.size w w' := by
 unfold front_New.f at h
 split at h
 ·rename_i hl
  obtain rfl := Option.some.inj h
  clear h
  have HCl : Aside0 (Calls Try.prog 65 #[.slice A0 l0.length c0] w fun e w' => ∃ (A : Option Addr) (c : Nat), e = .returned (.slice A l0.length c) ∧ l0.length ≤ c ∧ Aside0 (Kd.R k48 48 w' w.heap.size (fun _ => True) (.slice A l0.length c) l0) ∧ Aside0 (Below w.heap.size w w')) :=
   ⟨(slices_Clone_Time.calls A0 c0 l0 l0 w hr0 hc0 (slices_Clone_Time.f_some l0 (by omega))).mono fun e w' ⟨v, h1, h2, h3⟩ => by
    obtain ⟨A, c, rfl, hc, _⟩ := Kd.R_reads h2
    exact ⟨A, c, h1, hc, ⟨h2⟩, ⟨h3⟩⟩⟩
  have HS : Aside0 (∀ (A : Option Addr) (c : Nat) (W : World), Aside0 (Kd.R k48 48 W w.heap.size (fun _ => True) (.slice A l0.length c) l0) → Aside0 (Below w.heap.size w W) → Calls Try.prog 103 #[.slice A l0.length c, .func (.func 104) #[] #[]] W fun e w' => e = .returned (.tuple #[]) ∧ Aside0 (Kd.C k48 w' A l0.length (sortT l0)) ∧ Below w.heap.size w w') :=
   ⟨fun A c W h1 h2 => (sortTimes w.heap.size _ l0 _ w W h1.out h2.out h2.out.size (by omega)).mono fun e w' ⟨g1, g2, g3, _⟩ => by
    obtain ⟨q1, q2, q3⟩ := Kd.R_reads' g2
    exact ⟨g1, ⟨by rw [sortT_len] at q3; exact q3⟩, g3⟩⟩
  have hsl : Aside0 ((sortT l0).length = l0.length) := ⟨sortT_len l0⟩
  clear hr0
  generalize hS : newF l0 = R
  have HR : Aside0 (newGo [] (sortT l0) = R) := ⟨hS⟩
  clear hS
  generalize sortT l0 = S at *
  go_enter Try.func67, Try.ntmps67
  go_wp2_with (first
   | (go_at_call 65; refine HCl.out.mono ?_; rintro e w1 ⟨A1, c1, rfl, hc1, HO1, HB1⟩)
   | (go_at_call 103; refine (HS.out _ _ _ HO1 HB1).mono ?_; rintro e w2 ⟨rfl, HC2, hB2⟩))
  have HB0 := Aside0.mk (Below.refl w2.heap.size w2)
  go_loopw [3, 13] (fun v3 v13 wr => ∃ (i : Nat) (out : List S48), v13 = .int .i64 i ∧ i ≤ l0.length ∧ out.length ≤ i ∧ Aside0 (newGo out (S.drop i) = R) ∧ Aside0 (Kd.R k48 48 wr w2.heap.size (fun _ => True) v3 out) ∧ Aside0 (Below w2.heap.size w2 wr)) (fun v3 v13 wr => l0.length - (intOf v13).toNat)
  case atStart => exact ⟨0, [], rfl, by omega, by simp, by simpa using HR, ⟨Kd.R_nil _ _ _ _ _⟩, HB0⟩
  case round =>
   clear HR HB0 HCl HS HO1 HB1
   obtain ⟨i, out, rfl, hi, hol, HR, HO, HB⟩ := hrel
   obtain ⟨A3, c3, e3, hc3, hC3⟩ := Kd.R_reads HO.out
   subst e3
   by_cases hlt : i < l0.length
   ·have hb1 : decide ((i : Int) < (l0.length : Int)) = true := decide_eq_true (by omega)
    have hb2 : decide (i < l0.length) = true := decide_eq_true hlt
    have hls : i < S.length := by have := hsl.out; omega
    obtain ⟨ad, e, hx0, hx1⟩ := at_T48 HC2.out (i : Int) (by omega) (by omega)
    cases e
    replace hx0 := pw_cell_below HB.out hx0
    replace hx1 := pw_cell_below HB.out hx1
    rw [Int.toNat_natCast, rdT_nat S i hls] at hx0 hx1
    have HD : Aside0 (S.drop i = S[i] :: S.drop (i + 1)) := ⟨List.drop_eq_getElem_cons hls⟩
    clear hsl
    generalize S[i] = t at hx0 hx1 HD
    obtain ⟨te, tr⟩ := t
    dsimp only at hx0 hx1
    have HOL : Aside0 (out.length ≤ 1099511627776) := ⟨by omega⟩
    have HA : Aside0 (∀ W, Below wr.heap.size wr W → Calls Try.prog 105 #[.slice A3 out.length c3, .agg #[.int .i64 te, .int .i64 tr]] W fun e w' => e = .returned (.bool (aheadF out ⟨te, tr⟩)) ∧ Aside0 (Below wr.heap.size wr w') ∧ Aside0 (Below W.heap.size W w')) :=
     ⟨fun W hW => (ahead_calls A3 c3 out ⟨te, tr⟩ W (by have := HOL.out; omega) (Kd.C_below hC3 hW) hc3).mono fun e w' ⟨g1, g2⟩ => ⟨g1, ⟨hW.trans (g2.mono hW.size)⟩, ⟨g2⟩⟩⟩
    have hbx : Below wr.heap.size wr (wr.alloc (.cells #[.int .i64 te, .int .i64 tr] 48)) := (Below.refl _ _).alloc (Nat.le_refl _) _
    have HY : Aside0 (∀ W, Below (wr.alloc (.cells #[.int .i64 te, .int .i64 tr] 48)).heap.size (wr.alloc (.cells #[.int .i64 te, .int .i64 tr] 48)) W → W.cell? ⟨wr.heap.size, 0, none⟩ = some (.int .i64 te) ∧ W.cell? ⟨wr.heap.size, 1, none⟩ = some (.int .i64 tr)) :=
     ⟨fun W hW => ⟨pw_cell_below hW (by simp), pw_cell_below hW (by simp)⟩⟩
    cases ha : aheadF out ⟨te, tr⟩ with
    | true =>
     rw [ha] at HA
     have HN : Aside0 (newGo out (S.drop (i + 1)) = R) := ⟨by have := HR.out; rw [HD.out] at this; simpa [newGo, ha] using this⟩
     clear ha HR HD
     go_wp2_with (go_at_call 105; refine (HA.out _ hbx).mono ?_; rintro e w3 ⟨rfl, HB3, HB4⟩)
     go_roundw
     case rel => exact ⟨i + 1, out, by go_num, by omega, by omega, HN, ⟨Kd.R_below HO.out HB3.out⟩, ⟨HB.out.trans (HB3.out.mono HB.out.size)⟩⟩
     case measure => simp [intOf]; omega
    | false =>
     rw [ha] at HA
     have HN : Aside0 (newGo (out ++ [⟨te, tr⟩]) (S.drop (i + 1)) = R) := ⟨by have := HR.out; rw [HD.out] at this; simpa [newGo, ha] using this⟩
     clear ha HR HD
     go_wp2_with (first
      | (go_at_call 105; refine (HA.out _ hbx).mono ?_; rintro e w3 ⟨rfl, HB3, HB4⟩; obtain ⟨hy0, hy1⟩ := HY.out _ HB4.out)
      | ((with_reducible refine gate_builtin (b := .append) (xs := #[.tmp 23, .tmp 25]) rfl ?_); at_builtin; refine Kd.R_append k48 (w0 := w2) w2.heap.size rfl (.tmp 23) (.tmp 25) 138 48 (.agg #[(.int .i64 0), (.int .i64 0)]) 16 rfl Try.underlying138 info48 rfl (by decide) (by omega) (.slice A3 out.length c3) out ⟨te, tr⟩ [.int .i64 te, .int .i64 tr] (fun _ => True) (fun _ => False) rfl rfl (k48_mkM _ _ _ ⟨te, tr⟩) (fun _ hk => hk.elim) (fun _ _ => trivial) (Kd.R_below HO.out HB3.out) (HB.out.trans (HB3.out.mono HB.out.size)) (HB.out.trans (HB3.out.mono HB.out.size)).size (by have := HOL.out; omega) ?_; intro v4 w4 ho hb hg hat; have HO4 := Aside0.mk ho; have HB5 := Aside0.mk hb; clear ho hb hg hat))
     go_roundw
     case rel => exact ⟨i + 1, _, by go_num, by omega, by simp; omega, HN, HO4, HB5⟩
     case measure => simp [intOf]; omega
   ·have hin : i = l0.length := by omega
    subst hin
    have hb1 : decide ((l0.length : Int) < (l0.length : Int)) = false := decide_eq_false (by omega)
    have HE : Aside0 (out = R) := ⟨by have := HR.out; rwa [List.drop_eq_nil_of_le (by have := hsl.out; omega)] at this⟩
    clear HR
    go_wp2
    go_ret
    exact ⟨_, rfl, by rw [← HE.out]; exact Kd.R_lower HO.out hB2.size, hB2.trans (HB.out.mono hB2.size)⟩
 ·cases h
end Go.Proofs.Ytpflmgbpjhbmnaa.B
end
