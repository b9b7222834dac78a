/- GrpG, Ups, FrontL, Upper, AdvL, Rests, Made, Live9P, Live9, Open, OpenT, OpenU, Bounds. -/
import Derived.Test.YtpflmgbpjhbmnaaQBb22
import Derived.Test.YtpflmgbpjhbmnaaQBb25
import Derived.Test.YtpflmgbpjhbmnaaQBb27
import Derived.Test.YtpflmgbpjhbmnaaQBb23
import Derived.Test.YtpflmgbpjhbmnaaQBb24
import Derived.KernelRfl
import Derived.Deep.Slices
import Derived.ChangeArms
import Derived.ProofKit
import Derived.Test.YtpflmgbpjhbmnaaQBb1
import Derived.Test.YtpflmgbpjhbmnaaQBb3
section
namespace Go.Proofs.Ytpflmgbpjhbmnaa.B
open Go Go.RowKit Go.Proofs Go.Proofs.YtpflmgbpjhbmnaaW.PrintWords
set_option linter.unusedVariables false
set_option linter.unusedSimpArgs false
def addG (n : Nat) (g : Gr) (u : S50) : Gr :=
 match g.getLast? with
 | none => g ++ [(u.f0.take n, [(u.f0.drop n, [(u.f1, u.f2)])])]
 | some x =>
  if sameR x.1 (u.f0.take n) = true then
   match x.2.getLast? with
   | none => g.dropLast ++ [(x.1, [(u.f0.drop n, [(u.f1, u.f2)])])]
   | some y => if sameR y.1 (u.f0.drop n) = true then g.dropLast ++ [(x.1, x.2.dropLast ++ [(y.1, y.2 ++ [(u.f1, u.f2)])])] else g.dropLast ++ [(x.1, x.2 ++ [(u.f0.drop n, [(u.f1, u.f2)])])]
  else g ++ [(u.f0.take n, [(u.f0.drop n, [(u.f1, u.f2)])])]
def grpG (n : Nat) (l : List S50) : Gr := l.foldl (addG n) []
theorem addG_nil (n : Nat) (u : S50) : addG n [] u = [(u.f0.take n, [(u.f0.drop n, [(u.f1, u.f2)])])] := rfl
theorem addG_new (n : Nat) (g : Gr) (x : List S56 × List Rst) (u : S50) (h : sameR x.1 (u.f0.take n) = false) : addG n (g ++ [x]) u = g ++ [x] ++ [(u.f0.take n, [(u.f0.drop n, [(u.f1, u.f2)])])] := by
 simp [addG, h]
theorem addG_rest (n : Nat) (g : Gr) (k0 : List S56) (rs : List Rst) (y : Rst) (u : S50) (h : sameR k0 (u.f0.take n) = true) (h2 : sameR y.1 (u.f0.drop n) = false) : addG n (g ++ [(k0, rs ++ [y])]) u = g ++ [(k0, rs ++ [y] ++ [(u.f0.drop n, [(u.f1, u.f2)])])] := by
 simp [addG, h, h2]
theorem addG_time (n : Nat) (g : Gr) (k0 : List S56) (rs : List Rst) (y : Rst) (u : S50) (h : sameR k0 (u.f0.take n) = true) (h2 : sameR y.1 (u.f0.drop n) = true) : addG n (g ++ [(k0, rs ++ [y])]) u = g ++ [(k0, rs ++ [(y.1, y.2 ++ [(u.f1, u.f2)])])] := by
 simp [addG, h, h2]
theorem isNew_snoc (l : List (List S56)) (x k : List S56) : isNew (l ++ [x]) k = !sameR x k := by
 unfold isNew
 rw [if_neg (by simp)]
 simp [List.getD]
theorem snoc_of {α : Type} (l : List α) (h : l ≠ []) : ∃ r x, l = r ++ [x] := ⟨l.dropLast, l.getLast h, (List.dropLast_concat_getLast h).symm⟩
theorem addB_gs (b : Bt) (g : Gr) (u : S50) (h : Gs b g) : Gs (addB b u) (addG b.key.toNat g u) := by
 unfold addB
 dsimp only
 by_cases hg : g = []
 ·subst hg
  have hk : b.keys = [] := h.keys
  rw [if_pos (by rw [hk]; rfl), addG_nil]
  exact gs_new b [] h _ _ _ _
 ·obtain ⟨g', ⟨k0, rs⟩, rfl⟩ := snoc_of g hg
  obtain ⟨rs', y, rfl⟩ := snoc_of rs (h.ne1 (k0, rs) (by simp))
  have hk : b.keys = g'.map (·.1) ++ [k0] := by rw [h.keys]; simp
  have hr : b.rests = ((g'.flatMap (·.2)) ++ rs').map (·.1) ++ [y.1] := by rw [h.rests]; simp
  have n1 : isNew b.keys (u.f0.take b.key.toNat) = !sameR k0 (u.f0.take b.key.toNat) := by rw [hk, isNew_snoc]
  have n2 : isNew b.rests (u.f0.drop b.key.toNat) = !sameR y.1 (u.f0.drop b.key.toNat) := by rw [hr, isNew_snoc]
  cases e1 : sameR k0 (u.f0.take b.key.toNat) with
  | false =>
   rw [n1, e1, if_pos (by decide), addG_new _ _ _ _ e1]
   exact gs_new b _ h _ _ _ _
  | true =>
   rw [n1, e1, if_neg (by decide), n2]
   cases e2 : sameR y.1 (u.f0.drop b.key.toNat) with
   | false =>
    rw [if_pos (by decide), addG_rest _ _ _ _ _ _ e1 e2]
    exact gs_rest b g' k0 _ h _ _ _
   | true =>
    rw [if_neg (by decide), addG_time _ _ _ _ _ _ e1 e2]
    exact gs_time b g' k0 rs' y.1 y.2 h _ _
theorem addAll_gs (l : List S50) : ∀ (b : Bt) (g : Gr), Gs b g → Gs (addAll b l) (l.foldl (addG b.key.toNat) g) := by
 induction l with
 | nil => exact fun b g h => h
 | cons u r ih =>
  intro b g h
  have h1 := ih (addB b u) _ (addB_gs b g u h)
  rw [(addB_key b u).1] at h1
  exact h1
def batB (key weight : Int) (since : List S48) (l : List S50) : Bt := { addAll (Bt.none_ key 0 since) l with weight := weight }
theorem addB_weight (b : Bt) (u : S50) (w : Int) : addB { b with weight := w } u = { addB b u with weight := w } := by
 unfold addB
 dsimp only
 split
 ·rfl
 ·split <;> rfl
theorem addAll_weight (l : List S50) (w : Int) : ∀ b : Bt, addAll { b with weight := w } l = { addAll b l with weight := w } := by
 induction l with
 | nil => intro b; rfl
 | cons u r ih =>
  intro b
  show addAll (addB { b with weight := w } u) r = _
  rw [addB_weight]
  exact ih (addB b u)
theorem batB_eq (key weight : Int) (since : List S48) (l : List S50) : addAll (Bt.none_ key weight since) l = batB key weight since l :=
 addAll_weight l weight (Bt.none_ key 0 since)
structure BatG (key weight : Int) (since : List S48) (l : List S50) (b : Bt) (g : Gr) : Prop where
 gs : Gs b g
 key : b.key = key
 weight : b.weight = weight
 since : b.since = since
 times : b.times = l.map (·.f1)
 diffs : b.diffs = l.map (·.f2)
 wk : ∀ x ∈ g, x.1.length ≤ 1099511627776
 wr : ∀ y ∈ g.flatMap (·.2), y.1.length ≤ 1099511627776
theorem batG (key weight : Int) (since : List S48) (l : List S50) (hl : ∀ u ∈ l, u.f0.length ≤ 1099511627776) : BatG key weight since l (batB key weight since l) (grpG key.toNat l) := by
 have h1 := addAll_gs l (Bt.none_ key weight since) [] (none_gs _ _ _)
 obtain ⟨k1, k2, k3, k4, k5⟩ := addAll_key l (Bt.none_ key weight since)
 have hv := addAll_vd l _ (none_vd key weight since) hl
 rw [batB_eq] at h1 k1 k2 k3 k4 k5 hv
 refine ⟨h1, k1, k2, k3, k4, k5, fun x hx => ?_, fun y hy => ?_⟩
 ·exact hv.wk x.1 (by rw [h1.keys]; exact List.mem_map.2 ⟨x, hx, rfl⟩)
 ·exact hv.wr y.1 (by rw [h1.rests]; exact List.mem_map.2 ⟨y, hy, rfl⟩)
def upsG (g : Gr) : List S50 := g.flatMap runG
end Go.Proofs.Ytpflmgbpjhbmnaa.B
end
section
namespace Go.Proofs.Ytpflmgbpjhbmnaa.B
open Go Go.RowKit Go.Proofs Go.Proofs.YtpflmgbpjhbmnaaW.PrintWords Go.Proofs.YtpflmgbpjhbmnaaW.PrintLast Go.Proofs.YtpflmgbpjhbmnaaW.PrintMore Go.Proofs.Ytpflmgbpjhbmnaa.Rg
set_option linter.unusedVariables false
set_option linter.unusedSimpArgs false
set_option maxRecDepth 100000
section
variable {P : Program} {ops : Array Oper} {rest : List Oper} {o : Oper} {a : Act} {Q : Exit → Act → World → Prop} {α : Type}
theorem S_append_rows (d : Kd α) {W : World} (base N2 : Nat) (hgd : o.guard = none) (s x : Operand) (t e : TypeId) (z : Value) (bytes : Nat)
  (ho : o.op = .call { callee := .builtin .append, args := #[s, x], argTypes := #[t, t] })
  (ht : P.underlying t = some (.slice e)) (hinfo : (P.info? e).map (fun i => (i.zero, i.size, i.bytes)) = some (some z, d.sz, bytes)) (hz : z.cells.size = d.sz) (hs0 : 0 < d.sz) (hb0 : 0 < bytes)
  (v : Value) (xs ys : List α) (A : Option Addr) (m c : Nat) (hs : a.eval s = v) (hx : a.eval x = .slice A m c)
  (HO : Kd.S d e W base (fun k => k < N2) v xs) (HY : Kd.S d e W N2 (fun _ => True) (.slice A m c) ys) (hN : N2 ≤ W.heap.size) (hbN : base ≤ N2) (hl : (xs.length + m) * bytes ≤ 140737488355328)
  (h : ∀ A1 c1 w1, Kd.S d e w1 base (fun _ => True) (.slice A1 (xs ++ ys).length c1) (xs ++ ys) → W.grownBy w1 v.ownBlock → wpList P ops Q rest (a.put o.dst (.slice A1 (xs ++ ys).length c1)) w1) :
  wpList P ops Q (o :: rest) a W := by
 obtain ⟨f, hf⟩ := HO
 obtain ⟨f2, hf2⟩ := HY
 have hvlt : ∀ k, v.ownBlock = some k → k < N2 := fun k hk => hf.1 k hk
 have hf' : (Kd.tag (fun k => if k < N2 then f k else xs.length + f2 k) d).R e W base (fun _ => True) v xs.zipIdx := Kd.R_mono (Kd.R_tag hf (fun k hk _ => if_pos hk)) (fun _ _ => trivial)
 obtain ⟨h0, inner, hown, hr⟩ := hf2
 have hmy : m = ys.length := by
  rcases hown.2 with ⟨e1, e2⟩ | ⟨g, cap, cur, e1, _⟩
  ·injection e1 with _ e3 _
   rw [e3]; rw [List.length_zipIdx] at e2; exact e2.symm
  ·injection e1 with _ e3 _
   rw [e3, List.length_zipIdx]
 obtain ⟨A', c', e1, hrd⟩ := own_reads_row hown hr rfl
 injection e1 with e2 _ _
 subst e2
 have hrd2 : ReadsRow (fun (p : α × Nat) cs => ∃ j, p.2 = xs.length + j ∧ (Kd.tag f2 d).M W N2 (fun k => True ∧ some k ≠ (Value.slice A m c).ownBlock) (p.1, j) cs) d.sz W A m (ys.zipIdx xs.length) := by
  obtain ⟨g1, g2, g3⟩ := hrd
  refine ⟨by rw [List.length_zipIdx, hmy], by rw [List.length_zipIdx] at g2; omega, fun hn => ?_⟩
  obtain ⟨ad, e3, g4⟩ := g3 (by rw [List.length_zipIdx]; omega)
  refine ⟨ad, e3, fun j p hp => ?_⟩
  rw [List.getElem?_zipIdx] at hp
  obtain ⟨y, hy, rfl⟩ := Option.map_eq_some_iff.1 hp
  obtain ⟨cs, q1, q2, q3⟩ := g4 j (y, j) (Kd.zip_at hy)
  exact ⟨cs, q1, ⟨j, rfl, q2⟩, q3⟩
 refine Kd.R_append_rows (Kd.tag (fun k => if k < N2 then f k else xs.length + f2 k) d) (w0 := W) base hgd s x t e z bytes ho ht hinfo hz hs0 hb0 v xs.zipIdx (ys.zipIdx xs.length) A m c (fun _ => True) (fun k => N2 ≤ k) hs hx hf' hrd2 ?_ (fun k hk => ⟨trivial, fun e => ?_⟩) (fun _ _ => trivial) (Below.refl _ _) (Nat.le_trans hbN hN) (by rw [List.length_zipIdx]; exact hl) ?_
 ·rintro ⟨y, i⟩ cs ⟨j, rfl, hM⟩
  have hM2 := d.M_lower hbN (d.M_bound hM)
  refine d.M_mono (fun k hk => ?_) hM2
  have hk2 := hk.2.1
  refine ⟨hk2, ?_⟩
  show (if k < N2 then f k else xs.length + f2 k) = xs.length + j
  rw [if_neg (by omega)]
  have hk3 : f2 k = j := hk.1.2
  rw [hk3]
 ·have := hvlt k e.symm; omega
 ·intro v1 w1 g1 g2 g3 g4
  have e4 : xs.zipIdx ++ ys.zipIdx xs.length = (xs ++ ys).zipIdx := by rw [List.zipIdx_append, Nat.zero_add]
  rw [e4] at g1
  have hS : Kd.S d e w1 base (fun _ => True) v1 (xs ++ ys) := ⟨_, g1⟩
  obtain ⟨A1, c1, rfl⟩ := Kd.S_slice hS
  exact h A1 c1 w1 hS g3
end
theorem ups_len (g : Gr) : (g.flatMap runG).length = ((g.flatMap (·.2)).flatMap (·.2)).length := by
 induction g with
 | nil => rfl
 | cons x r ih =>
  simp only [List.flatMap_cons, List.length_append, List.flatMap_append, ih]
  congr 1
  unfold runG
  rw [List.length_flatMap, List.length_flatMap]
  simp [runR]
theorem ups_times (g : Gr) : (g.flatMap runG).map (·.f1) = ((g.flatMap (·.2)).flatMap (·.2)).map (·.1) := by
 induction g with
 | nil => rfl
 | cons x r ih =>
  simp only [List.flatMap_cons, List.map_append, List.flatMap_append, ih]
  congr 1
  unfold runG
  induction x.2 with
  | nil => rfl
  | cons y s ih2 =>
   simp only [List.flatMap_cons, List.map_append, ih2]
   congr 1
   simp [runR]
set_option maxHeartbeats 8000000 in
theorem ups_calls (p : Nat) (b : Bt) (A : Nat → Option Addr) (c : Nat → Nat) (g : Gr) (w : World) (hB : BatchR w p b A c) (hg : Gs b g) (hl : b.times.length < 1099511627776) (hk : ∀ x ∈ g, x.1.length ≤ 1099511627776) (hr : ∀ y ∈ g.flatMap (·.2), y.1.length ≤ 1099511627776) :
  Calls Try.prog 20 #[.pointer (some ⟨p, 0, none⟩)] w fun e w' => ∃ v0_ : Value, e = .returned v0_ ∧ Kd.S k50 50 w' w.heap.size (fun _ => True) v0_ (g.flatMap runG) ∧ Below w.heap.size w w' := by
 have hklen : b.keys.length = g.length := by rw [hg.keys, List.length_map]
 have htl : b.times.length = (g.flatMap runG).length := by rw [hg.times, List.length_map, ups_len]
 have hgl : g.length ≤ 1099511627776 := by
  have h1 := flat_ge (·.2) g hg.ne1
  have h2 := flat_ge (fun y : Rst => y.2) (g.flatMap (·.2)) hg.ne2
  have h3 := ups_len g
  omega
 have q3 := hB.keys.1
 rw [hklen] at q3
 have HRun : Aside0 (∀ i (hi : i < g.length) W, Below w.heap.size w W → Calls Try.prog 31 #[.pointer (some ⟨p, 0, none⟩), .int .i64 i] W fun e w' => ∃ A1 c1, e = .returned (.slice A1 (runG g[i]).length c1) ∧ Aside0 (Kd.S k50 50 w' W.heap.size (fun _ => True) (.slice A1 (runG g[i]).length c1) (runG g[i])) ∧ Aside0 (Below W.heap.size W w')) := ⟨fun i hi W hW => by
  refine (run_calls p b A c g i W (hB.below hW) hg hi hl hk hr).mono ?_
  rintro e w' ⟨v0, rfl, g1, g2⟩
  obtain ⟨A1, c1, rfl⟩ := Kd.S_slice g1
  exact ⟨A1, c1, rfl, ⟨g1⟩, ⟨g2⟩⟩⟩
 have HLen : Aside0 (∀ i, ((g.take i).flatMap runG).length ≤ b.times.length) := ⟨fun i => by
  rw [htl]
  have e : (g.flatMap runG) = (g.take i).flatMap runG ++ (g.drop i).flatMap runG := by rw [← List.flatMap_append, List.take_append_drop]
  rw [e, List.length_append]; omega⟩
 have HT := Aside0.mk (And.intro htl hl)
 clear hB hg hk hr hklen htl hl
 have HB0 := Aside0.mk (Below.refl w.heap.size w)
 go_enter Try.func20, Try.ntmps20
 go_wp2_with fail
 go_loopw [3, 12] (fun v3 v12 wr => ∃ i : Nat, v12 = .int .i64 i ∧ i ≤ g.length ∧ Aside0 (Kd.S k50 50 wr w.heap.size (fun _ => True) v3 ((g.take i).flatMap runG)) ∧ Aside0 (Below w.heap.size w wr)) (fun v3 v12 wr => g.length - (intOf v12).toNat)
 case atStart => exact ⟨0, rfl, Nat.zero_le _, ⟨Kd.S_nil _ _ _ _ _⟩, HB0⟩
 case round =>
  clear HB0
  obtain ⟨i, rfl, hi, HO, HB⟩ := hrel
  by_cases hlt : i < g.length
  ·have hb1 : decide ((i : Int) < (g.length : Int)) = true := decide_eq_true (by omega)
   have hb2 : decide (i < g.length) = true := decide_eq_true hlt
   have HR := Aside0.mk (HRun.out i hlt wr HB.out)
   obtain ⟨lst, hlst⟩ : ∃ lst, lst = (g.take i).flatMap runG := ⟨_, rfl⟩
   obtain ⟨one, hone⟩ : ∃ one, one = runG g[i] := ⟨_, rfl⟩
   have HE : Aside0 ((g.take (i + 1)).flatMap runG = lst ++ one) := ⟨by
    have e : g.take (i + 1) = g.take i ++ [g[i]] := by rw [List.take_add_one, List.getElem?_eq_getElem hlt]; rfl
    rw [e, List.flatMap_append, hlst, hone]; simp⟩
   have HL : Aside0 (lst.length + one.length < 1099511627776) := ⟨by
    have h1 := HLen.out (i + 1)
    rw [HE.out, List.length_append] at h1
    have := HT.out.2
    omega⟩
   rw [← hlst] at HO
   rw [← hone] at HR
   clear hlst hone
   obtain ⟨A3, c3, e3⟩ := Kd.S_slice HO.out
   subst e3
   go_wp2_with (first
    | (go_at_call 31; refine HR.out.mono ?_; rintro e w1 ⟨A1, c1, rfl, HS1, HB1⟩)
    | ((with_reducible refine gate_builtin (b := .append) (xs := #[.tmp 15, .tmp 18]) rfl ?_); at_builtin; (
      refine S_append_rows k50 w.heap.size wr.heap.size rfl (.tmp 15) (.tmp 18) 33 50 (.agg #[(.slice none 0 0), (.int .i64 0), (.int .i64 0), (.int .i64 0)]) 48 rfl Try.underlying33 info50 rfl (by decide) (by omega) (.slice A3 lst.length c3) lst one A1 one.length c1 rfl rfl (Kd.S_mono (Kd.S_old HO.out HB1.out) (fun _ hk => hk.2)) HS1.out HB1.out.size HB.out.size (by have := HL.out; omega) ?_
      intro A4 c4 w4 g1 g2
      have HS4 := Aside0.mk g1
      have HB4 := Aside0.mk (Below.grown (HB.out.trans (HB1.out.mono HB.out.size)) g2 (Nat.le_trans HB.out.size HB1.out.size) (fun k hk => Kd.S_base HO.out k hk))
      clear g1 g2)))
   go_roundw
   case rel => exact ⟨i + 1, by go_num, by omega, ⟨by rw [HE.out]; have h9 := HS4.out; rw [List.length_append] at h9; exact h9⟩, HB4⟩
   case measure => simp [intOf]; omega
  ·have hin : i = g.length := by omega
   subst hin
   have hb1 : decide ((g.length : Int) < (g.length : Int)) = false := decide_eq_false (by omega)
   have HE : Aside0 (g.take g.length = g) := ⟨List.take_of_length_le (Nat.le_refl _)⟩
   rw [HE.out] at HO
   go_wp2
   go_ret
   exact ⟨_, rfl, HO.out, HB.out⟩
end Go.Proofs.Ytpflmgbpjhbmnaa.B
end
section
namespace Go.Proofs.Ytpflmgbpjhbmnaa.B
open Go Go.RowKit Go.Proofs Go.Proofs.YtpflmgbpjhbmnaaW.PrintWords
set_option linter.unusedVariables false
set_option linter.unusedSimpArgs false
abbrev Tm := S48
def leT (a b : Tm) : Bool := decide (a.f0 ≤ b.f0 ∧ a.f1 ≤ b.f1)
theorem leT_iff (a b : Tm) : leT a b = true ↔ a.f0 ≤ b.f0 ∧ a.f1 ≤ b.f1 := by simp [leT]
theorem leT_refl (a : Tm) : leT a a = true := by simp [leT]
theorem leT_trans {a b c : Tm} (h1 : leT a b = true) (h2 : leT b c = true) : leT a c = true := by
 rw [leT_iff] at *; omega
theorem tm_eq {a b : Tm} (h0 : a.f0 = b.f0) (h1 : a.f1 = b.f1) : a = b := by cases a; cases b; simp_all
theorem ordT_le (x y : Tm) : ordT x y ≤ 0 ↔ x.f0 < y.f0 ∨ (x.f0 = y.f0 ∧ x.f1 ≤ y.f1) := by
 unfold ordT cmpI
 repeat' split
 all_goals omega
theorem leT_ord {a b : Tm} (h : leT a b = true) : ordT a b ≤ 0 := by
 rw [leT_iff] at h; rw [ordT_le]; omega
theorem ordT_anti {a b : Tm} (h1 : ordT a b ≤ 0) (h2 : ordT b a ≤ 0) : a = b := by
 rw [ordT_le] at *; exact tm_eq (by omega) (by omega)
theorem ahead_any (t : Tm) : ∀ out : List Tm, (∀ x ∈ out, ordT x t ≤ 0) → (aheadF out t = true ↔ ∃ x ∈ out, leT x t = true)
 | [], _ => by simp [aheadF]
 | x :: r, h => by
  have hx := (ordT_le x t).1 (h x List.mem_cons_self)
  have ih := ahead_any t r (fun y hy => h y (List.mem_cons_of_mem _ hy))
  unfold aheadF
  rw [if_neg (by omega)]
  by_cases h1 : x.f1 ≤ t.f1
  ·rw [if_pos h1]
   exact ⟨fun _ => ⟨x, List.mem_cons_self, (leT_iff x t).2 (by omega)⟩, fun _ => rfl⟩
  ·rw [if_neg h1, ih]
   constructor
   ·rintro ⟨y, hy, h2⟩; exact ⟨y, List.mem_cons_of_mem _ hy, h2⟩
   ·rintro ⟨y, hy, h2⟩
    rcases List.mem_cons.1 hy with rfl | hy
    ·rw [leT_iff] at h2; omega
    ·exact ⟨y, hy, h2⟩
structure Least (P : Tm → Prop) (out : List Tm) : Prop where
 srt : out.Pairwise fun x y => ordT x y < 0
 mem : ∀ t, t ∈ out ↔ P t ∧ ∀ x, P x → leT x t = true → x = t
theorem strict_ext : ∀ x y : List Tm, x.Pairwise (fun x y => ordT x y < 0) → y.Pairwise (fun x y => ordT x y < 0) → (∀ t, t ∈ x ↔ t ∈ y) → x = y
 | [], [], _, _, _ => rfl
 | [], b :: y, _, _, h => absurd ((h b).2 List.mem_cons_self) List.not_mem_nil
 | a :: x, [], _, _, h => absurd ((h a).1 List.mem_cons_self) List.not_mem_nil
 | a :: x, b :: y, hx, hy, h => by
  rw [List.pairwise_cons] at hx hy
  have e : a = b := by
   rcases List.mem_cons.1 ((h a).1 List.mem_cons_self) with e | ha
   ·exact e
   ·rcases List.mem_cons.1 ((h b).2 List.mem_cons_self) with e | hb
    ·exact e.symm
    ·have h1 := hx.1 b hb
     have h2 := hy.1 a ha
     have := ordT_sw a b
     omega
  subst e
  have h3 : ∀ t, t ∈ x ↔ t ∈ y := fun t => by
   constructor
   ·intro ht
    rcases List.mem_cons.1 ((h t).1 (List.mem_cons_of_mem _ ht)) with e | h4
    ·subst e; have := hx.1 t ht; rw [ordT_refl] at this; omega
    ·exact h4
   ·intro ht
    rcases List.mem_cons.1 ((h t).2 (List.mem_cons_of_mem _ ht)) with e | h4
    ·subst e; have := hy.1 t ht; rw [ordT_refl] at this; omega
    ·exact h4
  rw [strict_ext x y hx.2 hy.2 h3]
theorem Least.uniq {P : Tm → Prop} {x y : List Tm} (hx : Least P x) (hy : Least P y) : x = y :=
 strict_ext x y hx.srt hy.srt (fun t => (hx.mem t).trans (hy.mem t).symm)
theorem Least.congr {P Q : Tm → Prop} {x : List Tm} (hx : Least P x) (h : ∀ t, P t ↔ Q t) : Least Q x :=
 ⟨hx.srt, fun t => by rw [hx.mem t, h t]; exact ⟨fun ⟨a, b⟩ => ⟨a, fun x hx => b x ((h x).2 hx)⟩, fun ⟨a, b⟩ => ⟨a, fun x hx => b x ((h x).1 hx)⟩⟩⟩
structure LeastD (P : Tm → Prop) (out : List Tm) : Prop extends Least P out where
 dom : ∀ t, P t → ∃ m ∈ out, leT m t = true
theorem newGo_least : ∀ (rest : List Tm) (P : Tm → Prop) (out : List Tm), LeastD P out → (∀ p, P p → ∀ r ∈ rest, ordT p r ≤ 0) → rest.Pairwise (fun x y => ordT x y ≤ 0) → LeastD (fun t => P t ∨ t ∈ rest) (newGo out rest)
 | [], P, out, h, _, _ => ⟨h.toLeast.congr (fun t => by simp), fun t ht => h.dom t (by simpa using ht)⟩
 | t :: r, P, out, h, hp, hs => by
  rw [List.pairwise_cons] at hs
  have hout : ∀ x ∈ out, P x := fun x hx => ((h.mem x).1 hx).1
  have ha := ahead_any t out (fun x hx => hp x (hout x hx) t List.mem_cons_self)
  have hPt : ∀ p, (P p ∨ p = t) → ∀ q ∈ r, ordT p q ≤ 0 := by
   rintro p (h1 | rfl) q hq
   ·exact hp p h1 q (List.mem_cons_of_mem _ hq)
   ·exact hs.1 q hq
  have key : LeastD (fun x => P x ∨ x = t) (if aheadF out t = true then out else out ++ [t]) := by
   by_cases hc : aheadF out t = true
   ·rw [if_pos hc]
    obtain ⟨m, hm, hmt⟩ := ha.1 hc
    refine ⟨⟨h.srt, fun s => ?_⟩, ?_⟩
    ·rw [h.mem s]
     constructor
     ·rintro ⟨h1, h2⟩
      refine ⟨.inl h1, ?_⟩
      rintro x (hx | rfl) hl
      ·exact h2 x hx hl
      ·exact ordT_anti (leT_ord hl) (hp s h1 x List.mem_cons_self)
     ·rintro ⟨h1 | rfl, h2⟩
      ·exact ⟨h1, fun x hx hl => h2 x (.inl hx) hl⟩
      ·have e := h2 m (.inl (hout m hm)) hmt
       subst e
       exact ⟨hout m hm, fun x hx hl => h2 x (.inl hx) hl⟩
    ·rintro s (h1 | rfl)
     ·exact h.dom s h1
     ·exact ⟨m, hm, hmt⟩
   ·rw [if_neg hc]
    have hno : ∀ x, P x → leT x t = true → False := fun x hx hl => by
     obtain ⟨m, hm, hmx⟩ := h.dom x hx
     exact hc (ha.2 ⟨m, hm, leT_trans hmx hl⟩)
    refine ⟨⟨?_, fun s => ?_⟩, ?_⟩
    ·rw [List.pairwise_append]
     refine ⟨h.srt, List.pairwise_singleton _ _, fun x hx y hy => ?_⟩
     rw [List.mem_singleton.1 hy]
     have h1 := hp x (hout x hx) t List.mem_cons_self
     have h2 : ordT x t ≠ 0 := fun e => hno x (hout x hx) (by rw [(ordT_0 x t).1 e]; exact leT_refl t)
     omega
    ·rw [List.mem_append, h.mem s, List.mem_singleton]
     constructor
     ·rintro (⟨h1, h2⟩ | rfl)
      ·refine ⟨.inl h1, ?_⟩
       rintro x (hx | rfl) hl
       ·exact h2 x hx hl
       ·exact ordT_anti (leT_ord hl) (hp s h1 x List.mem_cons_self)
      ·refine ⟨.inr rfl, ?_⟩
       rintro x (hx | rfl) hl
       ·exact (hno x hx hl).elim
       ·rfl
     ·rintro ⟨h1 | rfl, h2⟩
      ·exact .inl ⟨h1, fun x hx hl => h2 x (.inl hx) hl⟩
      ·exact .inr rfl
    ·rintro s (h1 | rfl)
     ·obtain ⟨m, hm, hl⟩ := h.dom s h1
      exact ⟨m, List.mem_append_left _ hm, hl⟩
     ·exact ⟨s, by simp, leT_refl s⟩
  have ih := newGo_least r (fun x => P x ∨ x = t) _ key (fun p hp2 q hq => hPt p hp2 q hq) hs.2
  have e : ∀ s, ((P s ∨ s = t) ∨ s ∈ r) ↔ (P s ∨ s ∈ t :: r) := fun s => by simp [or_assoc]
  show LeastD _ (newGo (if aheadF out t = true then out else out ++ [t]) r)
  exact ⟨ih.toLeast.congr e, fun s hs => ih.dom s ((e s).2 hs)⟩
theorem newF_least (l : List Tm) : LeastD (fun t => t ∈ l) (newF l) := by
 have h := newGo_least (sortT l) (fun _ => False) [] ⟨⟨List.Pairwise.nil, fun t => by simp⟩, fun t h => h.elim⟩ (fun p hp => hp.elim) (sortT_sorted l)
 have e : ∀ t, (False ∨ t ∈ sortT l) ↔ t ∈ l := fun t => by simp [sortT_mem]
 exact ⟨h.toLeast.congr e, fun t ht => h.dom t ((e t).2 ht)⟩
theorem newF_idem (l : List Tm) : newF (newF l) = newF l := by
 refine (newF_least (newF l)).toLeast.uniq ⟨(newF_least l).srt, fun t => ⟨fun h => ⟨h, fun x hx hl => ?_⟩, fun h => h.1⟩⟩
 have h1 := ((newF_least l).mem t).1 h
 have h2 := ((newF_least l).mem x).1 hx
 exact h1.2 x h2.1 hl
theorem newF_mem (l : List Tm) (t : Tm) (h : t ∈ newF l) : t ∈ l := (((newF_least l).mem t).1 h).1
def anyAhead (f : List Tm) (t : Tm) : Bool := f.any fun x => leT x t
theorem newF_ahead (l : List Tm) (t : Tm) (h : t ∈ l) : anyAhead (newF l) t = true := by
 obtain ⟨m, hm, hl⟩ := (newF_least l).dom t h
 exact List.any_eq_true.2 ⟨m, hm, hl⟩
def addS : List Tm → Tm → List Tm
 | [], t => [t]
 | x :: r, t => if ordT x t < 0 then x :: addS r t else if ordT x t = 0 then x :: r else t :: x :: r
theorem addS_mem : ∀ (l : List Tm) (t s : Tm), s ∈ addS l t ↔ s = t ∨ s ∈ l
 | [], t, s => by simp [addS]
 | x :: r, t, s => by
  unfold addS
  split
  ·rw [List.mem_cons, addS_mem r t s, List.mem_cons]
   exact ⟨fun h => by rcases h with h | h | h <;> simp [h], fun h => by rcases h with h | h | h <;> simp [h]⟩
  ·split
   ·rename_i h
    have := (ordT_0 x t).1 h
    subst this
    simp
   ·simp
theorem addS_srt : ∀ (l : List Tm) (t : Tm), l.Pairwise (fun x y => ordT x y < 0) → (addS l t).Pairwise (fun x y => ordT x y < 0)
 | [], t, _ => List.pairwise_singleton _ _
 | x :: r, t, h => by
  have h0 := h
  rw [List.pairwise_cons] at h
  unfold addS
  split
  ·rename_i hx
   rw [List.pairwise_cons]
   refine ⟨fun s hs => ?_, addS_srt r t h.2⟩
   rcases (addS_mem r t s).1 hs with rfl | hs
   ·exact hx
   ·exact h.1 s hs
  ·split
   ·exact h0
   ·rename_i h1 h2
    rw [List.pairwise_cons]
    have h3 : ordT t x < 0 := by have := ordT_sw x t; omega
    refine ⟨fun s hs => ?_, h0⟩
    rcases List.mem_cons.1 hs with rfl | hs
    ·exact h3
    ·have h4 := h.1 s hs
     rw [ordT_lt] at *
     omega
def minB (l : List Tm) (t : Tm) : Bool := l.all fun x => decide (ordT x t = 0) || !leT x t
theorem minB_iff (l : List Tm) (t : Tm) : minB l t = true ↔ ∀ x ∈ l, leT x t = true → x = t := by
 unfold minB
 rw [List.all_eq_true]
 constructor
 ·intro h x hx hl
  have := h x hx
  rw [hl] at this
  simp at this
  exact (ordT_0 x t).1 this
 ·intro h x hx
  cases hl : leT x t with
  | false => simp
  | true => simp [(ordT_0 x t).2 (h x hx hl)]
def refGo (l : List Tm) : List Tm → List Tm → List Tm
 | out, [] => out
 | out, t :: r => refGo l (if minB l t = true then addS out t else out) r
theorem refGo_spec (l : List Tm) : ∀ (r out : List Tm), out.Pairwise (fun x y => ordT x y < 0) → (refGo l out r).Pairwise (fun x y => ordT x y < 0) ∧ ∀ t, t ∈ refGo l out r ↔ t ∈ out ∨ (t ∈ r ∧ minB l t = true)
 | [], out, h => ⟨h, fun t => by simp [refGo]⟩
 | x :: r, out, h => by
  unfold refGo
  by_cases hm : minB l x = true
  ·rw [if_pos hm]
   obtain ⟨h1, h2⟩ := refGo_spec l r (addS out x) (addS_srt out x h)
   refine ⟨h1, fun t => ?_⟩
   rw [h2 t, addS_mem, List.mem_cons]
   constructor
   ·rintro ((rfl | h3) | ⟨h3, h4⟩)
    ·exact .inr ⟨.inl rfl, hm⟩
    ·exact .inl h3
    ·exact .inr ⟨.inr h3, h4⟩
   ·rintro (h3 | ⟨rfl | h3, h4⟩)
    ·exact .inl (.inr h3)
    ·exact .inl (.inl rfl)
    ·exact .inr ⟨h3, h4⟩
  ·rw [if_neg hm]
   obtain ⟨h1, h2⟩ := refGo_spec l r out h
   refine ⟨h1, fun t => ?_⟩
   rw [h2 t, List.mem_cons]
   constructor
   ·rintro (h3 | ⟨h3, h4⟩)
    ·exact .inl h3
    ·exact .inr ⟨.inr h3, h4⟩
   ·rintro (h3 | ⟨rfl | h3, h4⟩)
    ·exact .inl h3
    ·exact absurd h4 hm
    ·exact .inr ⟨h3, h4⟩
theorem refGo_newF (l : List Tm) : refGo l [] l = newF l := by
 obtain ⟨h1, h2⟩ := refGo_spec l l [] List.Pairwise.nil
 refine Least.uniq (P := fun t => t ∈ l) ⟨h1, fun t => ?_⟩ (newF_least l).toLeast
 rw [h2 t, minB_iff]
 simp
theorem addS_len (l : List Tm) (t : Tm) : (addS l t).length ≤ l.length + 1 := by
 induction l with
 | nil => simp [addS]
 | cons x r ih =>
  unfold addS
  split
  ·simpa using ih
  ·split <;> simp
theorem refOrderT (a b : Tm) : runnelref04_Order.f a.f0 a.f1 b.f0 b.f1 = some (ordT a b) := by
 unfold runnelref04_Order.f ordT cmpI
 by_cases h0 : a.f0 = b.f0
 ·by_cases h1 : a.f1 = b.f1
  ·simp [h0, h1]
  ·have e : (a.f0 == b.f0 && (a.f1 == b.f1)) = false := by simp [h1]
   rw [e, if_neg (by decide), if_neg (by omega), if_pos h0, if_pos h0]
   by_cases h2 : a.f1 < b.f1
   ·rw [if_pos h2, if_pos h2]
   ·rw [if_neg h2, if_neg h2, if_pos (by omega)]
 ·have e : (a.f0 == b.f0 && (a.f1 == b.f1)) = false := by simp [h0]
  rw [e, if_neg (by decide)]
  by_cases h2 : a.f0 < b.f0
  ·simp [h0, h2]
  ·have h3 : b.f0 < a.f0 := by omega
   simp [h0, h2, h3]
theorem refLessEq (a b : Tm) : runnelref04_LessEq.f a.f0 a.f1 b.f0 b.f1 = some (leT a b) := by
 unfold runnelref04_LessEq.f leT
 by_cases h : a.f0 ≤ b.f0
 ·rw [if_pos h]; simp [h]
 ·rw [if_neg h]; simp [h]
theorem eqT_ord (a b : Tm) : (a.f0 == b.f0 && (a.f1 == b.f1)) = decide (ordT a b = 0) := by
 rw [Bool.eq_iff_iff]
 simp only [Bool.and_eq_true, beq_iff_eq, decide_eq_true_eq, ordT_0]
 exact ⟨fun ⟨h0, h1⟩ => tm_eq h0 h1, fun h => by rw [h]; exact ⟨rfl, rfl⟩⟩
theorem refAdd_l (l : List Tm) (t : Tm) (hl : l.length ≤ 1099511627776) : ∀ d i : Nat, l.length - i = d → i ≤ l.length → Ev (fun n => runnelref04_Add.l0 n l i t.f0 t.f1) (l.take i ++ addS (l.drop i) t) := by
 intro d
 induction d with
 | zero =>
  intro i hd hi
  have hil : i = l.length := by omega
  subst hil
  refine ⟨1, fun n hn => ?_⟩
  obtain ⟨n, rfl⟩ : ∃ m, n = m + 1 := ⟨n - 1, by omega⟩
  simp only [runnelref04_Add.l0]
  rw [if_neg (by omega)]
  simp only [Option.bind_some, Int.toNat_natCast, List.take_length, List.drop_length, List.nil_append, List.length_nil]
  rw [if_pos (by omega), if_pos (by omega), if_pos (by omega), if_pos (by omega), if_pos (by simp; omega)]
  simp [addS]
 | succ d ih =>
  intro i hd hi
  have hlt : i < l.length := by omega
  obtain ⟨K, h⟩ := ih (i + 1) (by omega) (by omega)
  refine ⟨K + 1, fun n hn => ?_⟩
  obtain ⟨n, rfl⟩ : ∃ m, n = m + 1 := ⟨n - 1, by omega⟩
  have h := h n (by omega)
  simp only [] at h
  simp only [runnelref04_Add.l0]
  rw [if_pos (by omega), if_pos (by omega), rdT_nat l i hlt, refOrderT]
  simp only [Option.bind_some, Int.toNat_natCast]
  rw [eqT_ord, List.drop_eq_getElem_cons hlt]
  unfold addS
  by_cases h1 : ordT l[i] t < 0
  ·rw [if_pos h1, if_pos h1, show wrap64 ((i : Int) + 1) = ((i + 1 : Nat) : Int) by unfold wrap64; omega, h]
   have e : l.take (i + 1) = l.take i ++ [l[i]] := by rw [List.take_add_one, List.getElem?_eq_getElem hlt]; rfl
   rw [e, List.append_assoc]
   rfl
  ·rw [if_neg h1, if_neg h1]
   by_cases h2 : ordT l[i] t = 0
   ·rw [if_pos (by simpa using h2), if_pos h2, ← List.drop_eq_getElem_cons hlt, List.take_append_drop]
   ·rw [if_neg (by simpa using h2), if_neg h2]
    rw [if_pos (by omega), if_pos (by simp; omega), if_pos (by simp; omega), if_pos (by simp; omega)]
    simp
theorem refAdd (l : List Tm) (t : Tm) (hl : l.length ≤ 1099511627776) : Ev (fun n => runnelref04_Add.f n l t.f0 t.f1) (addS l t) := by
 have h := refAdd_l l t hl _ 0 rfl (by omega)
 simpa [runnelref04_Add.f] using h
theorem refNew_l1 (l out : List Tm) (i : Nat) (hi : i < l.length) (hl : l.length ≤ 1099511627776) (r : List Tm) (b1 : Bool)
  (h1 : Ev (fun n => if b1 = true then (runnelref04_Add.f n out l[i].f0 l[i].f1).bind fun t => runnelref05_New.l0 n l t (wrap64 ((i : Int) + 1)) else runnelref05_New.l0 n l out (wrap64 ((i : Int) + 1))) r) :
  ∀ d j : Nat, l.length - j = d → j ≤ l.length → ∀ b, (b && (l.drop j).all fun x => decide (ordT x l[i] = 0) || !leT x l[i]) = b1 → Ev (fun n => runnelref05_New.l1 n l out i b j) r := by
 intro d
 induction d with
 | zero =>
  intro j hd hj b hb
  have hjl : j = l.length := by omega
  subst hjl
  obtain ⟨K, h⟩ := h1
  refine ⟨K + 1, fun n hn => ?_⟩
  obtain ⟨n, rfl⟩ : ∃ m, n = m + 1 := ⟨n - 1, by omega⟩
  have h := h n (by omega)
  simp only [List.drop_length, List.all_nil, Bool.and_true] at hb
  subst hb
  simp only [runnelref05_New.l1]
  rw [if_neg (by omega)]
  cases b with
  | true =>
   simp only [if_true] at h ⊢
   rw [if_pos (by omega), if_pos (by omega), rdT_nat l i hi]
   exact h
  | false => simpa using h
 | succ d ih =>
  intro j hd hj b hb
  have hlt : j < l.length := by omega
  rw [List.drop_eq_getElem_cons hlt, List.all_cons] at hb
  have hw : wrap64 ((j : Int) + 1) = ((j + 1 : Nat) : Int) := by unfold wrap64; omega
  cases b with
  | false =>
   obtain ⟨K, h⟩ := ih (j + 1) (by omega) (by omega) false (by simpa using hb)
   refine ⟨K + 1, fun n hn => ?_⟩
   obtain ⟨n, rfl⟩ : ∃ m, n = m + 1 := ⟨n - 1, by omega⟩
   simp only [runnelref05_New.l1]
   rw [if_pos (by omega), if_neg (by decide), hw]
   exact h n (by omega)
  | true =>
   simp only [Bool.true_and] at hb
   obtain ⟨K, h⟩ := ih (j + 1) (by omega) (by omega) (decide (ordT l[j] l[i] = 0) || !leT l[j] l[i]) hb
   refine ⟨K + 1, fun n hn => ?_⟩
   obtain ⟨n, rfl⟩ : ∃ m, n = m + 1 := ⟨n - 1, by omega⟩
   have h := h n (by omega)
   simp only [] at h
   simp only [runnelref05_New.l1]
   rw [if_pos (by omega), if_pos trivial, if_pos (by omega), if_pos (by omega), if_pos (by omega), rdT_nat l i hi, rdT_nat l j hlt, eqT_ord, refLessEq, hw]
   simp only [Option.bind_some]
   by_cases he : ordT l[j] l[i] = 0
   ·rw [if_pos (by simpa using he)]
    simpa [he] using h
   ·rw [if_neg (by simpa using he)]
    simpa [he] using h
theorem refNew_l0 (l : List Tm) (hl : l.length ≤ 549755813888) : ∀ d i : Nat, l.length - i = d → i ≤ l.length → ∀ out : List Tm, out.length ≤ i → Ev (fun n => runnelref05_New.l0 n l out i) (refGo l out (l.drop i)) := by
 intro d
 induction d with
 | zero =>
  intro i hd hi out ho
  refine ⟨1, fun n hn => ?_⟩
  obtain ⟨n, rfl⟩ : ∃ m, n = m + 1 := ⟨n - 1, by omega⟩
  simp only [runnelref05_New.l0]
  rw [if_neg (by omega), List.drop_eq_nil_of_le (by omega)]
  rfl
 | succ d ih =>
  intro i hd hi out ho
  have hlt : i < l.length := by omega
  rw [List.drop_eq_getElem_cons hlt]
  have hw : wrap64 ((i : Int) + 1) = ((i + 1 : Nat) : Int) := by unfold wrap64; omega
  have key : Ev (fun n => if minB l l[i] = true then (runnelref04_Add.f n out l[i].f0 l[i].f1).bind fun t => runnelref05_New.l0 n l t (wrap64 ((i : Int) + 1)) else runnelref05_New.l0 n l out (wrap64 ((i : Int) + 1))) (refGo l out (l[i] :: l.drop (i + 1))) := by
   simp only [refGo]
   rw [hw]
   by_cases hm : minB l l[i] = true
   ·simp only [if_pos hm]
    have hal := addS_len out l[i]
    exact Ev.bind (refAdd out l[i] (by omega)) (ih (i + 1) (by omega) (by omega) (addS out l[i]) (by omega))
   ·simp only [if_neg hm]
    exact ih (i + 1) (by omega) (by omega) out (by omega)
  obtain ⟨K, h⟩ := refNew_l1 l out i hlt (by omega) _ (minB l l[i]) key _ 0 rfl (by omega) true (by simp [minB])
  refine ⟨K + 1, fun n hn => ?_⟩
  obtain ⟨n, rfl⟩ : ∃ m, n = m + 1 := ⟨n - 1, by omega⟩
  simp only [runnelref05_New.l0]
  rw [if_pos (by omega)]
  exact h n (by omega)
theorem refNew (l : List Tm) (hl : l.length ≤ 549755813888) : Ev (fun n => runnelref05_New.f n l) (newF l) := by
 have h := refNew_l0 l hl _ 0 rfl (by omega) [] (by simp)
 rw [List.drop_zero, refGo_newF] at h
 exact h
def sameTs : List Tm → List Tm → Bool
 | [], [] => true
 | x :: a, y :: b => decide (ordT x y = 0) && sameTs a b
 | _, _ => false
theorem sameTs_iff : ∀ a b : List Tm, sameTs a b = true ↔ a = b
 | [], [] => by simp [sameTs]
 | [], _ :: _ => by simp [sameTs]
 | _ :: _, [] => by simp [sameTs]
 | x :: a, y :: b => by simp [sameTs, sameTs_iff a b, ordT_0]
theorem neT_ord (a b : Tm) : (!(a.f0 == b.f0) || (!(a.f1 == b.f1))) = !decide (ordT a b = 0) := by
 rw [← eqT_ord]; simp
theorem refSameT_l (a b : List Tm) (he : a.length = b.length) (hl : a.length ≤ 1099511627776) : ∀ d i : Nat, a.length - i = d → i ≤ a.length → Ev (fun n => runnelref04_Same.l0 n a b i) (sameTs (a.drop i) (b.drop i)) := by
 intro d
 induction d with
 | zero =>
  intro i hd hi
  refine ⟨1, fun n hn => ?_⟩
  obtain ⟨n, rfl⟩ : ∃ m, n = m + 1 := ⟨n - 1, by omega⟩
  simp only [runnelref04_Same.l0]
  rw [if_neg (by omega), List.drop_eq_nil_of_le (by omega), List.drop_eq_nil_of_le (by omega)]
  rfl
 | succ d ih =>
  intro i hd hi
  have hlt : i < a.length := by omega
  obtain ⟨K, h⟩ := ih (i + 1) (by omega) (by omega)
  refine ⟨K + 1, fun n hn => ?_⟩
  obtain ⟨n, rfl⟩ : ∃ m, n = m + 1 := ⟨n - 1, by omega⟩
  simp only [runnelref04_Same.l0]
  rw [if_pos (by omega), if_pos (by omega), if_pos (by omega), rdT_nat a i hlt, rdT_nat b i (by omega), neT_ord, List.drop_eq_getElem_cons hlt, List.drop_eq_getElem_cons (l := b) (by omega)]
  simp only [sameTs]
  by_cases he : ordT a[i] b[i] = 0
  ·rw [if_neg (by simpa using he), show wrap64 ((i : Int) + 1) = ((i + 1 : Nat) : Int) by unfold wrap64; omega, decide_eq_true he, Bool.true_and]
   exact h n (by omega)
  ·rw [if_pos (by simpa using he), decide_eq_false he, Bool.false_and]
theorem sameTs_len (a b : List Tm) (h : a.length ≠ b.length) : sameTs a b = false := by
 cases hs : sameTs a b with
 | false => rfl
 | true => exact absurd (congrArg List.length ((sameTs_iff a b).1 hs)) h
theorem refSameT (a b : List Tm) (hl : a.length ≤ 1099511627776) : Ev (fun n => runnelref04_Same.f n a b) (sameTs a b) := by
 by_cases he : a.length = b.length
 ·have h := refSameT_l a b he hl _ 0 rfl (by omega)
  simpa [runnelref04_Same.f, he] using h
 ·rw [sameTs_len a b he]
  exact ⟨0, fun n _ => by simp only [runnelref04_Same.f]; rw [if_neg (by omega)]⟩
theorem equalT_l (a b : List Tm) (he : a.length = b.length) (hl : a.length ≤ 1099511627776) : ∀ d i : Nat, a.length - i = d → i ≤ a.length → Ev (fun n => slices_Equal_Time.l0 n a b (a.length : Int) i) (sameTs (a.drop i) (b.drop i)) := by
 intro d
 induction d with
 | zero =>
  intro i hd hi
  refine ⟨1, fun n hn => ?_⟩
  obtain ⟨n, rfl⟩ : ∃ m, n = m + 1 := ⟨n - 1, by omega⟩
  simp only [slices_Equal_Time.l0]
  rw [if_neg (by omega), List.drop_eq_nil_of_le (by omega), List.drop_eq_nil_of_le (by omega)]
  rfl
 | succ d ih =>
  intro i hd hi
  have hlt : i < a.length := by omega
  obtain ⟨K, h⟩ := ih (i + 1) (by omega) (by omega)
  refine ⟨K + 1, fun n hn => ?_⟩
  obtain ⟨n, rfl⟩ : ∃ m, n = m + 1 := ⟨n - 1, by omega⟩
  simp only [slices_Equal_Time.l0]
  rw [if_pos (by omega), if_pos (by omega), if_pos (by omega), if_pos (by omega), rdT_nat a i hlt, rdT_nat b i (by omega), neT_ord, List.drop_eq_getElem_cons hlt, List.drop_eq_getElem_cons (l := b) (by omega)]
  simp only [sameTs]
  by_cases he : ordT a[i] b[i] = 0
  ·rw [if_neg (by simpa using he), show wrap64 ((i : Int) + 1) = ((i + 1 : Nat) : Int) by unfold wrap64; omega, decide_eq_true he, Bool.true_and]
   exact h n (by omega)
  ·rw [if_pos (by simpa using he), decide_eq_false he, Bool.false_and]
theorem equalT (a b : List Tm) (hl : a.length ≤ 1099511627776) : Ev (fun n => slices_Equal_Time.f n a b) (sameTs a b) := by
 by_cases he : a.length = b.length
 ·have h := equalT_l a b he hl _ 0 rfl (by omega)
  simpa [slices_Equal_Time.f, he] using h
 ·rw [sameTs_len a b he]
  exact ⟨0, fun n _ => by simp only [slices_Equal_Time.f]; rw [if_neg (by omega)]⟩
def okT (t : Tm) : Bool := decide (0 ≤ t.f0 ∧ t.f0 ≤ 1099511627776 ∧ 0 ≤ t.f1 ∧ t.f1 ≤ 1099511627776)
def checkF (l : List Tm) : Int := if l.length > 1024 then 3 else if l.all okT = true then (if sameTs (newF l) l = true then 0 else 6) else 7
theorem refCheckT (t : Tm) : runnelref04_Check.f t.f0 t.f1 = some (if okT t = true then 0 else 7) := by
 unfold runnelref04_Check.f okT
 simp only [decide_eq_true_eq]
 repeat' split
 all_goals first | rfl | omega
theorem momentCheck (t : Tm) : moment_Check.f t.f0 t.f1 = some (if okT t = true then 0 else 7) := by
 unfold moment_Check.f okT mn mx
 simp only [decide_eq_true_eq]
 repeat' split
 all_goals first | rfl | omega
theorem newF_len (l : List Tm) : (newF l).length ≤ l.length := by
 have h : ∀ (r out : List Tm), (newGo out r).length ≤ out.length + r.length := by
  intro r
  induction r with
  | nil => intro out; simp [newGo]
  | cons t r ih =>
   intro out
   unfold newGo
   by_cases hc : aheadF out t = true
   ·rw [if_pos hc]; have := ih out; rw [List.length_cons]; omega
   ·rw [if_neg hc]; have := ih (out ++ [t]); rw [List.length_append, List.length_singleton] at this; rw [List.length_cons]; omega
 have := h (sortT l) []
 rw [sortT_len] at this
 simpa [newF] using this
theorem refCheck_l (l : List Tm) (hl : l.length ≤ 1024) : ∀ d i : Nat, l.length - i = d → i ≤ l.length → Ev (fun n => runnelref05_Check.l0 n l i) (if (l.drop i).all okT = true then (if sameTs (newF l) l = true then 0 else 6) else 7) := by
 intro d
 induction d with
 | zero =>
  intro i hd hi
  obtain ⟨K1, h1⟩ := refNew l (by omega)
  have := newF_len l
  obtain ⟨K2, h2⟩ := refSameT (newF l) l (by omega)
  simp only [] at h1 h2
  refine ⟨max K1 K2 + 1, fun n hn => ?_⟩
  obtain ⟨n, rfl⟩ : ∃ m, n = m + 1 := ⟨n - 1, by omega⟩
  simp only [runnelref05_Check.l0]
  rw [if_neg (by omega), h1 n (by omega)]
  simp only [Option.bind_some]
  rw [h2 n (by omega), List.drop_eq_nil_of_le (by omega)]
  simp only [Option.bind_some, List.all_nil, if_true]
  split <;> rfl
 | succ d ih =>
  intro i hd hi
  have hlt : i < l.length := by omega
  obtain ⟨K, h⟩ := ih (i + 1) (by omega) (by omega)
  refine ⟨K + 1, fun n hn => ?_⟩
  obtain ⟨n, rfl⟩ : ∃ m, n = m + 1 := ⟨n - 1, by omega⟩
  simp only [runnelref05_Check.l0]
  rw [if_pos (by omega), if_pos (by omega), rdT_nat l i hlt, refCheckT, List.drop_eq_getElem_cons hlt, List.all_cons]
  simp only [Option.bind_some]
  cases ho : okT l[i] with
  | true =>
   rw [if_pos (by rfl), Bool.true_and, show wrap64 ((i : Int) + 1) = ((i + 1 : Nat) : Int) by unfold wrap64; omega]
   exact h n (by omega)
  | false => simp
theorem refCheck (l : List Tm) : Ev (fun n => runnelref05_Check.f n l) (checkF l) := by
 unfold checkF
 by_cases h : l.length > 1024
 ·rw [if_pos h]
  exact ⟨0, fun n _ => by simp only [runnelref05_Check.f]; rw [if_pos (by omega)]⟩
 ·rw [if_neg h]
  obtain ⟨K, h1⟩ := refCheck_l l (by omega) _ 0 rfl (by omega)
  refine ⟨K, fun n hn => ?_⟩
  have h2 := h1 n hn
  simp only [runnelref05_Check.f]
  rw [if_neg (by omega)]
  simpa using h2
theorem frontCheck_l (l : List Tm) (hl : l.length ≤ 1024) : ∀ d i : Nat, l.length - i = d → i ≤ l.length → Ev (fun n => front_Check.l0 n l l (l.length : Int) i) (if (l.drop i).all okT = true then (if sameTs (newF l) l = true then 0 else 6) else 7) := by
 intro d
 induction d with
 | zero =>
  intro i hd hi
  have := newF_len l
  obtain ⟨K2, h2⟩ := equalT (newF l) l (by omega)
  simp only [] at h2
  refine ⟨K2 + 1, fun n hn => ?_⟩
  obtain ⟨n, rfl⟩ : ∃ m, n = m + 1 := ⟨n - 1, by omega⟩
  simp only [front_Check.l0]
  rw [if_neg (by omega), front_New.f_some l (by omega)]
  simp only [Option.bind_some]
  rw [h2 n (by omega), List.drop_eq_nil_of_le (by omega)]
  simp only [Option.bind_some, List.all_nil, if_true]
  split <;> rfl
 | succ d ih =>
  intro i hd hi
  have hlt : i < l.length := by omega
  obtain ⟨K, h⟩ := ih (i + 1) (by omega) (by omega)
  refine ⟨K + 1, fun n hn => ?_⟩
  obtain ⟨n, rfl⟩ : ∃ m, n = m + 1 := ⟨n - 1, by omega⟩
  simp only [front_Check.l0]
  rw [if_pos (by omega), if_pos (by omega), if_pos (by omega), rdT_nat l i hlt, momentCheck, List.drop_eq_getElem_cons hlt, List.all_cons]
  simp only [Option.bind_some]
  cases ho : okT l[i] with
  | true =>
   rw [if_pos (by rfl), Bool.true_and, show wrap64 ((i : Int) + 1) = ((i + 1 : Nat) : Int) by unfold wrap64; omega]
   exact h n (by omega)
  | false => simp
theorem frontCheck (l : List Tm) : Ev (fun n => front_Check.f n l) (checkF l) := by
 unfold checkF
 by_cases h : l.length > 1024
 ·rw [if_pos h]
  exact ⟨0, fun n _ => by simp only [front_Check.f]; rw [if_pos (by omega)]⟩
 ·rw [if_neg h]
  obtain ⟨K, h1⟩ := frontCheck_l l (by omega) _ 0 rfl (by omega)
  refine ⟨K, fun n hn => ?_⟩
  have h2 := h1 n hn
  simp only [front_Check.f]
  rw [if_neg (by omega)]
  simpa using h2
theorem checkF_ok {l : List Tm} (h : checkF l = 0) : l.length ≤ 1024 ∧ (∀ t ∈ l, okT t = true) ∧ newF l = l := by
 unfold checkF at h
 by_cases h1 : l.length > 1024
 ·rw [if_pos h1] at h; cases h
 ·rw [if_neg h1] at h
  by_cases h2 : l.all okT = true
  ·rw [if_pos h2] at h
   by_cases h3 : sameTs (newF l) l = true
   ·exact ⟨by omega, fun t ht => List.all_eq_true.1 h2 t ht, (sameTs_iff _ _).1 h3⟩
   ·rw [if_neg h3] at h; cases h
  ·rw [if_neg h2] at h; cases h
theorem checkF_form (l : List Tm) (h : newF l = l) : checkF l ≠ 6 := by
 unfold checkF
 rw [(sameTs_iff (newF l) l).2 h]
 repeat' split
 all_goals first | omega | simp_all
theorem refAhead_l (l : List Tm) (t : Tm) (hl : l.length ≤ 1099511627776) : ∀ d i : Nat, l.length - i = d → i ≤ l.length → Ev (fun n => runnelref05_Ahead.l0 n l i t.f0 t.f1) (anyAhead (l.drop i) t) := by
 intro d
 induction d with
 | zero =>
  intro i hd hi
  refine ⟨1, fun n hn => ?_⟩
  obtain ⟨n, rfl⟩ : ∃ m, n = m + 1 := ⟨n - 1, by omega⟩
  simp only [runnelref05_Ahead.l0]
  rw [if_neg (by omega), List.drop_eq_nil_of_le (by omega)]
  rfl
 | succ d ih =>
  intro i hd hi
  have hlt : i < l.length := by omega
  obtain ⟨K, h⟩ := ih (i + 1) (by omega) (by omega)
  refine ⟨K + 1, fun n hn => ?_⟩
  obtain ⟨n, rfl⟩ : ∃ m, n = m + 1 := ⟨n - 1, by omega⟩
  simp only [runnelref05_Ahead.l0]
  rw [if_pos (by omega), if_pos (by omega), rdT_nat l i hlt, refLessEq, List.drop_eq_getElem_cons hlt]
  simp only [Option.bind_some, anyAhead, List.any_cons]
  cases hb : leT l[i] t with
  | true => simp
  | false =>
   rw [if_neg (by decide), Bool.false_or, show wrap64 ((i : Int) + 1) = ((i + 1 : Nat) : Int) by unfold wrap64; omega]
   exact h n (by omega)
theorem refAhead (l : List Tm) (t : Tm) (hl : l.length ≤ 1099511627776) : Ev (fun n => runnelref05_Ahead.f n l t.f0 t.f1) (anyAhead l t) := by
 have h := refAhead_l l t hl _ 0 rfl (by omega)
 simpa [runnelref05_Ahead.f] using h
theorem rdU_nat (l : List S50) (i : Nat) (h : i < l.length) : rd_T50 l (i : Int) = l[i] := by
 simp [rd_T50, List.getD, h]
theorem refLower_l (x : List S50) (hl : x.length ≤ 549755813888) : ∀ d i : Nat, x.length - i = d → i ≤ x.length → Ev (fun n => runnelref07_Lower.l0 n x ((x.take i).map (·.f1)) i) (newF (x.map (·.f1))) := by
 intro d
 induction d with
 | zero =>
  intro i hd hi
  obtain ⟨K, h⟩ := refNew (x.map (·.f1)) (by simpa using hl)
  simp only [] at h
  refine ⟨K + 1, fun n hn => ?_⟩
  obtain ⟨n, rfl⟩ : ∃ m, n = m + 1 := ⟨n - 1, by omega⟩
  simp only [runnelref07_Lower.l0]
  rw [if_neg (by omega), List.take_of_length_le (by omega), h n (by omega)]
  rfl
 | succ d ih =>
  intro i hd hi
  have hlt : i < x.length := by omega
  obtain ⟨K, h⟩ := ih (i + 1) (by omega) (by omega)
  refine ⟨K + 1, fun n hn => ?_⟩
  obtain ⟨n, rfl⟩ : ∃ m, n = m + 1 := ⟨n - 1, by omega⟩
  have h := h n (by omega)
  simp only [] at h
  simp only [runnelref07_Lower.l0]
  rw [if_pos (by omega), if_pos (by omega), if_pos (by simp; omega), rdU_nat x i hlt, show wrap64 ((i : Int) + 1) = ((i + 1 : Nat) : Int) by unfold wrap64; omega]
  have e : (x.take (i + 1)).map (·.f1) = (x.take i).map (·.f1) ++ [⟨x[i].f1.f0, x[i].f1.f1⟩] := by
   have e2 : x.take (i + 1) = x.take i ++ [x[i]] := by rw [List.take_add_one, List.getElem?_eq_getElem hlt]; rfl
   rw [e2, List.map_append]; rfl
  rw [e] at h
  exact h
theorem refLower (x : List S50) (hl : x.length ≤ 549755813888) : Ev (fun n => runnelref07_Lower.f n x) (newF (x.map (·.f1))) := by
 have h := refLower_l x hl _ 0 rfl (by omega)
 simpa [runnelref07_Lower.f] using h
end Go.Proofs.Ytpflmgbpjhbmnaa.B
end
section
namespace Go.Proofs.Ytpflmgbpjhbmnaa.B
open Go Go.RowKit Go.Proofs Go.Proofs.YtpflmgbpjhbmnaaW.PrintWords Go.Proofs.YtpflmgbpjhbmnaaW.PrintLast Go.Proofs.YtpflmgbpjhbmnaaW.PrintMore Go.Proofs.Ytpflmgbpjhbmnaa.Rg
set_option linter.unusedVariables false
set_option linter.unusedSimpArgs false
set_option maxRecDepth 100000
def most (m : S48) (l : List S48) : S48 := l.foldl (fun m t => ⟨max m.f0 t.f0, max m.f1 t.f1⟩) m
theorem most_snoc (m : S48) (l : List S48) (t : S48) : most m (l ++ [t]) = ⟨max (most m l).f0 t.f0, max (most m l).f1 t.f1⟩ := by simp [most]
theorem most_le (B : Int) (l : List S48) : ∀ m : S48, 0 ≤ m.f0 → 0 ≤ m.f1 → m.f0 ≤ B → m.f1 ≤ B → (∀ t ∈ l, t.f0 ≤ B ∧ t.f1 ≤ B) → 0 ≤ (most m l).f0 ∧ 0 ≤ (most m l).f1 ∧ (most m l).f0 ≤ B ∧ (most m l).f1 ≤ B := by
 induction l with
 | nil => intro m h1 h2 h3 h4 _; exact ⟨h1, h2, h3, h4⟩
 | cons t r ih =>
  intro m h1 h2 h3 h4 h
  have h5 := h t List.mem_cons_self
  refine ih ⟨max m.f0 t.f0, max m.f1 t.f1⟩ ?_ ?_ ?_ ?_ (fun q hq => h q (List.mem_cons_of_mem _ hq)) <;> dsimp only <;> omega
def upTimes (l : List S48) : List S48 := match l with | [] => [] | t :: r => [⟨0, (most t (t :: r)).f1 + 1⟩, ⟨(most t (t :: r)).f0 + 1, 0⟩]
theorem R_one (w : World) (t : S48) : Kd.R k48 48 (w.alloc (.cells #[.int .i64 t.f0, .int .i64 t.f1] 48)) w.heap.size (fun _ => True) (.slice (some ⟨w.heap.size, 0, none⟩) 1 1) [t] := by
 refine ⟨fun _ _ => trivial, [.int .i64 t.f0, .int .i64 t.f1], ⟨rfl, .inr ⟨w.heap.size, 1, #[.int .i64 t.f0, .int .i64 t.f1], rfl, Nat.le_refl _, heap_alloc_new w _, Nat.le_refl _, by simp [maxLen], rfl, rfl⟩⟩, rfl, fun j q hj => ?_⟩
 match j with
 | 0 => cases hj; exact k48_mkM _ _ _ t
 | n + 1 => cases hj
theorem upper_nil_calls (p : Nat) (b : Bt) (A : Nat → Option Addr) (c : Nat → Nat) (w : World) (hB : BatchR w p b A c) (hz : b.times = []) :
  Calls Try.prog 22 #[.pointer (some ⟨p, 0, none⟩)] w fun e w' => ∃ v0_ : Value, e = .returned v0_ ∧ Kd.R k48 48 w' w.heap.size (fun _ => True) v0_ [⟨0, 0⟩] ∧ Below w.heap.size w w' := by
 obtain ⟨h1, h2, h3⟩ := hB.times
 rw [hz] at h1
 have HB := Aside0.mk (And.intro hB hz)
 clear hB h2 h3 hz
 go_enter Try.func22, Try.ntmps22
 go_wp2
 go_ret
 refine ⟨_, rfl, ?_, by repeat (first | exact Below.refl _ _ | apply below_drew | apply below_alloc)⟩
 exact R_one w ⟨0, 0⟩
structure Two (w : World) (e r : Int) (W : World) : Prop where
 blk : W.heap[w.heap.size]? = some (.cells #[.int .i64 e, .int .i64 r] 48 (0, 0))
 B : Below w.heap.size w W
set_option maxHeartbeats 4000000 in
theorem upper_calls (p : Nat) (b : Bt) (A : Nat → Option Addr) (c : Nat → Nat) (w : World) (t0 : S48) (tr : List S48) (res : List S48) (hB : BatchR w p b A c) (hz : b.times = t0 :: tr) (hlen : b.times.length < 1099511627776) (hb : ∀ t ∈ b.times, 0 ≤ t.f0 ∧ 0 ≤ t.f1 ∧ t.f0 ≤ 1099511627776 ∧ t.f1 ≤ 1099511627776) (hn : front_New.f (upTimes b.times) = some res) :
  Calls Try.prog 22 #[.pointer (some ⟨p, 0, none⟩)] w fun e w' => ∃ v0_ : Value, e = .returned v0_ ∧ Kd.R k48 48 w' w.heap.size (fun _ => True) v0_ res ∧ Below w.heap.size w w' := by
 obtain ⟨h1, h2, h3⟩ := hB.times
 have HC := Aside0.mk h3
 have HN := Aside0.mk hn
 have HZ := Aside0.mk (And.intro hz hb)
 have HB := Aside0.mk (And.intro hB h2)
 have hl0 : 0 < b.times.length := by rw [hz]; simp
 have hz1 : decide ((b.times.length : Int) = 0) = false := decide_eq_false (by omega)
 have hz2 : decide (b.times.length = 0) = false := decide_eq_false (by omega)
 have hz3 : ((b.times.length : Int) == 0) = false := by apply beq_false_of_ne; omega
 have hi1 : (0 : Int) < (b.times.length : Int) := by omega
 obtain ⟨ad, eA, hx0, hx1⟩ := at_T48 h3 (0 : Int) (by omega) (by omega)
 have ht0 : rd_T48 b.times 0 = t0 := by rw [hz]; rfl
 rw [ht0] at hx0 hx1
 have hA := eA
 rw [eA] at h1
 simp only [Int.toNat_zero, Nat.zero_mul] at hx0 hx1
 rw [show ad.add 0 = ad by simp [Addr.add]] at hx0 hx1
 have HA := Aside0.mk hA
 clear hB h2 h3 hz hn hb ht0 eA hA
 have hpl : p < w.heap.size := World.block_lt_of_cell? w _ h1
 go_enter Try.func22, Try.ntmps22
 go_wp2_with fail
 go_loopw [28] (fun v28 wr => ∃ i : Nat, v28 = .int .i64 i ∧ i ≤ b.times.length ∧ Aside0 (Two w (most t0 (b.times.take i)).f0 (most t0 (b.times.take i)).f1 wr)) (fun v28 wr => b.times.length - (intOf v28).toNat)
 case atStart =>
  refine ⟨0, rfl, Nat.zero_le _, ⟨?_, ?_⟩⟩
  ·exact heap_alloc_new w _
  ·exact (Below.refl _ _).alloc (Nat.le_refl _) _
 case round =>
  clear hx0 hx1
  obtain ⟨i, rfl, hi, HT⟩ := hrel
  have hbk := HT.out.blk
  have hcc0 : wr.cell? ⟨w.heap.size, 0, none⟩ = some (.int .i64 (most t0 (b.times.take i)).f0) := by simp [World.cell?, hbk]
  have hcc1 : wr.cell? ⟨w.heap.size, 1, none⟩ = some (.int .i64 (most t0 (b.times.take i)).f1) := by simp [World.cell?, hbk]
  have hff0 : wr.frozen? ⟨w.heap.size, 0, none⟩ = false := by simp [World.frozen?, hbk]
  have hff1 : wr.frozen? ⟨w.heap.size, 1, none⟩ = false := by simp [World.frozen?, hbk]
  have hwl : w.heap.size < wr.heap.size := (Array.getElem?_eq_some_iff.1 hbk).1
  clear hbk
  by_cases hlt : i < b.times.length
  ·have hb1 : decide ((i : Int) < (b.times.length : Int)) = true := decide_eq_true (by omega)
   have hb2 : decide (i < b.times.length) = true := decide_eq_true hlt
   obtain ⟨ad2, e, hy0, hy1⟩ := at_T48 HC.out (i : Int) (by omega) (by omega)
   rw [HA.out] at e
   cases e
   replace hy0 := pw_cell_below HT.out.B hy0
   replace hy1 := pw_cell_below HT.out.B hy1
   rw [Int.toNat_natCast] at hy0 hy1
   have HU : Aside0 (b.times.take (i + 1) = b.times.take i ++ [rd_T48 b.times (i : Int)]) := ⟨by
    have e : rd_T48 b.times (i : Int) = b.times[i] := by simp [rd_T48, hlt]
    rw [e, List.take_add_one, List.getElem?_eq_getElem hlt]; rfl⟩
   generalize rd_T48 b.times (i : Int) = t at hy0 hy1 HU
   have HM : Aside0 (most t0 (b.times.take (i + 1)) = ⟨max (most t0 (b.times.take i)).f0 t.f0, max (most t0 (b.times.take i)).f1 t.f1⟩) := ⟨by rw [HU.out, most_snoc]⟩
   generalize most t0 (b.times.take i) = m at hcc0 hcc1 HM HT
   go_wp2
   go_roundw
   case rel =>
    refine ⟨i + 1, by go_num, by omega, ⟨?_, ?_⟩⟩
    ·rw [HM.out]
     refine (heap_alloc_old _ _ _ (by simpa [World.setCell] using hwl)).trans ?_
     have hbk := HT.out.blk
     simp [World.setCell, Array.getElem?_modify, hbk]
    ·exact ((HT.out.B.setCell (Nat.le_refl _) _).setCell (Nat.le_refl _) _).alloc (by simpa [World.setCell] using Nat.le_of_lt hwl) _
   case measure => simp [intOf]; omega
  ·have hin : i = b.times.length := by omega
   subst hin
   have hb1 : decide ((b.times.length : Int) < (b.times.length : Int)) = false := decide_eq_false (by omega)
   rw [List.take_of_length_le (Nat.le_refl _)] at hcc0 hcc1 HT
   have HM : Aside0 (upTimes b.times = [⟨0, (most t0 b.times).f1 + 1⟩, ⟨(most t0 b.times).f0 + 1, 0⟩]) := ⟨by rw [HZ.out.1]; rfl⟩
   have hmb : 0 ≤ (most t0 b.times).f0 ∧ 0 ≤ (most t0 b.times).f1 ∧ (most t0 b.times).f0 ≤ 1099511627776 ∧ (most t0 b.times).f1 ≤ 1099511627776 := by
    have h5 := HZ.out.2 t0 (by rw [HZ.out.1]; exact List.mem_cons_self)
    exact most_le 1099511627776 b.times t0 h5.1 h5.2.1 h5.2.2.1 h5.2.2.2 (fun t ht => ⟨(HZ.out.2 t ht).2.2.1, (HZ.out.2 t ht).2.2.2⟩)
   generalize most t0 b.times = m at hcc0 hcc1 HM HT hmb
   obtain ⟨hm0, hm1, hm2, hm3⟩ := hmb
   have hd0 : decide (m.f0 < 9223372036854775807) = true := decide_eq_true (by omega)
   have hd1 : decide (m.f1 < 9223372036854775807) = true := decide_eq_true (by omega)
   have hw0 : IntKind.i64.wrap (m.f0 + 1) = m.f0 + 1 := by rw [IntWalk.i64_in _ (by omega)]
   have hw1 : IntKind.i64.wrap (m.f1 + 1) = m.f1 + 1 := by rw [IntWalk.i64_in _ (by omega)]
   have HB0 := Aside0.mk (Below.refl wr.heap.size wr)
   have HR0 := Aside0.mk (Kd.R_nil k48 48 wr wr.heap.size (fun _ => True))
   have HW := Aside0.mk hwl
   go_wp2_with (first
    | ((with_reducible refine gate_builtin (b := .append) (xs := #[.tmp 47, .tmp 52]) rfl ?_); at_builtin; (
      refine Kd.R_append k48 (w0 := wr) wr.heap.size rfl (.tmp 47) (.tmp 52) 34 48 (.agg #[(.int .i64 0), (.int .i64 0)]) 16 rfl Try.underlying34 info48 rfl (by decide) (by omega) (.slice none 0 0) [] ⟨0, m.f1 + 1⟩ [.int .i64 0, .int .i64 (m.f1 + 1)] (fun _ => True) (fun _ => False) rfl rfl (k48_mkM _ _ _ ⟨0, m.f1 + 1⟩) (fun _ hk => hk.elim) (fun _ _ => trivial) HR0.out HB0.out (Nat.le_refl _) (by simp) ?_
      intro v4 w4 ho hb hg hat
      obtain ⟨A4, c4, e4⟩ := Kd.R_slice ho
      subst e4
      have hcc0' := pw_cell_below hb hcc0
      have hcc1' := pw_cell_below hb hcc1
      have HO4 := Aside0.mk ho
      have HB4 := Aside0.mk hb
      clear ho hb hg hat))
    | ((with_reducible refine gate_builtin (b := .append) (xs := #[.tmp 57, .tmp 62]) rfl ?_); at_builtin; (
      refine Kd.R_append k48 (w0 := wr) wr.heap.size rfl (.tmp 57) (.tmp 62) 34 48 (.agg #[(.int .i64 0), (.int .i64 0)]) 16 rfl Try.underlying34 info48 rfl (by decide) (by omega) (.slice A4 ([] ++ [(⟨0, m.f1 + 1⟩ : S48)]).length c4) ([] ++ [⟨0, m.f1 + 1⟩]) ⟨m.f0 + 1, 0⟩ [.int .i64 (m.f0 + 1), .int .i64 0] (fun _ => True) (fun _ => False) rfl rfl (k48_mkM _ _ _ ⟨m.f0 + 1, 0⟩) (fun _ hk => hk.elim) (fun _ _ => trivial) HO4.out HB4.out HB4.out.size (by simp) ?_
      intro v5 w5 ho hb hg hat
      obtain ⟨A5, c5, e5, hl5, hC5⟩ := Kd.R_reads ho
      subst e5
      have HCall := Aside0.mk (front_New.calls A5 c5 ([] ++ [(⟨0, m.f1 + 1⟩ : S48)] ++ [⟨m.f0 + 1, 0⟩]) res w5 hC5 hl5 (by have h8 := HN.out; rw [HM.out] at h8; exact h8))
      have HB5 := Aside0.mk hb
      clear ho hb hg hat hl5 hC5))
    | (go_at_call 67; refine HCall.out.mono ?_; rintro e w6 ⟨v6, rfl, HO6, HB6⟩))
   go_ret
   have h9 : Below w.heap.size w w5 := HT.out.B.trans (HB5.out.mono (Nat.le_of_lt HW.out))
   exact ⟨v6, rfl, Kd.R_lower HO6 h9.size, h9.trans (HB6.mono h9.size)⟩
end Go.Proofs.Ytpflmgbpjhbmnaa.B
end
section
namespace Go.Proofs.Ytpflmgbpjhbmnaa.B
open Go Go.RowKit Go.Proofs Go.Proofs.YtpflmgbpjhbmnaaW.PrintWords
set_option linter.unusedVariables false
set_option linter.unusedSimpArgs false
abbrev Upd := S50
def joinT (a b : Tm) : Tm := ⟨max a.f0 b.f0, max a.f1 b.f1⟩
def meetT (a b : Tm) : Tm := ⟨min a.f0 b.f0, min a.f1 b.f1⟩
def repT (f : List Tm) (t : Tm) : Tm := match f with
 | [] => ⟨0, 0⟩
 | x :: r => r.foldl (fun o y => meetT o (joinT t y)) (joinT t x)
theorem joinT_f (a b : Tm) : moment_Join.f a.f0 a.f1 b.f0 b.f1 = some ((joinT a b).f0, (joinT a b).f1) := by
 unfold moment_Join.f joinT mx
 have h0 : (if a.f0 < b.f0 then b.f0 else a.f0) = max a.f0 b.f0 := by split <;> omega
 have h1 : (if a.f1 < b.f1 then b.f1 else a.f1) = max a.f1 b.f1 := by split <;> omega
 first | simp only [h0, h1] | (repeat' split) <;> simp <;> omega
theorem meetT_f (a b : Tm) : moment_Meet.f a.f0 a.f1 b.f0 b.f1 = some ((meetT a b).f0, (meetT a b).f1) := by
 unfold moment_Meet.f meetT mn
 first | ((repeat' split) <;> simp <;> omega) | simp
theorem frontRep_l (f : List Tm) (t : Tm) (hl : f.length ≤ 1099511627776) : ∀ d i : Nat, f.length - i = d → i ≤ f.length → ∀ o : Tm, Ev (fun n => front_Rep.l0 n f (f.length : Int) i t.f0 t.f1 o.f0 o.f1) (((f.drop i).foldl (fun o y => meetT o (joinT t y)) o).f0, ((f.drop i).foldl (fun o y => meetT o (joinT t y)) o).f1) := by
 intro d
 induction d with
 | zero =>
  intro i hd hi o
  refine ⟨1, fun n hn => ?_⟩
  obtain ⟨n, rfl⟩ : ∃ m, n = m + 1 := ⟨n - 1, by omega⟩
  simp only [front_Rep.l0]
  rw [if_neg (by omega), List.drop_eq_nil_of_le (by omega)]
  rfl
 | succ d ih =>
  intro i hd hi o
  have hlt : i < f.length := by omega
  obtain ⟨K, h⟩ := ih (i + 1) (by omega) (by omega) (meetT o (joinT t f[i]))
  refine ⟨K + 1, fun n hn => ?_⟩
  obtain ⟨n, rfl⟩ : ∃ m, n = m + 1 := ⟨n - 1, by omega⟩
  have h := h n (by omega)
  simp only [] at h
  simp only [front_Rep.l0]
  rw [if_pos (by omega), if_pos (by omega), if_pos (by omega), rdT_nat f i hlt, joinT_f, List.drop_eq_getElem_cons hlt]
  simp only [Option.bind_some]
  rw [meetT_f o (joinT t f[i])]
  simp only [Option.bind_some]
  rw [show wrap64 ((i : Int) + 1) = ((i + 1 : Nat) : Int) by unfold wrap64; omega]
  exact h
theorem frontRep (f : List Tm) (t : Tm) (hl : f.length ≤ 1099511627776) : Ev (fun n => front_Rep.f n f t.f0 t.f1) ((repT f t).f0, (repT f t).f1) := by
 cases f with
 | nil => exact ⟨0, fun n _ => by simp [front_Rep.f, repT]⟩
 | cons x r =>
  obtain ⟨K, h⟩ := frontRep_l r t (by simp at hl; omega) _ 0 rfl (by omega) (joinT t x)
  refine ⟨K, fun n hn => ?_⟩
  have h := h n hn
  simp only [] at h
  have hx : rd_T48 (x :: r) 0 = x := rfl
  simp only [front_Rep.f]
  rw [if_neg (by simp; try omega), if_pos (by simp; try omega), hx, joinT_f]
  simp only [Option.bind_some]
  rw [if_pos (by simp; try omega)]
  simpa [repT] using h
def advL (l : List Upd) (f : List Tm) : List Upd := l.map fun u => ⟨u.f0, repT f u.f1, u.f2⟩
theorem zsetAdvance_l (l : List Upd) (f : List Tm) (hl : l.length ≤ 1099511627776) (hf : f.length ≤ 1099511627776) (hr : ∀ u ∈ l, u.f0.length ≤ 1099511627776) : ∀ d i : Nat, l.length - i = d → i ≤ l.length → Ev (fun n => zset_Advance.l0 n f (advL (l.take i) f) l (l.length : Int) i) (advL l f) := by
 intro d
 induction d with
 | zero =>
  intro i hd hi
  refine ⟨1, fun n hn => ?_⟩
  obtain ⟨n, rfl⟩ : ∃ m, n = m + 1 := ⟨n - 1, by omega⟩
  simp only [zset_Advance.l0]
  rw [if_neg (by omega), List.take_of_length_le (by omega)]
 | succ d ih =>
  intro i hd hi
  have hlt : i < l.length := by omega
  obtain ⟨K1, h1⟩ := ih (i + 1) (by omega) (by omega)
  obtain ⟨K2, h2⟩ := frontRep f l[i].f1 hf
  refine ⟨max K1 K2 + 1, fun n hn => ?_⟩
  obtain ⟨n, rfl⟩ : ∃ m, n = m + 1 := ⟨n - 1, by omega⟩
  have h1 := h1 n (by omega)
  have h2 := h2 n (by omega)
  simp only [] at h1 h2
  simp only [zset_Advance.l0]
  rw [if_pos (by omega), if_pos (by omega), if_pos (by omega), rdU_nat l i hlt, slices_Clone_Val.f_some _ (by have := hr _ (List.getElem_mem hlt); omega)]
  simp only [Option.bind_some]
  rw [h2]
  simp only [Option.bind_some]
  rw [if_pos (by simp [advL]; omega), show wrap64 ((i : Int) + 1) = ((i + 1 : Nat) : Int) by unfold wrap64; omega]
  have e : advL (l.take (i + 1)) f = advL (l.take i) f ++ [⟨l[i].f0, ⟨(repT f l[i].f1).f0, (repT f l[i].f1).f1⟩, l[i].f2⟩] := by
   have e2 : l.take (i + 1) = l.take i ++ [l[i]] := by rw [List.take_add_one, List.getElem?_eq_getElem hlt]; rfl
   unfold advL
   rw [e2, List.map_append]; rfl
  rw [e] at h1
  exact h1
theorem zsetAdvance (l : List Upd) (f : List Tm) (hl : l.length ≤ 1099511627776) (hf : f.length ≤ 1099511627776) (hr : ∀ u ∈ l, u.f0.length ≤ 1099511627776) : Ev (fun n => zset_Advance.f n l f) (advL l f) := by
 have h := zsetAdvance_l l f hl hf hr _ 0 rfl (by omega)
 simpa [zset_Advance.f, advL] using h
theorem advL_mem (l : List Upd) (f : List Tm) (u : Upd) (h : u ∈ advL l f) : ∃ v ∈ l, u.f0 = v.f0 ∧ u.f1 = repT f v.f1 ∧ u.f2 = v.f2 := by
 unfold advL at h
 obtain ⟨v, hv, rfl⟩ := List.mem_map.1 h
 exact ⟨v, hv, rfl, rfl, rfl⟩
theorem okT_iff (t : Tm) : okT t = true ↔ 0 ≤ t.f0 ∧ t.f0 ≤ 1099511627776 ∧ 0 ≤ t.f1 ∧ t.f1 ≤ 1099511627776 := by simp [okT]
theorem repT_ok (f : List Tm) (t : Tm) (hf : ∀ x ∈ f, okT x = true) (ht : okT t = true) : okT (repT f t) = true := by
 cases f with
 | nil => rfl
 | cons x r =>
  have key : ∀ (r : List Tm) (o : Tm), (∀ x ∈ r, okT x = true) → okT o = true → okT (r.foldl (fun o y => meetT o (joinT t y)) o) = true := by
   intro r
   induction r with
   | nil => intro o _ h; exact h
   | cons y r ih =>
    intro o h ho
    refine ih _ (fun x hx => h x (List.mem_cons_of_mem _ hx)) ?_
    have hy := h y List.mem_cons_self
    rw [okT_iff] at *
    simp only [meetT, joinT]
    omega
  refine key r _ (fun y hy => hf y (List.mem_cons_of_mem _ hy)) ?_
  have hx := hf x List.mem_cons_self
  rw [okT_iff] at *
  simp only [joinT]
  omega
theorem refRight_l (l : List Upd) (hl : l.length ≤ 1099511627776) : ∀ d i : Nat, l.length - i = d → i ≤ l.length → Ev (fun n => runnelref09_Right.l0 n l i) ((l.drop i).all fun u => okT u.f1) := by
 intro d
 induction d with
 | zero =>
  intro i hd hi
  refine ⟨1, fun n hn => ?_⟩
  obtain ⟨n, rfl⟩ : ∃ m, n = m + 1 := ⟨n - 1, by omega⟩
  simp only [runnelref09_Right.l0]
  rw [if_neg (by omega), List.drop_eq_nil_of_le (by omega)]
  rfl
 | succ d ih =>
  intro i hd hi
  have hlt : i < l.length := by omega
  obtain ⟨K, h⟩ := ih (i + 1) (by omega) (by omega)
  refine ⟨K + 1, fun n hn => ?_⟩
  obtain ⟨n, rfl⟩ : ∃ m, n = m + 1 := ⟨n - 1, by omega⟩
  have h := h n (by omega)
  simp only [] at h
  simp only [runnelref09_Right.l0]
  rw [if_pos (by omega), if_pos (by omega), rdU_nat l i hlt, show wrap64 ((i : Int) + 1) = ((i + 1 : Nat) : Int) by unfold wrap64; omega, h, List.drop_eq_getElem_cons hlt, List.all_cons]
  generalize ((l.drop (i + 1)).all fun u => okT u.f1) = q
  unfold okT
  repeat' split
  all_goals simp
  all_goals omega
theorem refRight (l : List Upd) (hl : l.length ≤ 1099511627776) : Ev (fun n => runnelref09_Right.f n l) (l.all fun u => okT u.f1) := by
 have h := refRight_l l hl _ 0 rfl (by omega)
 simpa [runnelref09_Right.f] using h
def muchU (l : List Upd) : Bool := decide (60 < l.length) || l.any fun u => longR u.f0
theorem refMuch_l (l : List Upd) (hl : l.length ≤ 1099511627776) : ∀ d i : Nat, l.length - i = d → i ≤ l.length → Ev (fun n => runnelref07_Much.l0 n l i) ((l.drop i).any fun u => longR u.f0) := by
 intro d
 induction d with
 | zero =>
  intro i hd hi
  refine ⟨1, fun n hn => ?_⟩
  obtain ⟨n, rfl⟩ : ∃ m, n = m + 1 := ⟨n - 1, by omega⟩
  simp only [runnelref07_Much.l0]
  rw [if_neg (by omega), List.drop_eq_nil_of_le (by omega)]
  rfl
 | succ d ih =>
  intro i hd hi
  have hlt : i < l.length := by omega
  obtain ⟨K1, h1⟩ := ih (i + 1) (by omega) (by omega)
  obtain ⟨K2, h2⟩ := refLong l[i].f0
  refine ⟨max K1 K2 + 1, fun n hn => ?_⟩
  obtain ⟨n, rfl⟩ : ∃ m, n = m + 1 := ⟨n - 1, by omega⟩
  have h1 := h1 n (by omega)
  have h2 := h2 n (by omega)
  simp only [] at h1 h2
  simp only [runnelref07_Much.l0]
  rw [if_pos (by omega), if_pos (by omega), rdU_nat l i hlt, h2, List.drop_eq_getElem_cons hlt, List.any_cons]
  simp only [Option.bind_some]
  cases longR l[i].f0 with
  | true => simp
  | false =>
   rw [if_neg (by decide), Bool.false_or, show wrap64 ((i : Int) + 1) = ((i + 1 : Nat) : Int) by unfold wrap64; omega]
   exact h1
theorem refMuch (l : List Upd) (hl : l.length ≤ 9223372036854775807) : Ev (fun n => runnelref07_Much.f n l) (muchU l) := by
 unfold muchU
 by_cases h : 60 < l.length
 ·rw [decide_eq_true h, Bool.true_or]
  exact ⟨0, fun n _ => by simp only [runnelref07_Much.f]; rw [if_pos (by omega)]⟩
 ·rw [decide_eq_false h, Bool.false_or]
  obtain ⟨K, h1⟩ := refMuch_l l (by omega) _ 0 rfl (by omega)
  refine ⟨K, fun n hn => ?_⟩
  have h2 := h1 n hn
  simp only [runnelref07_Much.f]
  rw [if_neg (by omega)]
  simpa using h2
theorem muchU_no {l : List Upd} (h : muchU l = false) : l.length ≤ 60 ∧ ∀ u ∈ l, u.f0.length ≤ 30 := by
 unfold muchU at h
 rw [Bool.or_eq_false_iff, decide_eq_false_iff_not, List.any_eq_false] at h
 refine ⟨by omega, fun u hu => ?_⟩
 have h2 := h.2 u hu
 unfold longR at h2
 simp at h2
 omega
def upF (l : List Tm) : List Tm := if l = [] then [⟨0, 0⟩] else newF (upTimes l)
theorem most_cons (m t : Tm) (r : List Tm) : most m (t :: r) = most ⟨max m.f0 t.f0, max m.f1 t.f1⟩ r := rfl
theorem most_ge (l : List Tm) : ∀ m : Tm, m.f0 ≤ (most m l).f0 ∧ m.f1 ≤ (most m l).f1 ∧ ∀ t ∈ l, t.f0 ≤ (most m l).f0 ∧ t.f1 ≤ (most m l).f1 := by
 induction l with
 | nil => intro m; exact ⟨Int.le_refl _, Int.le_refl _, fun t h => by simp at h⟩
 | cons x r ih =>
  intro m
  obtain ⟨h1, h2, h3⟩ := ih ⟨max m.f0 x.f0, max m.f1 x.f1⟩
  rw [most_cons]
  dsimp only at h1 h2
  refine ⟨by omega, by omega, fun t ht => ?_⟩
  rcases List.mem_cons.1 ht with rfl | ht
  ·omega
  ·exact h3 t ht
theorem refUpper_l (x : List Upd) (hl : x.length ≤ 549755813888) (t0 : Tm) (u0 : Upd) (r0 : List Upd) (hx : x = u0 :: r0) (hok : ∀ u ∈ x, okT u.f1 = true) : ∀ d i : Nat, x.length - i = d → i ≤ x.length → ∀ m : Tm, m = most u0.f1 ((x.take i).map (·.f1)) → Ev (fun n => runnelref09_Upper.l0 n x m.f0 m.f1 i) (newF (upTimes (x.map (·.f1)))) := by
 intro d
 induction d with
 | zero =>
  intro i hd hi m hm
  rw [List.take_of_length_le (by omega)] at hm
  have hu0 := (okT_iff _).1 (hok u0 (by rw [hx]; exact List.mem_cons_self))
  have hb := most_le 1099511627776 (x.map (·.f1)) u0.f1 (by omega) (by omega) (by omega) (by omega) (fun t ht => by
   obtain ⟨u, hu, rfl⟩ := List.mem_map.1 ht
   have := (okT_iff _).1 (hok u hu)
   omega)
  rw [← hm] at hb
  have e : upTimes (x.map (·.f1)) = [⟨0, m.f1 + 1⟩, ⟨m.f0 + 1, 0⟩] := by
   rw [hx] at hm ⊢
   rw [hm]
   rfl
  rw [e]
  obtain ⟨K, h⟩ := refNew [⟨0, m.f1 + 1⟩, ⟨m.f0 + 1, 0⟩] (by simp)
  simp only [] at h
  refine ⟨K + 1, fun n hn => ?_⟩
  obtain ⟨n, rfl⟩ : ∃ m, n = m + 1 := ⟨n - 1, by omega⟩
  simp only [runnelref09_Upper.l0]
  rw [if_neg (by omega), show wrap64 (m.f1 + 1) = m.f1 + 1 by unfold wrap64; omega, show wrap64 (m.f0 + 1) = m.f0 + 1 by unfold wrap64; omega, h n (by omega)]
  rfl
 | succ d ih =>
  intro i hd hi m hm
  have hlt : i < x.length := by omega
  have e2 : x.take (i + 1) = x.take i ++ [x[i]] := by rw [List.take_add_one, List.getElem?_eq_getElem hlt]; rfl
  obtain ⟨K, h⟩ := ih (i + 1) (by omega) (by omega) ⟨max m.f0 x[i].f1.f0, max m.f1 x[i].f1.f1⟩ (by
   rw [e2, List.map_append, List.map_singleton, most_snoc, ← hm])
  refine ⟨K + 1, fun n hn => ?_⟩
  obtain ⟨n, rfl⟩ : ∃ m, n = m + 1 := ⟨n - 1, by omega⟩
  have h := h n (by omega)
  simp only [] at h
  simp only [runnelref09_Upper.l0]
  rw [if_pos (by omega), if_pos (by omega), rdU_nat x i hlt, show wrap64 ((i : Int) + 1) = ((i + 1 : Nat) : Int) by unfold wrap64; omega]
  by_cases h0 : x[i].f1.f0 > m.f0
  ·rw [if_pos h0, show max m.f0 x[i].f1.f0 = x[i].f1.f0 by omega] at *
   by_cases h1 : x[i].f1.f1 > m.f1
   ·rw [if_pos h1]; rw [show max m.f1 x[i].f1.f1 = x[i].f1.f1 by omega] at h; exact h
   ·rw [if_neg h1]; rw [show max m.f1 x[i].f1.f1 = m.f1 by omega] at h; exact h
  ·rw [if_neg h0]
   rw [show max m.f0 x[i].f1.f0 = m.f0 by omega] at h
   by_cases h1 : x[i].f1.f1 > m.f1
   ·rw [if_pos h1]; rw [show max m.f1 x[i].f1.f1 = x[i].f1.f1 by omega] at h; exact h
   ·rw [if_neg h1]; rw [show max m.f1 x[i].f1.f1 = m.f1 by omega] at h; exact h
theorem refUpper (x : List Upd) (hl : x.length ≤ 549755813888) (hok : ∀ u ∈ x, okT u.f1 = true) : Ev (fun n => runnelref09_Upper.f n x) (upF (x.map (·.f1))) := by
 cases x with
 | nil => exact ⟨0, fun n _ => by simp [runnelref09_Upper.f, upF]⟩
 | cons u0 r0 =>
  obtain ⟨K, h⟩ := refUpper_l (u0 :: r0) hl u0.f1 u0 r0 rfl hok _ 0 rfl (by omega) u0.f1 rfl
  refine ⟨K, fun n hn => ?_⟩
  have h := h n hn
  simp only [] at h
  have hx : rd_T50 (u0 :: r0) 0 = u0 := rfl
  simp only [runnelref09_Upper.f]
  rw [if_neg (by simp; try omega), if_pos (by simp; try omega), hx]
  rw [show upF ((u0 :: r0).map (·.f1)) = newF (upTimes ((u0 :: r0).map (·.f1))) from if_neg (by simp)]
  exact h
theorem newF_one (t : Tm) : newF [t] = [t] :=
 (newF_least [t]).toLeast.uniq ⟨List.pairwise_singleton _ _, fun s => ⟨fun h => ⟨h, fun x hx _ => by rw [List.mem_singleton.1 hx, List.mem_singleton.1 h]⟩, fun h => h.1⟩⟩
theorem upF_form (l : List Tm) : checkF (upF l) ≠ 6 := by
 unfold upF
 by_cases h : l = []
 ·rw [if_pos h]; exact checkF_form _ (newF_one _)
 ·rw [if_neg h]; exact checkF_form _ (newF_idem _)
theorem upF_ahead (l : List Tm) (t : Tm) (h : t ∈ l) : anyAhead (upF l) t = false := by
 have hne : l ≠ [] := fun e => by rw [e] at h; simp at h
 unfold upF
 rw [if_neg hne]
 unfold anyAhead
 rw [List.any_eq_false]
 intro x hx
 have hm := newF_mem _ x hx
 cases l with
 | nil => exact absurd rfl hne
 | cons a r =>
  obtain ⟨_, _, h3⟩ := most_ge (a :: r) a
  have h4 := h3 t h
  simp only [upTimes, List.mem_cons, List.not_mem_nil, or_false] at hm
  rw [leT_iff]
  rcases hm with rfl | rfl
  ·dsimp only; omega
  ·dsimp only; omega
theorem upF_len (l : List Tm) : (upF l).length ≤ 2 := by
 unfold upF
 split
 ·simp
 ·have h := newF_len (upTimes l)
  have h2 : (upTimes l).length ≤ 2 := by unfold upTimes; split <;> simp
  omega
end Go.Proofs.Ytpflmgbpjhbmnaa.B
end
section
namespace Go.Proofs.Ytpflmgbpjhbmnaa.B
open Go Go.RowKit Go.Proofs Go.Proofs.YtpflmgbpjhbmnaaW.PrintWords Go.Proofs.YtpflmgbpjhbmnaaW.PrintLast Go.Proofs.YtpflmgbpjhbmnaaW.PrintMore Go.Proofs.Ytpflmgbpjhbmnaa.Rg
set_option linter.unusedVariables false
set_option linter.unusedSimpArgs false
set_option maxRecDepth 100000
theorem cloned_l (l : List (List S56)) (hl : l.length ≤ 1099511627776) (hr : ∀ r ∈ l, r.length ≤ 1099511627776) : ∀ d i : Nat, l.length - i = d → i ≤ l.length → Ev (fun n => batch_cloned.l0 n (l.take i) l (l.length : Int) i) l := by
 intro d
 induction d with
 | zero =>
  intro i hd hi
  refine ⟨1, fun n hn => ?_⟩
  obtain ⟨n, rfl⟩ : ∃ m, n = m + 1 := ⟨n - 1, by omega⟩
  simp only [batch_cloned.l0]
  rw [if_neg (by omega), List.take_of_length_le (by omega)]
 | succ d ih =>
  intro i hd hi
  have hlt : i < l.length := by omega
  obtain ⟨K, h⟩ := ih (i + 1) (by omega) (by omega)
  refine ⟨K + 1, fun n hn => ?_⟩
  obtain ⟨n, rfl⟩ : ∃ m, n = m + 1 := ⟨n - 1, by omega⟩
  have h := h n (by omega)
  simp only [] at h
  have hrd : rd_L3 l (i : Int) = l[i] := by simp [rd_L3, List.getD, hlt]
  simp only [batch_cloned.l0]
  rw [if_pos (by omega), if_pos (by omega), if_pos (by omega), hrd, slices_Clone_Val.f_some _ (by have := hr _ (List.getElem_mem hlt); omega)]
  simp only [Option.bind_some]
  rw [if_pos (by rw [List.length_take]; omega), show wrap64 ((i : Int) + 1) = ((i + 1 : Nat) : Int) by unfold wrap64; omega]
  have e : l.take (i + 1) = l.take i ++ [l[i]] := by rw [List.take_add_one, List.getElem?_eq_getElem hlt]; rfl
  rw [e] at h
  exact h
theorem cloned_f (l : List (List S56)) (hl : l.length ≤ 1099511627776) (hr : ∀ r ∈ l, r.length ≤ 1099511627776) : ∃ k, batch_cloned.f k l = some l := by
 have h := cloned_l l hl hr _ 0 rfl (by omega)
 obtain ⟨k, h⟩ := h.rounds
 exact ⟨k, by simpa [batch_cloned.f] using h⟩
set_option maxHeartbeats 8000000 in
theorem rests_calls (p : Nat) (b : Bt) (A : Nat → Option Addr) (c : Nat → Nat) (g : Gr) (i : Nat) (w : World) (hB : BatchR w p b A c) (hg : Gs b g) (hi : i < g.length) (hl : b.times.length < 1099511627776) (hr : ∀ y ∈ g.flatMap (·.2), y.1.length ≤ 1099511627776) :
  Calls Try.prog 36 #[.pointer (some ⟨p, 0, none⟩), .int .i64 i] w fun e w' => ∃ v0_ : Value, e = .returned v0_ ∧ Kd.S kV 24 w' w.heap.size (fun _ => True) v0_ (g[i].2.map (·.1)) ∧ Below w.heap.size w w' := by
 have HB := Aside0.mk hB
 have HG := Aside0.mk hg
 clear hB hg
 have hklen : b.keys.length = g.length := by rw [HG.out.keys, List.length_map]
 have HHas := Aside0.mk (has_calls p b A c (i : Int) w HB.out)
 have hhas : decide (0 ≤ (i : Int) ∧ (i : Int) < (b.keys.length : Int)) = true := decide_eq_true (by omega)
 rw [hhas] at HHas
 clear hhas
 obtain ⟨all, hall⟩ : ∃ all : List Rst, all = g.flatMap (·.2) := ⟨_, rfl⟩
 rw [← hall] at hr
 have hne1 := HG.out.ne1
 have hne2 := HG.out.ne2
 rw [← hall] at hne2
 have hrl : b.rests.length = all.length := by rw [HG.out.rests, List.length_map, hall]
 have htl : b.times.length = (all.flatMap (·.2)).length := by rw [HG.out.times, List.length_map, hall]
 have hal : all.length ≤ 1099511627776 := by have := flat_ge (fun y : Rst => y.2) all hne2; omega
 have hgl : g.length ≤ 1099511627776 := by have h1 := flat_ge (·.2) g hne1; rw [← hall] at h1; omega
 obtain ⟨fr, hfr⟩ : ∃ fr : Nat, fr = ((g.map (·.2.length)).take i).sum := ⟨_, rfl⟩
 obtain ⟨te, hto⟩ : ∃ te : Nat, te = ((g.map (·.2.length)).take (i + 1)).sum := ⟨_, rfl⟩
 have hfrt : te = fr + g[i].2.length := by
  have h1 := take_sum_le (g.map (·.2.length)) i (by simpa using hi)
  rw [hto, hfr, h1]; simp
 have hnz : 0 < g[i].2.length := List.length_pos_iff.2 (hne1 _ (List.getElem_mem hi))
 have htal : te ≤ all.length := by rw [hto, hall]; exact flat_end (·.2) g (i + 1)
 have hsl : (b.rests.take te).drop fr = g[i].2.map (·.1) := by
  rw [HG.out.rests, ← hall, ← List.map_take, ← List.map_drop, hall, hto, hfr]
  congr 1
  exact flat_slice (·.2) g i hi
 have HSpan : Aside0 (∀ W, Below w.heap.size w W → Calls Try.prog 75 #[.slice (A 4) b.kend.length (c 4), .int .i64 i] W fun e w' => e = .returned (.tuple #[.int .i64 fr, .int .i64 te]) ∧ Aside0 (Below w.heap.size w w')) := ⟨fun W hW => by
  have hk4 := (HB.out.below hW).kend
  refine (batch_span.calls (A 4) (c 4) b.kend (i : Int) fr te W hk4.2.2 hk4.2.1 ?_).mono ?_
  ·rw [HG.out.kend, span_psum _ i (by simpa using hi) (by simpa using hgl), hfr, hto]
  ·rintro e w' ⟨g1, g2⟩
   exact ⟨g1, ⟨hW.trans (g2.below.mono hW.size)⟩⟩⟩
 have q5 := HB.out.rests.1
 obtain ⟨ad5, A2, c2, e5, _⟩ := at_L3 HB.out.rests.2.2 (fr : Int) (by omega) (by omega)
 rw [e5] at q5
 have hC := HB.out.rests.2.2
 rw [e5] at hC
 have hC1 := Kd.C_take (m := te) hC (by omega)
 have hlt1 : (b.rests.take te).length = te := by rw [List.length_take]; omega
 have hC2 := Kd.C_drop (m := fr) (c := te) hC1 (by omega) (by omega)
 rw [if_neg (by omega), hsl] at hC2
 have hC3 : Kd.C kV w (some (ad5.add fr)) (g[i].2.map (·.1)).length (g[i].2.map (·.1)) := by
  have e : (some ad5).map (fun x => x.add (fr * kV.sz)) = some (ad5.add fr) := by simp [kV, Kd.slice]
  rw [e] at hC2; exact hC2
 have hrr : ∀ r ∈ g[i].2.map (·.1), r.length ≤ 1099511627776 := by
  intro r hr2
  obtain ⟨y, hy, rfl⟩ := List.mem_map.1 hr2
  exact hr y (by rw [hall]; exact List.mem_flatMap.2 ⟨g[i], List.getElem_mem hi, hy⟩)
 obtain ⟨kc, hkc⟩ := cloned_f (g[i].2.map (·.1)) (by rw [List.length_map]; omega) hrr
 have hln : (g[i].2.map (·.1)).length = te - fr := by rw [List.length_map]; omega
 have HCl : Aside0 (∀ W, Below w.heap.size w W → Calls Try.prog 73 #[.slice (some (ad5.add fr)) (te - fr) (te - fr)] W fun e w' => ∃ v0, e = .returned v0 ∧ Aside0 (Kd.S kV 24 w' w.heap.size (fun _ => True) v0 (g[i].2.map (·.1))) ∧ Aside0 (Below w.heap.size w w')) := ⟨fun W hW => by
  rw [← hln]
  refine (batch_cloned.calls kc (some (ad5.add fr)) _ _ _ W (Kd.C_below hC3 hW) (Nat.le_refl _) hkc).mono ?_
  rintro e w' ⟨v0, rfl, g1, g2⟩
  exact ⟨v0, rfl, ⟨Kd.S_lower g1 hW.size⟩, ⟨hW.trans (g2.mono hW.size)⟩⟩⟩
 have hft : fr < te := by omega
 have htr : te ≤ b.rests.length := by omega
 have htb : te ≤ 1099511627776 := by omega
 have hcc := HB.out.rests.2.1
 clear hC hC1 hC2 hC3 hrr hkc hln hlt1 hsl hfrt hnz htal hr hrl htl hal hgl hne1 hne2 hfr hto e5 hall hklen
 have i1 : decide ((0 : Int) ≤ (fr : Int)) = true := decide_eq_true (by omega)
 have i2 : decide ((fr : Int) ≤ (te : Int)) = true := decide_eq_true (by omega)
 have i3 : (fr : Int) ≤ (te : Int) := by omega
 have i4 : (te : Int) ≤ (c 5 : Int) := by omega
 have i5 : te ≤ c 5 := by omega
 have i6 : fr ≤ te := by omega
 have i7 : ¬ te - fr = 0 := by omega
 have i8 : ¬ te = fr := by omega
 go_enter Try.func36, Try.ntmps36
 go_wp2_with (first
  | (go_at_call 74; refine HHas.out.mono ?_; rintro e w1 ⟨rfl, HB1⟩; have hc4 := (HB.out.below HB1).kend.1; have HB1' := Aside0.mk HB1; clear HB1)
  | (go_at_call 75; refine (HSpan.out _ HB1'.out).mono ?_; rintro e w2 ⟨rfl, HB2⟩; have hc5 := pw_cell_below HB2.out q5)
  | (go_at_call 73; refine (HCl.out _ HB2.out).mono ?_; rintro e w3 ⟨v0, rfl, HS3, HB3⟩))
 go_ret
 exact ⟨v0, rfl, HS3.out, HB3.out⟩
end Go.Proofs.Ytpflmgbpjhbmnaa.B
end
section
namespace Go.Proofs.Ytpflmgbpjhbmnaa.B
open Go Go.RowKit Go.Proofs Go.Proofs.YtpflmgbpjhbmnaaW.PrintWords Go.Proofs.YtpflmgbpjhbmnaaW.PrintLast Go.Proofs.YtpflmgbpjhbmnaaW.PrintMore Go.Proofs.Ytpflmgbpjhbmnaa.Rg
set_option linter.unusedVariables false
set_option linter.unusedSimpArgs false
set_option maxRecDepth 100000
def newU (key : Int) (l : List Upd) (since : List Tm) : Option (List Upd) × Int :=
 if key < 0 ∨ 16 < key then (none, 1)
 else if ∃ u ∈ l, (u.f0.length : Int) < key then (none, 9)
 else if checkF since ≠ 0 then (none, checkF since)
 else if (consU (if since.length = 0 then l else advL l since)).2 ≠ 0 then (none, (consU (if since.length = 0 then l else advL l since)).2)
 else (some (consU (if since.length = 0 then l else advL l since)).1, 0)
structure Lim (cl : List Upd) (since : List Tm) : Prop where
 n : cl.length < 1099511627776
 r : ∀ u ∈ cl, u.f0.length ≤ 1099511627776
 s : since.length ≤ 1099511627776
structure Made (W : World) (N p : Nat) (key weight : Int) (since : List Tm) (cl : List Upd) : Prop where
 at_ : BatchAt W N p (batB key weight since cl)
 lim : Lim cl since
theorem Made.below {W W1 : World} {N p : Nat} {key weight : Int} {since : List Tm} {cl : List Upd} (h : Made W N p key weight since cl) (hb : Below W.heap.size W W1) : Made W1 N p key weight since cl := ⟨h.at_.below hb, h.lim⟩
theorem Made.lower {W : World} {N N' p : Nat} {key weight : Int} {since : List Tm} {cl : List Upd} (h : Made W N p key weight since cl) (hb : N' ≤ N) : Made W N' p key weight since cl := ⟨h.at_.lower hb, h.lim⟩
theorem newU_lim {key : Int} {l : List Upd} {since : List Tm} {cl : List Upd} (h : (newU key l since).1 = some cl) (hl : Lim l since) : Lim cl since ∧ 0 ≤ key ∧ key ≤ 16 ∧ (∀ u ∈ l, key ≤ (u.f0.length : Int)) ∧ checkF since = 0 ∧ cl = (consU (if since.length = 0 then l else advL l since)).1 ∧ (consU (if since.length = 0 then l else advL l since)).2 = 0 ∧ (newU key l since).2 = 0 ∧ ∀ u ∈ cl, ∃ v ∈ l, u.f0 = v.f0 := by
 have hlen : (if since.length = 0 then l else advL l since).length = l.length := by split <;> simp [advL]
 have hmem : ∀ u ∈ (if since.length = 0 then l else advL l since), ∃ v ∈ l, u.f0 = v.f0 := by
  split
  ·exact fun u hu => ⟨u, hu, rfl⟩
  ·intro u hu
   obtain ⟨v, hv, e, _⟩ := advL_mem _ _ _ hu
   exact ⟨v, hv, e⟩
 generalize hal : (if since.length = 0 then l else advL l since) = al at hlen hmem
 unfold newU at h ⊢
 rw [hal] at h ⊢
 by_cases h1 : key < 0 ∨ 16 < key
 ·rw [if_pos h1] at h; cases h
 ·rw [if_neg h1] at h ⊢
  by_cases h2 : ∃ u ∈ l, (u.f0.length : Int) < key
  ·rw [if_pos h2] at h; cases h
  ·rw [if_neg h2] at h ⊢
   by_cases h3 : checkF since ≠ 0
   ·rw [if_pos h3] at h; cases h
   ·rw [if_neg h3] at h ⊢
    by_cases h4 : (consU al).2 ≠ 0
    ·rw [if_pos h4] at h; cases h
    ·rw [if_neg h4] at h ⊢
     injection h with h
     subst h
     have h5 := consU_len al
     have hm2 : ∀ u ∈ (consU al).1, ∃ v ∈ l, u.f0 = v.f0 := fun u hu => by
      obtain ⟨v, hv, e, _⟩ := consU_mem al u hu
      obtain ⟨x, hx, e2⟩ := hmem v hv
      exact ⟨x, hx, e.trans e2⟩
     refine ⟨⟨by have := hl.n; omega, fun u hu => ?_, hl.s⟩, by omega, by omega, fun u hu => ?_, by omega, rfl, by omega, rfl, hm2⟩
     ·obtain ⟨v, hv, e⟩ := hm2 u hu
      rw [e]; exact hl.r v hv
     ·have : ¬ (u.f0.length : Int) < key := fun h => h2 ⟨u, hu, h⟩
      omega
def NewM (w : World) (key weight : Int) (since : List Tm) (r : Option (List Upd) × Int) (e : Ending) (w' : World) : Prop :=
 ∃ vp : Value, e = .returned (.tuple #[vp, .int .i64 r.2]) ∧ Below w.heap.size w w' ∧ match r.1 with | none => vp = .pointer none | some cl => ∃ p, vp = .pointer (some ⟨p, 0, none⟩) ∧ Made w' w.heap.size p key weight since cl
theorem newB_newU (key : Int) (l : List Upd) (since : List Tm) : newB key l since (checkF since) (advL l since) = ((newU key l since).1.map (batB key l.length since), (newU key l since).2) := by
 unfold newB newU
 by_cases h1 : key < 0 ∨ 16 < key
 ·rw [if_pos h1, if_pos h1]; rfl
 rw [if_neg h1, if_neg h1]
 by_cases h2 : ∃ u ∈ l, (u.f0.length : Int) < key
 ·rw [if_pos h2, if_pos h2]; rfl
 rw [if_neg h2, if_neg h2]
 by_cases h3 : checkF since ≠ 0
 ·rw [if_pos h3, if_pos h3]; rfl
 rw [if_neg h3, if_neg h3]
 by_cases h4 : (consU (if since.length = 0 then l else advL l since)).2 ≠ 0
 ·rw [if_pos h4, if_pos h4]; rfl
 rw [if_neg h4, if_neg h4, batB_eq]
 rfl
theorem newM (key : Int) (A0 A1 : Option Addr) (c0 c1 : Nat) (l : List Upd) (since : List Tm) (w : World) (hr0 : Kd.C k50 w A0 l.length l) (hc0 : l.length ≤ c0) (hr1 : Kd.C k48 w A1 since.length since) (hc1 : since.length ≤ c1) (hl : Lim l since) :
  Calls Try.prog 18 #[.int .i64 key, .slice A0 l.length c0, .slice A1 since.length c1] w (NewM w key l.length since (newU key l since)) := by
 obtain ⟨kc, hck⟩ := (frontCheck since).rounds
 obtain ⟨ka, hka⟩ := (zsetAdvance l since (by have := hl.n; omega) hl.s hl.r).rounds
 refine (new_calls kc ka key A0 A1 c0 c1 l (advL l since) since (checkF since) w hr0 hc0 hr1 hc1 hl.n hl.r hl.s hck hka (by simp [advL]) (fun u hu => by
  obtain ⟨v, hv, e, _⟩ := advL_mem l since u hu
  exact ⟨v, hv, e⟩)).mono ?_
 rintro e w' ⟨vp, rfl, h1, h2⟩
 rw [newB_newU] at h2 ⊢
 refine ⟨vp, rfl, h1, ?_⟩
 cases hn : (newU key l since).1 with
 | none => rw [hn] at h2; exact h2
 | some cl =>
  obtain ⟨q1, _⟩ := newU_lim hn hl
  rw [hn] at h2
  obtain ⟨p, g1, g2⟩ := h2
  exact ⟨p, g1, g2, q1⟩
section
variable {W : World} {N p : Nat} {key weight : Int} {since : List Tm} {cl : List Upd}
theorem grpG_len (h : BatG key weight since cl (batB key weight since cl) (grpG key.toNat cl)) : (grpG key.toNat cl).length ≤ cl.length := by
 have h1 := flat_ge (fun x : List S56 × List Rst => x.2) _ h.gs.ne1
 have h2 := flat_ge (fun y : Rst => y.2) _ h.gs.ne2
 have h3 : (batB key weight since cl).times.length = cl.length := by rw [h.times, List.length_map]
 rw [h.gs.times, List.length_map] at h3
 omega
theorem Made.g (h : Made W N p key weight since cl) : BatG key weight since cl (batB key weight since cl) (grpG key.toNat cl) := batG key weight since cl h.lim.r
theorem Made.tl (h : Made W N p key weight since cl) : (batB key weight since cl).times.length < 1099511627776 := by rw [h.g.times, List.length_map]; exact h.lim.n
theorem lenM (h : Made W N p key weight since cl) : Calls Try.prog 33 #[.pointer (some ⟨p, 0, none⟩)] W fun e w' => e = .returned (.int .i64 cl.length) ∧ Below W.heap.size W w' := by
 obtain ⟨A, c, hR⟩ := h.at_.reads
 refine (len_calls p _ A c W hR).mono ?_
 rintro e w' ⟨rfl, h2⟩
 exact ⟨by rw [h.g.times, List.length_map], h2⟩
theorem weightM (h : Made W N p key weight since cl) : Calls Try.prog 34 #[.pointer (some ⟨p, 0, none⟩)] W fun e w' => e = .returned (.int .i64 weight) ∧ Below W.heap.size W w' := by
 obtain ⟨A, c, hR⟩ := h.at_.reads
 have := weight_calls p _ A c W hR
 rw [h.g.weight] at this
 exact this
theorem keysM (h : Made W N p key weight since cl) : Calls Try.prog 30 #[.pointer (some ⟨p, 0, none⟩)] W fun e w' => ∃ v0_ : Value, e = .returned v0_ ∧ Kd.S kV 24 w' W.heap.size (fun _ => True) v0_ ((grpG key.toNat cl).map (·.1)) ∧ Below W.heap.size W w' := by
 obtain ⟨A, c, hR⟩ := h.at_.reads
 have hg := grpG_len h.g
 obtain ⟨k, hk⟩ := cloned_f (batB key weight since cl).keys (by rw [h.g.gs.keys, List.length_map]; have := h.lim.n; omega) (fun r hr => by
  rw [h.g.gs.keys] at hr
  obtain ⟨x, hx, rfl⟩ := List.mem_map.1 hr
  exact h.g.wk x hx)
 have := keys_calls k p _ A c W _ hR hk
 rw [h.g.gs.keys] at this
 exact this
theorem upsM (h : Made W N p key weight since cl) : Calls Try.prog 20 #[.pointer (some ⟨p, 0, none⟩)] W fun e w' => ∃ v0_ : Value, e = .returned v0_ ∧ Kd.S k50 50 w' W.heap.size (fun _ => True) v0_ (upsG (grpG key.toNat cl)) ∧ Below W.heap.size W w' := by
 obtain ⟨A, c, hR⟩ := h.at_.reads
 exact ups_calls p _ A c _ W hR h.g.gs h.tl h.g.wk h.g.wr
theorem restsM (h : Made W N p key weight since cl) (i : Nat) (hi : i < (grpG key.toNat cl).length) : Calls Try.prog 36 #[.pointer (some ⟨p, 0, none⟩), .int .i64 i] W fun e w' => ∃ v0_ : Value, e = .returned v0_ ∧ Kd.S kV 24 w' W.heap.size (fun _ => True) v0_ ((grpG key.toNat cl)[i].2.map (·.1)) ∧ Below W.heap.size W w' := by
 obtain ⟨A, c, hR⟩ := h.at_.reads
 exact rests_calls p _ A c _ i W hR h.g.gs hi h.tl h.g.wr
theorem lowerM (h : Made W N p key weight since cl) : Calls Try.prog 21 #[.pointer (some ⟨p, 0, none⟩)] W fun e w' => ∃ v0_ : Value, e = .returned v0_ ∧ Kd.R k48 48 w' W.heap.size (fun _ => True) v0_ (newF (cl.map (·.f1))) ∧ Below W.heap.size W w' := by
 obtain ⟨A, c, hR⟩ := h.at_.reads
 have h1 := h.tl
 have := lower_calls p _ A c W _ hR (front_New.f_some _ (by omega))
 rw [h.g.times] at this
 exact this
theorem upperM (h : Made W N p key weight since cl) (hok : ∀ u ∈ cl, okT u.f1 = true) : Calls Try.prog 22 #[.pointer (some ⟨p, 0, none⟩)] W fun e w' => ∃ v0_ : Value, e = .returned v0_ ∧ Kd.R k48 48 w' W.heap.size (fun _ => True) v0_ (upF (cl.map (·.f1))) ∧ Below W.heap.size W w' := by
 obtain ⟨A, c, hR⟩ := h.at_.reads
 have ht := h.g.times
 cases hc : cl with
 | nil =>
  subst hc
  exact upper_nil_calls p _ A c W hR (by rw [ht]; rfl)
 | cons u0 r0 =>
  have hu : upF ((u0 :: r0).map (·.f1)) = newF (upTimes (cl.map (·.f1))) := by rw [hc]; exact if_neg (by simp)
  rw [hu]
  refine upper_calls p _ A c W u0.f1 (r0.map (·.f1)) _ hR (by rw [ht, hc]; rfl) h.tl (fun t ht2 => ?_) ?_
  ·rw [ht] at ht2
   obtain ⟨u, hu2, rfl⟩ := List.mem_map.1 ht2
   have := (okT_iff _).1 (hok u hu2)
   omega
  ·rw [ht]
   exact front_New.f_some _ (by unfold upTimes; split <;> simp)
end
theorem upsG_times {key weight : Int} {since : List Tm} {cl : List Upd} (h : BatG key weight since cl (batB key weight since cl) (grpG key.toNat cl)) : (upsG (grpG key.toNat cl)).map (·.f1) = cl.map (·.f1) := by
 unfold upsG
 rw [ups_times, ← h.gs.times, h.times]
end Go.Proofs.Ytpflmgbpjhbmnaa.B
end
section
namespace Go.Proofs.Ytpflmgbpjhbmnaa.B
open Go Go.RowKit Go.Proofs Go.Proofs.YtpflmgbpjhbmnaaW.PrintWords
set_option linter.unusedVariables false
set_option linter.unusedSimpArgs false
set_option maxRecDepth 100000
def lvA : List S56 := [⟨0, 1, ⟨#[]⟩⟩, ⟨1, 0, ⟨#[97]⟩⟩]
def lvB : List S56 := [⟨0, 1, ⟨#[]⟩⟩, ⟨1, 0, ⟨#[98]⟩⟩]
def lvL : List Upd := [⟨lvA, ⟨0, 0⟩, 1⟩, ⟨lvB, ⟨0, 1⟩, 2⟩, ⟨lvA, ⟨0, 0⟩, 1⟩]
def lvC : List Upd := [⟨lvA, ⟨0, 0⟩, 2⟩, ⟨lvB, ⟨0, 1⟩, 2⟩]
theorem lv_new : newU 1 lvL [] = (some lvC, 0) := by
 kernel_rfl
theorem lv_glen : (grpG 1 lvC).length = 1 := by kernel_rfl
theorem lv_rests : ∀ h : 0 < (grpG (1 : Int).toNat lvC).length, ((grpG (1 : Int).toNat lvC)[0].2.map (·.1)).length = 2 := by
 intro h
 kernel_rfl
theorem heap_new_at (W : World) (o : Obj) (k : Nat) (hk : k = W.heap.size) : (W.alloc o).heap[k]? = some o := by rw [hk]; exact heap_alloc_new _ _
theorem lv_up : upF (lvC.map (·.f1)) = [⟨0, 2⟩, ⟨1, 0⟩] := by
 have e : upF (lvC.map (·.f1)) = newF [⟨0, 2⟩, ⟨1, 0⟩] := by
  unfold upF
  rw [if_neg (by simp [lvC])]
  rfl
 rw [e]
 refine (newF_least _).toLeast.uniq ⟨?_, fun s => ⟨fun h => ⟨h, fun x hx hl => ?_⟩, fun h => h.1⟩⟩
 ·simp [ordT_lt]
 ·simp at h hx
  rw [leT_iff] at hl
  rcases h with rfl | rfl <;> rcases hx with rfl | rfl <;> simp_all
theorem lv_ok : ∀ u ∈ lvC, okT u.f1 = true := by
 intro u hu
 simp [lvC] at hu
 rcases hu with rfl | rfl <;> rfl
theorem lv_lim : Lim lvL [] := by
 refine ⟨by simp [lvL], fun u hu => ?_, by simp⟩
 simp [lvL] at hu
 rcases hu with rfl | rfl | rfl <;> simp [lvA, lvB]
theorem C_block {α : Type} {d : Kd α} {W : World} {g t : Nat} {cs : List Value} {xs : List α} (hb : W.heap[g]? = some (.cells cs.toArray t (0, 0))) (hr : Reps (d.K W) d.sz xs cs) (hl : xs.length ≤ 9223372036854775807) : Kd.C d W (some ⟨g, 0, none⟩) xs.length xs := by
 refine ⟨rfl, hl, fun _ => ⟨⟨g, 0, none⟩, rfl, fun j p hj => ⟨(cs.drop (j * d.sz)).take d.sz, d.K_len (hr.2 j p hj), hr.2 j p hj, fun i u hu => ?_⟩⟩⟩
 rw [List.getElem?_take] at hu
 split at hu
 ·rw [List.getElem?_drop] at hu
  have e : (⟨g, 0, none⟩ : Addr).add (j * d.sz + i) = ⟨g, j * d.sz + i, none⟩ := by rw [add_at, Nat.zero_add]
  rw [e, blk_cell hb]
  simpa using hu
 ·cases hu
theorem reps_cons {α : Type} {R : α → List Value → Prop} {size : Nat} {x : α} {xs : List α} {c cs : List Value} (hx : R x c) (hc : c.length = size) (h : Reps R size xs cs) : Reps R size (x :: xs) (c ++ cs) := by
 refine ⟨by rw [List.length_append, h.1, hc, List.length_cons, Nat.add_mul, Nat.one_mul, Nat.add_comm], fun j p hj => ?_⟩
 cases j with
 | zero =>
  simp at hj
  subst hj
  rw [Nat.zero_mul, List.drop_zero, ← hc, List.take_left]
  exact hx
 | succ j =>
  simp at hj
  have h2 := h.2 j p hj
  rw [Nat.succ_mul, Nat.add_comm, ← hc, List.drop_length_add_append, hc]
  exact h2
end Go.Proofs.Ytpflmgbpjhbmnaa.B
end
section
namespace Go.Proofs.Ytpflmgbpjhbmnaa.B
open Go Go.RowKit Go.Proofs Go.Proofs.YtpflmgbpjhbmnaaW.PrintWords Go.Proofs.YtpflmgbpjhbmnaaW.PrintLast Go.Proofs.YtpflmgbpjhbmnaaW.PrintMore Go.Proofs.Ytpflmgbpjhbmnaa.Rg
set_option linter.unusedVariables false
set_option linter.unusedSimpArgs false
set_option maxRecDepth 100000
abbrev lvRowA : Array Value := #[.int .i64 0, .int .i64 1, .string ⟨#[]⟩, .int .i64 1, .int .i64 0, .string ⟨#[97]⟩]
abbrev lvRowB : Array Value := #[.int .i64 0, .int .i64 1, .string ⟨#[]⟩, .int .i64 1, .int .i64 0, .string ⟨#[98]⟩]
abbrev lvCells (g0 g1 : Nat) : Array Value := #[.slice (some ⟨g0, 0, none⟩) 2 2, .int .i64 0, .int .i64 0, .int .i64 1, .slice (some ⟨g1, 0, none⟩) 2 2, .int .i64 0, .int .i64 1, .int .i64 2, .slice (some ⟨g0, 0, none⟩) 2 2, .int .i64 0, .int .i64 0, .int .i64 1]
theorem lv_CA {W : World} {g : Nat} (h : W.heap[g]? = some (.cells lvRowA 56 (0, 0))) : Kd.C k56 W (some ⟨g, 0, none⟩) lvA.length lvA :=
 C_block (cs := lvRowA.toList) h (reps_cons (c := [.int .i64 0, .int .i64 1, .string ⟨#[]⟩]) (k56_mk W ⟨0, 1, ⟨#[]⟩⟩) rfl (reps_cons (c := [.int .i64 1, .int .i64 0, .string ⟨#[97]⟩]) (k56_mk W ⟨1, 0, ⟨#[97]⟩⟩) rfl (Reps.none _ _))) (by simp [lvA])
theorem lv_CB {W : World} {g : Nat} (h : W.heap[g]? = some (.cells lvRowB 56 (0, 0))) : Kd.C k56 W (some ⟨g, 0, none⟩) lvB.length lvB :=
 C_block (cs := lvRowB.toList) h (reps_cons (c := [.int .i64 0, .int .i64 1, .string ⟨#[]⟩]) (k56_mk W ⟨0, 1, ⟨#[]⟩⟩) rfl (reps_cons (c := [.int .i64 1, .int .i64 0, .string ⟨#[98]⟩]) (k56_mk W ⟨1, 0, ⟨#[98]⟩⟩) rfl (Reps.none _ _))) (by simp [lvB])
theorem lv_C {W : World} {g0 g1 g2 : Nat} (h0 : W.heap[g0]? = some (.cells lvRowA 56 (0, 0))) (h1 : W.heap[g1]? = some (.cells lvRowB 56 (0, 0))) (h2 : W.heap[g2]? = some (.cells (lvCells g0 g1) 50 (0, 0))) : Kd.C k50 W (some ⟨g2, 0, none⟩) lvL.length lvL := by
 refine C_block (cs := (lvCells g0 g1).toList) h2 (reps_cons (c := [.slice (some ⟨g0, 0, none⟩) 2 2, .int .i64 0, .int .i64 0, .int .i64 1]) ?_ rfl (reps_cons (c := [.slice (some ⟨g1, 0, none⟩) 2 2, .int .i64 0, .int .i64 1, .int .i64 2]) ?_ rfl (reps_cons (c := [.slice (some ⟨g0, 0, none⟩) 2 2, .int .i64 0, .int .i64 0, .int .i64 1]) ?_ rfl (Reps.none _ _)))) (by simp [lvL])
 ·exact k50_mk W ⟨lvA, ⟨0, 0⟩, 1⟩ (Nat.le_refl _) (lv_CA h0)
 ·exact k50_mk W ⟨lvB, ⟨0, 1⟩, 2⟩ (Nat.le_refl _) (lv_CB h1)
 ·exact k50_mk W ⟨lvA, ⟨0, 0⟩, 1⟩ (Nat.le_refl _) (lv_CA h0)
theorem lv_same : ∃ k, runnelref04_Same.f k [⟨0, 2⟩, ⟨1, 0⟩] [⟨0, 2⟩, ⟨1, 0⟩] = some true := by
 have h := refSameT [⟨0, 2⟩, ⟨1, 0⟩] [⟨0, 2⟩, ⟨1, 0⟩] (by simp)
 rw [(sameTs_iff _ _).2 rfl] at h
 exact h.rounds
set_option maxHeartbeats 8000000 in
theorem live_calls (w : World) : Calls Try.prog 17 #[] w fun e w' => e = .returned (.bool true) ∧ Below w.heap.size w w' := by
 have HNew : Aside0 (∀ W g0 g1 g2, W.heap[g0]? = some (.cells lvRowA 56 (0, 0)) → W.heap[g1]? = some (.cells lvRowB 56 (0, 0)) → W.heap[g2]? = some (.cells (lvCells g0 g1) 50 (0, 0)) → Below w.heap.size w W → Calls Try.prog 18 #[.int .i64 1, .slice (some ⟨g2, 0, none⟩) 3 3, .slice none 0 0] W fun e w' => ∃ p N, e = .returned (.tuple #[.pointer (some ⟨p, 0, none⟩), .int .i64 0]) ∧ Aside0 (Made w' N p 1 3 [] lvC) ∧ Aside0 (Below w.heap.size w w')) := ⟨fun W g0 g1 g2 h0 h1 h2 hW => by
  refine (newM 1 (some ⟨g2, 0, none⟩) none 3 0 lvL [] W (lv_C h0 h1 h2) (by simp [lvL]) (Kd.C_nil _ _) (by simp) lv_lim).mono ?_
  rintro e w' ⟨vp, rfl, q1, q2⟩
  rw [lv_new] at q2 ⊢
  obtain ⟨p, rfl, q3⟩ := q2
  exact ⟨p, _, rfl, ⟨q3⟩, ⟨hW.trans (q1.mono hW.size)⟩⟩⟩
 have HCode : Aside0 (∀ W, Below w.heap.size w W → Calls Try.prog 19 #[.int .i64 0] W fun e w' => e = .returned (.int .i64 0) ∧ Aside0 (Below w.heap.size w w') ∧ Aside0 (Below W.heap.size W w')) := ⟨fun W hW => (runnellaw09_code.calls 0 0 W rfl).mono fun e w' ⟨q1, q2⟩ => ⟨q1, ⟨hW.trans (q2.below.mono hW.size)⟩, ⟨q2.below⟩⟩⟩
 have HLen : Aside0 (∀ W N p, Made W N p 1 3 [] lvC → Below w.heap.size w W → Calls Try.prog 33 #[.pointer (some ⟨p, 0, none⟩)] W fun e w' => e = .returned (.int .i64 2) ∧ Aside0 (Below w.heap.size w w') ∧ Aside0 (Made w' N p 1 3 [] lvC)) := ⟨fun W N p h hW => (lenM h).mono fun e w' ⟨q1, q2⟩ => ⟨q1, ⟨hW.trans (q2.mono hW.size)⟩, ⟨h.below q2⟩⟩⟩
 have HWt : Aside0 (∀ W N p, Made W N p 1 3 [] lvC → Below w.heap.size w W → Calls Try.prog 34 #[.pointer (some ⟨p, 0, none⟩)] W fun e w' => e = .returned (.int .i64 3) ∧ Aside0 (Below w.heap.size w w') ∧ Aside0 (Made w' N p 1 3 [] lvC)) := ⟨fun W N p h hW => (weightM h).mono fun e w' ⟨q1, q2⟩ => ⟨q1, ⟨hW.trans (q2.mono hW.size)⟩, ⟨h.below q2⟩⟩⟩
 have HKeys : Aside0 (∀ W N p, Made W N p 1 3 [] lvC → Below w.heap.size w W → Calls Try.prog 30 #[.pointer (some ⟨p, 0, none⟩)] W fun e w' => ∃ A c, e = .returned (.slice A 1 c) ∧ Aside0 (Below w.heap.size w w') ∧ Aside0 (Made w' N p 1 3 [] lvC)) := ⟨fun W N p h hW => (keysM h).mono fun e w' ⟨v0, q1, q2, q3⟩ => by
  obtain ⟨A, c, e1⟩ := Kd.S_slice q2
  rw [List.length_map, show ((1 : Int).toNat) = 1 from rfl, lv_glen] at e1
  exact ⟨A, c, by rw [q1, e1], ⟨hW.trans (q3.mono hW.size)⟩, ⟨h.below q3⟩⟩⟩
 have HRests : Aside0 (∀ W N p, Made W N p 1 3 [] lvC → Below w.heap.size w W → Calls Try.prog 36 #[.pointer (some ⟨p, 0, none⟩), .int .i64 0] W fun e w' => ∃ A c, e = .returned (.slice A 2 c) ∧ Aside0 (Below w.heap.size w w') ∧ Aside0 (Made w' N p 1 3 [] lvC)) := ⟨fun W N p h hW => by
  have h0 : 0 < (grpG (1 : Int).toNat lvC).length := by rw [show ((1 : Int).toNat) = 1 from rfl, lv_glen]; exact Nat.one_pos
  refine (restsM h 0 h0).mono fun e w' ⟨v0, q1, q2, q3⟩ => ?_
  obtain ⟨A, c, e1⟩ := Kd.S_slice q2
  rw [lv_rests h0] at e1
  exact ⟨A, c, by rw [q1, e1], ⟨hW.trans (q3.mono hW.size)⟩, ⟨h.below q3⟩⟩⟩
 have HUp : Aside0 (∀ W N p, Made W N p 1 3 [] lvC → Below w.heap.size w W → Calls Try.prog 22 #[.pointer (some ⟨p, 0, none⟩)] W fun e w' => ∃ A c, e = .returned (.slice A 2 c) ∧ Aside0 (Below w.heap.size w w') ∧ Aside0 (2 ≤ c ∧ Kd.C k48 w' A 2 [⟨0, 2⟩, ⟨1, 0⟩])) := ⟨fun W N p h hW => (upperM h lv_ok).mono fun e w' ⟨v0, q1, q2, q3⟩ => by
  rw [lv_up] at q2
  obtain ⟨A, c, e1, l1, c1⟩ := Kd.R_reads q2
  exact ⟨A, c, by rw [q1, e1]; rfl, ⟨hW.trans (q3.mono hW.size)⟩, ⟨l1, c1⟩⟩⟩
 have HSame : Aside0 (∀ W A c g, 2 ≤ c ∧ Kd.C k48 W A 2 [⟨0, 2⟩, ⟨1, 0⟩] → W.heap[g]? = some (.cells #[.int .i64 0, .int .i64 2, .int .i64 1, .int .i64 0] 48 (0, 0)) → Below w.heap.size w W → Calls Try.prog 23 #[.slice A 2 c, .slice (some ⟨g, 0, none⟩) 2 2] W fun e w' => e = .returned (.bool true) ∧ Aside0 (Below w.heap.size w w')) := ⟨fun W A c g h hb hW => by
  obtain ⟨k, hk⟩ := lv_same
  refine (runnelref04_Same.calls k A c [⟨0, 2⟩, ⟨1, 0⟩] (some ⟨g, 0, none⟩) 2 [⟨0, 2⟩, ⟨1, 0⟩] true W h.2 h.1 ?_ (Nat.le_refl _) hk).mono fun e w' ⟨q1, q2⟩ => ⟨q1, ⟨hW.trans (q2.below.mono hW.size)⟩⟩
  exact C_block (cs := [.int .i64 0, .int .i64 2, .int .i64 1, .int .i64 0]) hb (reps_cons (c := [.int .i64 0, .int .i64 2]) (k48_mk W ⟨0, 2⟩) rfl (reps_cons (c := [.int .i64 1, .int .i64 0]) (k48_mk W ⟨1, 0⟩) rfl (Reps.none _ _))) (by simp)⟩
 go_enter Try.func17, Try.ntmps17
 go_wp2_with (first
  | (go_at_call 18; refine (HNew.out _ w.heap.size (w.heap.size + 1) (w.heap.size + 2) (by repeat (first | exact heap_new_at _ _ _ (by simp) | refine blk_alloc ?_ _)) (by repeat (first | exact heap_new_at _ _ _ (by simp) | refine blk_alloc ?_ _)) (by repeat (first | exact heap_new_at _ _ _ (by simp) | refine blk_alloc ?_ _)) (by repeat (first | exact Below.refl _ _ | apply below_alloc | apply pw_below_drewN | apply below_drew1))).mono ?_; rintro e w1 ⟨p, N, rfl, HM1, HB1⟩)
  | (go_at_call 19; refine (HCode.out _ HB1.out).mono ?_; rintro e w2 ⟨rfl, HB2, HB2'⟩; have HM2 := Aside0.mk (HM1.out.below HB2'.out))
  | (go_at_call 33; refine (HLen.out _ _ _ HM2.out HB2.out).mono ?_; rintro e w3 ⟨rfl, HB3, HM3⟩)
  | (go_at_call 34; refine (HWt.out _ _ _ HM3.out HB3.out).mono ?_; rintro e w4 ⟨rfl, HB4, HM4⟩)
  | (go_at_call 30; refine (HKeys.out _ _ _ HM4.out HB4.out).mono ?_; rintro e w5 ⟨A5, c5, rfl, HB5, HM5⟩)
  | (go_at_call 36; refine (HRests.out _ _ _ HM5.out HB5.out).mono ?_; rintro e w6 ⟨A6, c6, rfl, HB6, HM6⟩)
  | (go_at_call 22; refine (HUp.out _ _ _ HM6.out HB6.out).mono ?_; rintro e w7 ⟨A7, c7, rfl, HB7, HC7⟩)
  | (go_at_call 23; refine (HSame.out _ _ _ _ ⟨HC7.out.1, Kd.C_alloc HC7.out.2 _⟩ (heap_alloc_new _ _) (by repeat (first | exact HB7.out | apply below_alloc))).mono ?_; rintro e w8 ⟨rfl, HB8⟩))
 go_ret
 exact ⟨rfl, HB8.out⟩
end Go.Proofs.Ytpflmgbpjhbmnaa.B
end
section
namespace Go.Proofs.Ytpflmgbpjhbmnaa.Open
open Go.RowKit Go.Proofs.YtpflmgbpjhbmnaaW.PrintWords
set_option linter.unusedVariables false
section
variable {H : Type} {enc : TypeId × Value → H} {P : Program} {w : World} {base : Nat} {spare : Nat → Bool} {held : Bool}
def Opens (enc : TypeId × Value → H) (P : Program) (w : World) (base : Nat) (spare : Nat → Bool) (held : Bool) (t : TypeId) {α : Type} (d : Kd α) (G : α → Prop) : Prop :=
 ∀ fuel cs x, DataW.trod enc P w base spare held fuel t cs = some x → ∃ y, d.K w y cs ∧ G y
theorem int {t : TypeId} {k : IntKind} (ht : P.underlying t = some (.int k)) : Opens enc P w base spare held t (Kd.int k) (fun n => (Lit.int k n).wf = true) := by
 intro fuel cs x h
 obtain ⟨n, hcs, hx, hw⟩ := DataW.trod_int ht h
 exact ⟨n, hcs, hw⟩
theorem str {t : TypeId} (ht : P.underlying t = some .string) : Opens enc P w base spare held t Kd.string (fun s => s.size ≤ 9223372036854775807) := by
 intro fuel cs x h
 obtain ⟨s, hcs, hx, hw⟩ := DataW.trod_string ht h
 exact ⟨s, hcs, hw⟩
theorem choose_list {α : Type} {n : Nat} {p : Nat → α → Prop} (h : ∀ i, i < n → ∃ x, p i x) : ∃ l : List α, l.length = n ∧ ∀ i x, l[i]? = some x → p i x := by
 induction n with
 | zero => exact ⟨[], rfl, fun i x hx => by simp at hx⟩
 | succ n ih =>
  obtain ⟨l, hl, hp⟩ := ih (fun i hi => h i (by omega))
  obtain ⟨x, hx⟩ := h n (by omega)
  refine ⟨l ++ [x], by simp [hl], fun i y hy => ?_⟩
  rcases Nat.lt_or_ge i l.length with hi | hi
  ·rw [List.getElem?_append_left hi] at hy; exact hp i y hy
  ·have := (List.getElem?_eq_some_iff.1 hy).1
   rw [List.length_append, List.length_singleton] at this
   have : i = n := by omega
   subst this
   have : x = y := by simpa [hl] using hy
   exact this ▸ hx
theorem slice {t e : TypeId} {α : Type} {d : Kd α} {G : α → Prop} (ht : P.underlying t = some (.slice e)) (hc : P.cellsOf e = d.sz) (ho : Opens enc P w base spare held e d G) :
  Opens enc P w base spare held t (Kd.slice e d) (fun l => l.length ≤ 9223372036854775807 ∧ ∀ y ∈ l, G y) := by
 intro fuel cs x h
 rcases Go.Deep.open_slice ht h with ⟨rfl, _⟩ | ⟨a, len, cap, m, n, D, Pl, rfl, hb, hl, hm, hmm, rfl, hx⟩
 ·exact ⟨[], ⟨none, 0, rfl, Nat.le_refl _, rfl, by simp, fun hn => by simp at hn⟩, by simp, fun y hy => by simp at hy⟩
 ·have hlm : len ≤ m := by rw [hmm]; split <;> omega
  have key : ∀ i, i < len → ∃ y, ∃ c, c.length = d.sz ∧ d.K w y c ∧ G y ∧ ∀ j u, c[j]? = some u → w.cell? (a.add (i * d.sz + j)) = some u := by
   intro i hi
   obtain ⟨cs', h1, h2⟩ := hx i (by omega)
   obtain ⟨y, hy, hg⟩ := ho _ _ _ h2
   rw [hc] at h1
   refine ⟨y, cs', d.K_len hy, hy, hg, fun j u hu => ?_⟩
   have h3 := World.cells?_some h1
   have hj : j < d.sz := by rw [← d.K_len hy]; exact (List.getElem?_eq_some_iff.1 hu).1
   rw [← Go.Deep.add_add]
   exact (h3.2.2 j hj).trans hu
  obtain ⟨l, hll, hp⟩ := choose_list key
  have hml : len ≤ 9223372036854775807 := by unfold maxLen at hm; omega
  refine ⟨l, ⟨some a, cap, by rw [hll], by omega, by omega, by rw [hll]; exact hml, fun _ => ⟨a, rfl, fun j p hj => ?_⟩⟩, by omega, fun y hy => ?_⟩
  ·obtain ⟨c, h1, h2, _, h3⟩ := hp j p hj
   exact ⟨c, h1, h2, h3⟩
  ·obtain ⟨i, hi⟩ := List.getElem?_of_mem hy
   obtain ⟨c, _, _, h3, _⟩ := hp i y hi
   exact h3
theorem field {t : TypeId} {fs : Array Field} {fuel : Nat} {cs : List Value} {x : DataW H × List MemPlace} (ht : P.underlying t = some (.struct fs)) (h : DataW.trod enc P w base spare held fuel t cs = some x)
  (i : Nat) (f : Field) (hf : fs[i]? = some f) {α : Type} {d : Kd α} {G : α → Prop} (hc : P.cellsOf f.type = d.sz) (ho : Opens enc P w base spare held f.type d G) :
  cs.length = P.cellsOf t ∧ ∃ y, d.K w y ((cs.drop f.offset).take d.sz) ∧ G y := by
 obtain ⟨xs, n, _, _, hl, hlen, hx⟩ := DataW.trod_struct ht h
 have h1 := hx i f hf
 have hi : i < xs.length := by rw [hlen]; exact (Array.getElem?_eq_some_iff.1 hf).1
 rw [List.getElem?_eq_getElem hi, hc] at h1
 obtain ⟨y, h2, h3⟩ := ho _ _ _ h1
 exact ⟨hl, y, h2, h3⟩
theorem two {cs : List Value} {α β : Type} {a : Kd α} {b : Kd β} {x : α} {y : β} (hl : cs.length = a.sz + b.sz) (hx : a.K w x ((cs.drop 0).take a.sz)) (hy : b.K w y ((cs.drop a.sz).take b.sz)) : (Kd.pair a b).K w (x, y) cs := by
 refine ⟨_, _, ?_, hx, hy⟩
 rw [List.drop_zero, show (cs.drop a.sz).take b.sz = cs.drop a.sz from List.take_of_length_le (by rw [List.length_drop]; omega), List.take_append_drop]
theorem three {cs : List Value} {α β γ : Type} {a : Kd α} {b : Kd β} {c : Kd γ} {x : α} {y : β} {z : γ} (hl : cs.length = a.sz + (b.sz + c.sz)) (hx : a.K w x ((cs.drop 0).take a.sz)) (hy : b.K w y ((cs.drop a.sz).take b.sz))
  (hz : c.K w z ((cs.drop (a.sz + b.sz)).take c.sz)) : (Kd.pair a (Kd.pair b c)).K w (x, y, z) cs := by
 refine two (b := Kd.pair b c) (by show cs.length = a.sz + (b.sz + c.sz); exact hl) hx ?_
 show (Kd.pair b c).K w (y, z) ((cs.drop a.sz).take (b.sz + c.sz))
 have ht : (cs.drop a.sz).take (b.sz + c.sz) = cs.drop a.sz := List.take_of_length_le (by rw [List.length_drop]; omega)
 rw [ht]
 refine two (by rw [List.length_drop]; omega) (by rw [List.drop_zero]; exact hy) ?_
 rw [List.drop_drop]; exact hz
end
end Go.Proofs.Ytpflmgbpjhbmnaa.Open
end
section
namespace Go.Proofs.Ytpflmgbpjhbmnaa.B
open Go.RowKit Go.Proofs.YtpflmgbpjhbmnaaW.PrintWords Go.Proofs.YtpflmgbpjhbmnaaW.PrintLast Go.Proofs.YtpflmgbpjhbmnaaW.PrintMore
set_option linter.unusedVariables false
def GV (v : S56) : Prop := (Lit.int .i64 v.f0).wf = true ∧ (Lit.int .i64 v.f1).wf = true ∧ v.f2.size ≤ 9223372036854775807
def GL {α : Type} (G : α → Prop) (l : List α) : Prop := l.length ≤ 9223372036854775807 ∧ ∀ v ∈ l, G v
section
variable {H : Type} {enc : TypeId × Value → H} {w : World} {base : Nat} {spare : Nat → Bool} {held : Bool}
theorem opens_V : Open.Opens enc Try.prog w base spare held 56 k56 GV := by
 intro fuel cs x h
 obtain ⟨hl, y0, k0, g0⟩ := Open.field Try.underlying56 h 0 _ rfl (d := Kd.int .i64) (by kernel_rfl) (Open.int Try.underlying3)
 obtain ⟨_, y1, k1, g1⟩ := Open.field Try.underlying56 h 1 _ rfl (d := Kd.int .i64) (by kernel_rfl) (Open.int Try.underlying3)
 obtain ⟨_, y2, k2, g2⟩ := Open.field Try.underlying56 h 2 _ rfl (d := Kd.string) (by kernel_rfl) (Open.str Try.underlying9)
 have hl : cs.length = 3 := hl.trans (by kernel_rfl)
 exact ⟨⟨y0, y1, y2⟩, Open.three (a := Kd.int .i64) (b := Kd.int .i64) (c := Kd.string) hl k0 k1 k2, g0, g1, g2⟩
theorem opens_R : Open.Opens enc Try.prog w base spare held 24 (Kd.slice 56 k56) (GL GV) := Open.slice Try.underlying24 (by kernel_rfl) opens_V
end
end Go.Proofs.Ytpflmgbpjhbmnaa.B
end
section
namespace Go.Proofs.Ytpflmgbpjhbmnaa.B
open Go.RowKit Go.Proofs.YtpflmgbpjhbmnaaW.PrintWords Go.Proofs.YtpflmgbpjhbmnaaW.PrintLast Go.Proofs.YtpflmgbpjhbmnaaW.PrintMore
set_option linter.unusedVariables false
def GT (t : S48) : Prop := (Lit.int .i64 t.f0).wf = true ∧ (Lit.int .i64 t.f1).wf = true
def GU (u : S50) : Prop := GL GV u.f0 ∧ GT u.f1 ∧ (Lit.int .i64 u.f2).wf = true
section
variable {H : Type} {enc : TypeId × Value → H} {w : World} {base : Nat} {spare : Nat → Bool} {held : Bool}
theorem opens_T : Open.Opens enc Try.prog w base spare held 48 k48 GT := by
 intro fuel cs x h
 obtain ⟨hl, y0, k0, g0⟩ := Open.field Try.underlying48 h 0 _ rfl (d := Kd.int .i64) (by kernel_rfl) (Open.int Try.underlying3)
 obtain ⟨_, y1, k1, g1⟩ := Open.field Try.underlying48 h 1 _ rfl (d := Kd.int .i64) (by kernel_rfl) (Open.int Try.underlying3)
 have hl : cs.length = 2 := hl.trans (by kernel_rfl)
 exact ⟨⟨y0, y1⟩, Open.two (a := Kd.int .i64) (b := Kd.int .i64) hl k0 k1, g0, g1⟩
theorem opens_U : Open.Opens enc Try.prog w base spare held 50 k50 GU := by
 intro fuel cs x h
 obtain ⟨hl, y0, k0, g0⟩ := Open.field Try.underlying50 h 0 _ rfl (d := Kd.slice 56 k56) (by kernel_rfl) opens_R
 obtain ⟨_, y1, k1, g1⟩ := Open.field Try.underlying50 h 1 _ rfl (d := k48) (by kernel_rfl) opens_T
 obtain ⟨_, y2, k2, g2⟩ := Open.field Try.underlying50 h 2 _ rfl (d := Kd.int .i64) (by kernel_rfl) (Open.int Try.underlying3)
 have hl : cs.length = 4 := hl.trans (by kernel_rfl)
 exact ⟨⟨y0, y1, y2⟩, Open.three (a := Kd.slice 56 k56) (b := k48) (c := Kd.int .i64) hl k0 k1 k2, g0, g1, g2⟩
end
end Go.Proofs.Ytpflmgbpjhbmnaa.B
end
section
namespace Go.Proofs.Ytpflmgbpjhbmnaa.B
open Go Go.RowKit Go.Proofs Go.Proofs.YtpflmgbpjhbmnaaW.PrintWords Go.Proofs.YtpflmgbpjhbmnaaW.PrintLast Go.Proofs.YtpflmgbpjhbmnaaW.PrintMore Go.Proofs.Ytpflmgbpjhbmnaa.Rg
set_option linter.unusedVariables false
set_option linter.unusedSimpArgs false
set_option maxRecDepth 100000
theorem newU_none {key : Int} {l : List Upd} {since : List Tm} (h : (newU key l since).1 = none) : (newU key l since).2 ≠ 0 := by
 unfold newU at h ⊢
 repeat' split at h
 all_goals first | (cases h; done) | skip
 all_goals (repeat' split)
 all_goals first | omega | simp_all
structure BB (w W : World) (A9 : Option Addr) (c9 : Nat) (x : List Upd) (A10 : Option Addr) (c10 : Nat) (lo : List Tm) (A11 : Option Addr) (c11 : Nat) (up : List Tm) : Prop where
 B : Below w.heap.size w W
 x : x.length ≤ c9 ∧ Kd.C k50 W A9 x.length x
 lo : lo.length ≤ c10 ∧ Kd.C k48 W A10 lo.length lo
 up : up.length ≤ c11 ∧ Kd.C k48 W A11 up.length up
theorem BB.step {w W W1 : World} {A9 : Option Addr} {c9 : Nat} {x : List Upd} {A10 : Option Addr} {c10 : Nat} {lo : List Tm} {A11 : Option Addr} {c11 : Nat} {up : List Tm} (h : BB w W A9 c9 x A10 c10 lo A11 c11 up) (hb : Below W.heap.size W W1) : BB w W1 A9 c9 x A10 c10 lo A11 c11 up :=
 ⟨h.B.trans (hb.mono h.B.size), ⟨h.x.1, Kd.C_below h.x.2 hb⟩, ⟨h.lo.1, Kd.C_below h.lo.2 hb⟩, ⟨h.up.1, Kd.C_below h.up.2 hb⟩⟩
theorem live_at (w : World) : Aside0 (∀ W, Below w.heap.size w W → Calls Try.prog 17 #[] W fun e w' => e = .returned (.bool true) ∧ Aside0 (Below w.heap.size w w')) :=
 ⟨fun W hW => (live_calls W).mono fun e w' ⟨q1, q2⟩ => ⟨q1, ⟨hW.trans (q2.mono hW.size)⟩⟩⟩
theorem much_at (w : World) (A1 : Option Addr) (c1 : Nat) (l : List Upd) (hr : Kd.C k50 w A1 l.length l) (hc : l.length ≤ c1) (hl : l.length ≤ 9223372036854775807) (b : Bool) (hb : muchU l = b) : Aside0 (Calls Try.prog 15 #[.slice A1 l.length c1] w fun e w' => e = .returned (.bool b) ∧ Aside0 (Below w.heap.size w w')) := by
 obtain ⟨k, hk⟩ := (refMuch l hl).rounds
 rw [hb] at hk
 exact ⟨(runnelref07_Much.calls k A1 c1 l b w hr hc hk).mono fun e w' ⟨q1, q2⟩ => ⟨q1, ⟨q2.below⟩⟩⟩
theorem right_at (w : World) (A1 : Option Addr) (c1 : Nat) (l : List Upd) (hr : Kd.C k50 w A1 l.length l) (hc : l.length ≤ c1) (hl : l.length ≤ 1099511627776) (b : Bool) (hb : (l.all fun u => okT u.f1) = b) : Aside0 (∀ W, Below w.heap.size w W → Calls Try.prog 16 #[.slice A1 l.length c1] W fun e w' => e = .returned (.bool b) ∧ Aside0 (Below w.heap.size w w')) := by
 obtain ⟨k, hk⟩ := (refRight l hl).rounds
 rw [hb] at hk
 exact ⟨fun W hW => (runnelref09_Right.calls k A1 c1 l b W (Kd.C_below hr hW) hc hk).mono fun e w' ⟨q1, q2⟩ => ⟨q1, ⟨hW.trans (q2.below.mono hW.size)⟩⟩⟩
theorem code_at (w : World) : Aside0 (∀ W z, Below w.heap.size w W → Calls Try.prog 19 #[.int .i64 z] W fun e w' => e = .returned (.int .i64 z) ∧ Aside0 (Below w.heap.size w w') ∧ Aside0 (Below W.heap.size W w')) :=
 ⟨fun W z hW => (runnellaw09_code.calls z z W rfl).mono fun e w' ⟨q1, q2⟩ => ⟨q1, ⟨hW.trans (q2.below.mono hW.size)⟩, ⟨q2.below⟩⟩⟩
set_option maxHeartbeats 8000000 in
theorem batchBounds_walk (w : World) (a : Int) (wa : (Lit.int .i64 a).wf = true) (A1 : Option Addr) (c1 : Nat) (l1 : List Upd) (hr1 : Kd.C k50 w A1 l1.length l1) (hc1 : l1.length ≤ c1) (g1 : GL GU l1) (A2 : Option Addr) (c2 : Nat) (l2 : List Tm) (hr2 : Kd.C k48 w A2 l2.length l2) (hc2 : l2.length ≤ c2) (g2 : GL GT l2) :
  Calls Try.prog 4 #[.int .i64 a, .slice A1 l1.length c1, .slice A2 l2.length c2] w fun e w' => e = .returned (.bool true) ∧ Below w.heap.size w w' := by
 have HLive := live_at w
 have hl1 := g1.1
 cases hm : muchU l1 with
 | true =>
  have HMuch := much_at w A1 c1 l1 hr1 hc1 hl1 true hm
  clear hr1 hr2 hm g1 g2
  go_enter Try.func4, Try.ntmps4
  go_wp2_with (first
   | (go_at_call 15; refine HMuch.out.mono ?_; rintro e w1 ⟨rfl, HB1⟩)
   | (go_at_call 17; refine (HLive.out _ HB1.out).mono ?_; rintro e w2 ⟨rfl, HB2⟩))
  go_ret
  exact ⟨rfl, HB2.out⟩
 | false =>
  have HMuch := much_at w A1 c1 l1 hr1 hc1 hl1 false hm
  obtain ⟨hn1, hn2⟩ := muchU_no hm
  by_cases hs : 30 < l2.length
  ·have b1 : decide (30 < (l2.length : Int)) = true := decide_eq_true (by omega)
   have b2 : decide (30 < l2.length) = true := decide_eq_true hs
   clear hr1 hr2 hm g1 g2 hn2
   go_enter Try.func4, Try.ntmps4
   go_wp2_with (first
    | (go_at_call 15; refine HMuch.out.mono ?_; rintro e w1 ⟨rfl, HB1⟩)
    | (go_at_call 17; refine (HLive.out _ HB1.out).mono ?_; rintro e w2 ⟨rfl, HB2⟩))
   go_ret
   exact ⟨rfl, HB2.out⟩
  ·have b1 : decide (30 < (l2.length : Int)) = false := decide_eq_false (by omega)
   have b2 : decide (30 < l2.length) = false := decide_eq_false hs
   cases hrt : (l1.all fun u => okT u.f1) with
   | false =>
    have HRight := right_at w A1 c1 l1 hr1 hc1 (by omega) false hrt
    clear hr1 hr2 hm g1 g2 hn2 hrt
    go_enter Try.func4, Try.ntmps4
    go_wp2_with (first
     | (go_at_call 15; refine HMuch.out.mono ?_; rintro e w1 ⟨rfl, HB1⟩)
     | (go_at_call 16; refine (HRight.out _ HB1.out).mono ?_; rintro e w3 ⟨rfl, HB3⟩)
     | (go_at_call 17; refine (HLive.out _ HB3.out).mono ?_; rintro e w2 ⟨rfl, HB2⟩))
    go_ret
    exact ⟨rfl, HB2.out⟩
   | true =>
    have HRight := right_at w A1 c1 l1 hr1 hc1 (by omega) true hrt
    have HCode := code_at w
    have hlim : Lim l1 l2 := ⟨by omega, fun u hu => by have := hn2 u hu; omega, by omega⟩
    have HNew : Aside0 (∀ W, Below w.heap.size w W → Calls Try.prog 18 #[.int .i64 a, .slice A1 l1.length c1, .slice A2 l2.length c2] W (NewM W a l1.length l2 (newU a l1 l2))) := ⟨fun W hW => newM a A1 A2 c1 c2 l1 l2 W (Kd.C_below hr1 hW) hc1 (Kd.C_below hr2 hW) hc2 hlim⟩
    cases hnu : (newU a l1 l2).1 with
    | none =>
     have hz := newU_none hnu
     obtain ⟨z, hzz⟩ : ∃ z, z = (newU a l1 l2).2 := ⟨_, rfl⟩
     rw [← hzz] at hz
     have HNone : Aside0 (∀ W, Below w.heap.size w W → Calls Try.prog 18 #[.int .i64 a, .slice A1 l1.length c1, .slice A2 l2.length c2] W fun e w' => e = .returned (.tuple #[.pointer none, .int .i64 z]) ∧ Aside0 (Below w.heap.size w w')) := ⟨fun W hW => (HNew.out W hW).mono fun e w' ⟨vp, q1, q2, q3⟩ => by
      rw [hnu] at q3
      subst q3
      rw [hzz]
      exact ⟨q1, ⟨hW.trans (q2.mono hW.size)⟩⟩⟩
     have z1 : (z != 0) = true := by simpa using hz
     have z2 : (z == 0) = false := by simpa using hz
     have z3 : decide (z = 0) = false := decide_eq_false hz
     clear hr1 hr2 hm g1 g2 hn2 hrt hnu hzz HNew hlim hz
     go_enter Try.func4, Try.ntmps4
     go_wp2_with (first
      | (go_at_call 15; refine HMuch.out.mono ?_; rintro e w1 ⟨rfl, HB1⟩)
      | (go_at_call 16; refine (HRight.out _ HB1.out).mono ?_; rintro e w3 ⟨rfl, HB3⟩)
      | (go_at_call 18; refine (HNone.out _ HB3.out).mono ?_; rintro e w4 ⟨rfl, HB4⟩)
      | (go_at_call 19; first | (refine (HCode.out _ _ HB5.out).mono ?_; rintro e w6 ⟨rfl, HB6, _⟩) | (refine (HCode.out _ _ HB4.out).mono ?_; rintro e w5 ⟨rfl, HB5, _⟩))
      | (go_at_call 17; refine (HLive.out _ HB6.out).mono ?_; rintro e w2 ⟨rfl, HB2⟩))
     go_ret
     exact ⟨rfl, HB2.out⟩
    | some cl =>
     obtain ⟨hcl, hk0, hk16, _, hck, hcle, _, hz, _⟩ := newU_lim hnu hlim
     have hokl : ∀ u ∈ cl, okT u.f1 = true := fun u hu => by
      rw [hcle] at hu
      obtain ⟨v, hv, _, e⟩ := consU_mem _ u hu
      rw [e]
      obtain ⟨s1, s2, s3⟩ := checkF_ok hck
      by_cases hz0 : l2.length = 0
      ·rw [if_pos hz0] at hv; exact List.all_eq_true.1 hrt v hv
      ·rw [if_neg hz0] at hv
       obtain ⟨x, hx, _, e2, _⟩ := advL_mem _ _ _ hv
       rw [e2]
       exact repT_ok _ _ s2 (List.all_eq_true.1 hrt x hx)
     have hbg := batG a l1.length l2 cl hcl.r
     have hxt := upsG_times hbg
     have hxl : (upsG (grpG a.toNat cl)).length = cl.length := by have := congrArg List.length hxt; simpa using this
     have hcn := hcl.n
     have hcn60 : cl.length ≤ 60 := by
      rw [hcle]
      have h1 := consU_len (if l2.length = 0 then l1 else advL l1 l2)
      have h2 : (if l2.length = 0 then l1 else advL l1 l2).length = l1.length := by split <;> simp [advL]
      omega
     obtain ⟨x, hx⟩ : ∃ x, x = upsG (grpG a.toNat cl) := ⟨_, rfl⟩
     obtain ⟨lo, hlo⟩ : ∃ lo, lo = newF (x.map (·.f1)) := ⟨_, rfl⟩
     obtain ⟨up, hup⟩ : ∃ up, up = upF (x.map (·.f1)) := ⟨_, rfl⟩
     rw [← hx] at hxt hxl
     have hxn : x.length ≤ 60 := by omega
     have hokx : ∀ u ∈ x, okT u.f1 = true := fun u hu => by
      have h1 : u.f1 ∈ cl.map (·.f1) := by rw [← hxt]; exact List.mem_map.2 ⟨u, hu, rfl⟩
      obtain ⟨v, hv, e⟩ := List.mem_map.1 h1
      rw [← e]; exact hokl v hv
     have hlol : lo.length ≤ 60 := by rw [hlo]; have := newF_len (x.map (·.f1)); rw [List.length_map] at this; omega
     have hupl : up.length ≤ 2 := by rw [hup]; exact upF_len _
     have HSome : Aside0 (∀ W, Below w.heap.size w W → Calls Try.prog 18 #[.int .i64 a, .slice A1 l1.length c1, .slice A2 l2.length c2] W fun e w' => ∃ p N, e = .returned (.tuple #[.pointer (some ⟨p, 0, none⟩), .int .i64 0]) ∧ Aside0 (Made w' N p a l1.length l2 cl) ∧ Aside0 (Below w.heap.size w w')) := ⟨fun W hW => (HNew.out W hW).mono fun e w' ⟨vp, q1, q2, q3⟩ => by
      rw [hnu] at q3
      obtain ⟨p, rfl, q4⟩ := q3
      rw [hz] at q1
      exact ⟨p, _, q1, ⟨q4⟩, ⟨hW.trans (q2.mono hW.size)⟩⟩⟩
     have HUps : Aside0 (∀ W N p, Made W N p a l1.length l2 cl → Below w.heap.size w W → Calls Try.prog 20 #[.pointer (some ⟨p, 0, none⟩)] W fun e w' => ∃ A9 c9, e = .returned (.slice A9 x.length c9) ∧ Aside0 (Made w' N p a l1.length l2 cl) ∧ Aside0 (Below w.heap.size w w') ∧ Aside0 (x.length ≤ c9 ∧ Kd.C k50 w' A9 x.length x)) := ⟨fun W N p h hW => (upsM h).mono fun e w' ⟨v0, q1, q2, q3⟩ => by
      rw [← hx] at q2
      obtain ⟨A9, c9, rfl, l9, C9⟩ := Kd.S_reads q2
      exact ⟨A9, c9, q1, ⟨h.below q3⟩, ⟨hW.trans (q3.mono hW.size)⟩, ⟨l9, C9⟩⟩⟩
     have HLowM : Aside0 (∀ W N p A9 c9, Made W N p a l1.length l2 cl → Below w.heap.size w W → (x.length ≤ c9 ∧ Kd.C k50 W A9 x.length x) → Calls Try.prog 21 #[.pointer (some ⟨p, 0, none⟩)] W fun e w' => ∃ A10 c10, e = .returned (.slice A10 lo.length c10) ∧ Aside0 (Made w' N p a l1.length l2 cl) ∧ Aside0 (Below w.heap.size w w') ∧ Aside0 (x.length ≤ c9 ∧ Kd.C k50 w' A9 x.length x) ∧ Aside0 (lo.length ≤ c10 ∧ Kd.C k48 w' A10 lo.length lo)) := ⟨fun W N p A9 c9 h hW h9 => (lowerM h).mono fun e w' ⟨v0, q1, q2, q3⟩ => by
      rw [← hxt, ← hlo] at q2
      obtain ⟨A10, c10, rfl, l10, C10⟩ := Kd.R_reads q2
      exact ⟨A10, c10, q1, ⟨h.below q3⟩, ⟨hW.trans (q3.mono hW.size)⟩, ⟨h9.1, Kd.C_below h9.2 q3⟩, ⟨l10, C10⟩⟩⟩
     have HUpM : Aside0 (∀ W N p A9 c9 A10 c10, Made W N p a l1.length l2 cl → Below w.heap.size w W → (x.length ≤ c9 ∧ Kd.C k50 W A9 x.length x) → (lo.length ≤ c10 ∧ Kd.C k48 W A10 lo.length lo) → Calls Try.prog 22 #[.pointer (some ⟨p, 0, none⟩)] W fun e w' => ∃ A11 c11, e = .returned (.slice A11 up.length c11) ∧ Aside0 (BB w w' A9 c9 x A10 c10 lo A11 c11 up)) := ⟨fun W N p A9 c9 A10 c10 h hW h9 h10 => (upperM h hokl).mono fun e w' ⟨v0, q1, q2, q3⟩ => by
      rw [← hxt, ← hup] at q2
      obtain ⟨A11, c11, rfl, l11, C11⟩ := Kd.R_reads q2
      exact ⟨A11, c11, q1, ⟨hW.trans (q3.mono hW.size), ⟨h9.1, Kd.C_below h9.2 q3⟩, ⟨h10.1, Kd.C_below h10.2 q3⟩, ⟨l11, C11⟩⟩⟩⟩
     obtain ⟨kl, hkl⟩ := (refLower x (by omega)).rounds
     obtain ⟨ku, hku⟩ := (refUpper x (by omega) hokx).rounds
     rw [← hlo] at hkl
     rw [← hup] at hku
     have HRLow : Aside0 (∀ W A9 c9 A10 c10 A11 c11, BB w W A9 c9 x A10 c10 lo A11 c11 up → Calls Try.prog 24 #[.slice A9 x.length c9] W fun e w' => ∃ A c, e = .returned (.slice A lo.length c) ∧ Aside0 (BB w w' A9 c9 x A10 c10 lo A11 c11 up) ∧ Aside0 (lo.length ≤ c ∧ Kd.C k48 w' A lo.length lo)) := ⟨fun W A9 c9 A10 c10 A11 c11 h => (runnelref07_Lower.calls kl A9 c9 x lo W h.x.2 h.x.1 hkl).mono fun e w' ⟨v0, q1, q2, q3⟩ => by
      obtain ⟨A, c, rfl, l10, C10⟩ := Kd.R_reads q2
      exact ⟨A, c, q1, ⟨h.step q3⟩, ⟨l10, C10⟩⟩⟩
     have HRUp : Aside0 (∀ W A9 c9 A10 c10 A11 c11, BB w W A9 c9 x A10 c10 lo A11 c11 up → Calls Try.prog 25 #[.slice A9 x.length c9] W fun e w' => ∃ A c, e = .returned (.slice A up.length c) ∧ Aside0 (BB w w' A9 c9 x A10 c10 lo A11 c11 up) ∧ Aside0 (up.length ≤ c ∧ Kd.C k48 w' A up.length up)) := ⟨fun W A9 c9 A10 c10 A11 c11 h => (runnelref09_Upper.calls ku A9 c9 x up W h.x.2 h.x.1 hku).mono fun e w' ⟨v0, q1, q2, q3⟩ => by
      obtain ⟨A, c, rfl, l10, C10⟩ := Kd.R_reads q2
      exact ⟨A, c, q1, ⟨h.step q3⟩, ⟨l10, C10⟩⟩⟩
     obtain ⟨ks, hks⟩ := (refSameT lo lo (by omega)).rounds
     obtain ⟨kt, hkt⟩ := (refSameT up up (by omega)).rounds
     rw [(sameTs_iff _ _).2 rfl] at hks hkt
     have HSameL : Aside0 (∀ W A c A9 c9 A10 c10 A11 c11, BB w W A9 c9 x A10 c10 lo A11 c11 up → (lo.length ≤ c ∧ Kd.C k48 W A lo.length lo) → Calls Try.prog 23 #[.slice A10 lo.length c10, .slice A lo.length c] W fun e w' => e = .returned (.bool true) ∧ Aside0 (BB w w' A9 c9 x A10 c10 lo A11 c11 up)) := ⟨fun W A c A9 c9 A10 c10 A11 c11 h h2 => (runnelref04_Same.calls ks A10 c10 lo A c lo true W h.lo.2 h.lo.1 h2.2 h2.1 hks).mono fun e w' ⟨q1, q2⟩ => ⟨q1, ⟨h.step q2.below⟩⟩⟩
     have HSameU : Aside0 (∀ W A c A9 c9 A10 c10 A11 c11, BB w W A9 c9 x A10 c10 lo A11 c11 up → (up.length ≤ c ∧ Kd.C k48 W A up.length up) → Calls Try.prog 23 #[.slice A11 up.length c11, .slice A up.length c] W fun e w' => e = .returned (.bool true) ∧ Aside0 (BB w w' A9 c9 x A10 c10 lo A11 c11 up)) := ⟨fun W A c A9 c9 A10 c10 A11 c11 h h2 => (runnelref04_Same.calls kt A11 c11 up A c up true W h.up.2 h.up.1 h2.2 h2.1 hkt).mono fun e w' ⟨q1, q2⟩ => ⟨q1, ⟨h.step q2.below⟩⟩⟩
     obtain ⟨kc, hkc⟩ := (refCheck up).rounds
     have hcf : checkF up ≠ 6 := by rw [hup]; exact upF_form _
     obtain ⟨z, hzz⟩ : ∃ z, z = checkF up := ⟨_, rfl⟩
     rw [← hzz] at hkc hcf
     have HCheck : Aside0 (∀ W A9 c9 A10 c10 A11 c11, BB w W A9 c9 x A10 c10 lo A11 c11 up → Calls Try.prog 26 #[.slice A11 up.length c11] W fun e w' => e = .returned (.int .i64 z) ∧ Aside0 (BB w w' A9 c9 x A10 c10 lo A11 c11 up)) := ⟨fun W A9 c9 A10 c10 A11 c11 h => (runnelref05_Check.calls kc A11 c11 up z W h.up.2 h.up.1 hkc).mono fun e w' ⟨q1, q2⟩ => ⟨q1, ⟨h.step q2⟩⟩⟩
     have z1 : (z == 6) = false := by simpa using hcf
     have z3 : decide (z = 6) = false := decide_eq_false hcf
     have HAhL : Aside0 (∀ W A9 c9 A10 c10 A11 c11 t, BB w W A9 c9 x A10 c10 lo A11 c11 up → t ∈ x.map (·.f1) → Calls Try.prog 27 #[.slice A10 lo.length c10, .agg #[.int .i64 t.f0, .int .i64 t.f1]] W fun e w' => e = .returned (.bool true) ∧ Aside0 (BB w w' A9 c9 x A10 c10 lo A11 c11 up) ∧ Aside0 (Below W.heap.size W w')) := ⟨fun W A9 c9 A10 c10 A11 c11 t h ht => by
      obtain ⟨k, hk⟩ := (refAhead lo t (by omega)).rounds
      rw [hlo, newF_ahead _ t ht, ← hlo] at hk
      exact (runnelref05_Ahead.calls k A10 c10 lo t.f0 t.f1 true W h.lo.2 h.lo.1 hk).mono fun e w' ⟨q1, q2⟩ => ⟨q1, ⟨h.step q2⟩, ⟨q2⟩⟩⟩
     have HAhU : Aside0 (∀ W A9 c9 A10 c10 A11 c11 t, BB w W A9 c9 x A10 c10 lo A11 c11 up → t ∈ x.map (·.f1) → Calls Try.prog 27 #[.slice A11 up.length c11, .agg #[.int .i64 t.f0, .int .i64 t.f1]] W fun e w' => e = .returned (.bool false) ∧ Aside0 (BB w w' A9 c9 x A10 c10 lo A11 c11 up)) := ⟨fun W A9 c9 A10 c10 A11 c11 t h ht => by
      obtain ⟨k, hk⟩ := (refAhead up t (by omega)).rounds
      rw [hup, upF_ahead _ t ht, ← hup] at hk
      exact (runnelref05_Ahead.calls k A11 c11 up t.f0 t.f1 false W h.up.2 h.up.1 hk).mono fun e w' ⟨q1, q2⟩ => ⟨q1, ⟨h.step q2⟩⟩⟩
     have HX60 := Aside0.mk hxn
     clear hxn hr1 hr2 hm g1 g2 hn2 hrt hnu HNew hlim hokl hbg hxt hxl hcn hcn60 hx hlo hup hokx hlol hupl hkl hku hks hkt hkc hcf hzz hcl hk0 hk16 hck hcle hz
     go_enter Try.func4, Try.ntmps4
     go_wp2_with (first
      | (go_at_call 15; refine HMuch.out.mono ?_; rintro e w1 ⟨rfl, HB1⟩)
      | (go_at_call 16; refine (HRight.out _ HB1.out).mono ?_; rintro e w3 ⟨rfl, HB3⟩)
      | (go_at_call 18; refine (HSome.out _ HB3.out).mono ?_; rintro e w4 ⟨p, N, rfl, HM4, HB4⟩)
      | (go_at_call 19; refine (HCode.out _ _ HB4.out).mono ?_; rintro e w5 ⟨rfl, HB5, HB5'⟩; have HM5 := Aside0.mk (HM4.out.below HB5'.out))
      | (go_at_call 20; refine (HUps.out _ _ _ HM5.out HB5.out).mono ?_; rintro e w6 ⟨A9, c9, rfl, HM6, HB6, HX6⟩)
      | (go_at_call 21; refine (HLowM.out _ _ _ _ _ HM6.out HB6.out HX6.out).mono ?_; rintro e w7 ⟨A10, c10, rfl, HM7, HB7, HX7, HL7⟩)
      | (go_at_call 22; refine (HUpM.out _ _ _ _ _ _ _ HM7.out HB7.out HX7.out HL7.out).mono ?_; rintro e w8 ⟨A11, c11, rfl, HBB8⟩)
      | (go_at_call 24; refine (HRLow.out _ _ _ _ _ _ _ HBB8.out).mono ?_; rintro e w9 ⟨A, c, rfl, HBB9, HR9⟩)
      | (go_at_call 23; first | (refine (HSameU.out _ _ _ _ _ _ _ _ _ HBB11.out HR11.out).mono ?_; rintro e w12 ⟨rfl, HBB12⟩) | (refine (HSameL.out _ _ _ _ _ _ _ _ _ HBB9.out HR9.out).mono ?_; rintro e w10 ⟨rfl, HBB10⟩))
      | (go_at_call 25; refine (HRUp.out _ _ _ _ _ _ _ HBB10.out).mono ?_; rintro e w11 ⟨A', c', rfl, HBB11, HR11⟩)
      | (go_at_call 26; refine (HCheck.out _ _ _ _ _ _ _ HBB12.out).mono ?_; rintro e w13 ⟨rfl, HBB13⟩))
     have hx60 : x.length ≤ 60 := HX60.out
     go_loopw [12] (fun v12 wr => ∃ i : Nat, v12 = .int .i64 i ∧ i ≤ x.length ∧ Aside0 (BB w wr A9 c9 x A10 c10 lo A11 c11 up)) (fun v12 wr => x.length - (intOf v12).toNat)
     case atStart => exact ⟨0, rfl, Nat.zero_le _, HBB13⟩
     case round =>
      clear HBB13
      obtain ⟨i, rfl, hi, HBB⟩ := hrel
      by_cases hlt : i < x.length
      ·have hb1 : decide ((i : Int) < (x.length : Int)) = true := decide_eq_true (by omega)
       have hb2 : decide (i < x.length) = true := decide_eq_true hlt
       have hi0 : (0 : Int) ≤ (i : Int) := by omega
       have hi1 : (i : Int) < (x.length : Int) := by omega
       obtain ⟨ad, A', c', e, hx0, hx1, hx2, hx3, hl', hC'⟩ := at_T50 HBB.out.x.2 (i : Int) (by omega) (by omega)
       rw [Int.toNat_natCast] at hx0 hx1 hx2 hx3
       have HMem : Aside0 ((rd_T50 x (i : Int)).f1 ∈ x.map (·.f1)) := ⟨by
        rw [rdU_nat x i hlt]; exact List.mem_map.2 ⟨x[i], List.getElem_mem hlt, rfl⟩⟩
       generalize rd_T50 x (i : Int) = u at hx0 hx1 hx2 hx3 hl' hC' HMem
       subst e
       clear hl' hC'
       go_wp2_with (go_at_call 27; first | (refine (HAhU.out _ _ _ _ _ _ _ _ HBB14.out HMem.out).mono ?_; rintro e w15 ⟨rfl, HBB15⟩) | (refine (HAhL.out _ _ _ _ _ _ _ _ HBB.out HMem.out).mono ?_; rintro e w14 ⟨rfl, HBB14, HB14⟩; have hy1 := pw_cell_below HB14.out hx1; have hy2 := pw_cell_below HB14.out hx2))
       go_roundw
       case rel => exact ⟨i + 1, by go_num, by omega, HBB15⟩
       case measure => simp [intOf]; omega
      ·have hin : i = x.length := by omega
       subst hin
       have hb1 : decide ((x.length : Int) < (x.length : Int)) = false := decide_eq_false (by omega)
       go_wp2_with (go_at_call 17; refine (HLive.out _ HBB.out.B).mono ?_; rintro e w14 ⟨rfl, HB14⟩)
       go_ret
       exact ⟨rfl, HB14.out⟩
end Go.Proofs.Ytpflmgbpjhbmnaa.B
end
