/- GrpG, Ups, FrontL0, AddT, NewT. -/
import Derived.Test.YtpflmgbpjhbmnaaGreatQBm20
import Derived.Test.YtpflmgbpjhbmnaaGreatQBm23
import Derived.Test.YtpflmgbpjhbmnaaGreatQBm21
import Derived.Test.YtpflmgbpjhbmnaaGreatQBm4
import Derived.Deep.RegionHeld3
import Derived.BigQuiet
section
namespace Go.Proofs.YtpflmgbpjhbmnaaGreat.B
open Go Go.RowKit Go.Proofs Go.Proofs.YtpflmgbpjhbmnaaGreatW.PrintWords
set_option linter.unusedVariables false
set_option linter.unusedSimpArgs false
def nY (n : Nat) (g : Gr) (u : S61) : Gr :=
 match g.getLast? with
 | none => g ++ [(u.f0.take n, [(u.f0.drop n, [(u.f1, u.f2)])])]
 | some x =>
  if dK x.1 (u.f0.take n) = true then
   match x.2.getLast? with
   | none => g.dropLast ++ [(x.1, [(u.f0.drop n, [(u.f1, u.f2)])])]
   | some y => if dK y.1 (u.f0.drop n) = true then g.dropLast ++ [(x.1, x.2.dropLast ++ [(y.1, y.2 ++ [(u.f1, u.f2)])])] else g.dropLast ++ [(x.1, x.2 ++ [(u.f0.drop n, [(u.f1, u.f2)])])]
  else g ++ [(u.f0.take n, [(u.f0.drop n, [(u.f1, u.f2)])])]
def iR (n : Nat) (l : List S61) : Gr := l.foldl (nY n) []
theorem oU (n : Nat) (l : List S61) (u : S61) : iR n (l ++ [u]) = nY n (iR n l) u := by simp [iR]
theorem xH (n : Nat) (u : S61) : nY n [] u = [(u.f0.take n, [(u.f0.drop n, [(u.f1, u.f2)])])] := rfl
theorem rG (n : Nat) (g : Gr) (x : List S85 × List Rst) (u : S61) (h : dK x.1 (u.f0.take n) = false) : nY n (g ++ [x]) u = g ++ [x] ++ [(u.f0.take n, [(u.f0.drop n, [(u.f1, u.f2)])])] := by
 simp [nY, h]
theorem oV (n : Nat) (g : Gr) (k0 : List S85) (rs : List Rst) (y : Rst) (u : S61) (h : dK k0 (u.f0.take n) = true) (h2 : dK y.1 (u.f0.drop n) = false) : nY n (g ++ [(k0, rs ++ [y])]) u = g ++ [(k0, rs ++ [y] ++ [(u.f0.drop n, [(u.f1, u.f2)])])] := by
 simp [nY, h, h2]
theorem oW (n : Nat) (g : Gr) (k0 : List S85) (rs : List Rst) (y : Rst) (u : S61) (h : dK k0 (u.f0.take n) = true) (h2 : dK y.1 (u.f0.drop n) = true) : nY n (g ++ [(k0, rs ++ [y])]) u = g ++ [(k0, rs ++ [(y.1, y.2 ++ [(u.f1, u.f2)])])] := by
 simp [nY, h, h2]
theorem mQ (l : List (List S85)) (x k : List S85) : dY (l ++ [x]) k = !dK x k := by
 unfold dY
 rw [if_neg (by simp)]
 simp [List.getD]
theorem iP {α : Type} (l : List α) (h : l ≠ []) : ∃ r x, l = r ++ [x] := ⟨l.dropLast, l.getLast h, (List.dropLast_concat_getLast h).symm⟩
theorem zZ (b : Bt) (g : Gr) (u : S61) (h : Gs b g) : Gs (jC b u) (nY b.key.toNat g u) := by
 unfold jC
 dsimp only
 by_cases hg : g = []
 ·subst hg
  have hk : b.keys = [] := h.keys
  rw [if_pos (by rw [hk]; rfl), xH]
  exact yN b [] h _ _ _ _
 ·obtain ⟨g', ⟨k0, rs⟩, rfl⟩ := iP g hg
  obtain ⟨rs', y, rfl⟩ := iP rs (h.ne1 (k0, rs) (by simp))
  have hk : b.keys = g'.map (·.1) ++ [k0] := by rw [h.keys]; simp
  have hr : b.rests = ((g'.flatMap (·.2)) ++ rs').map (·.1) ++ [y.1] := by rw [h.rests]; simp
  have n1 : dY b.keys (u.f0.take b.key.toNat) = !dK k0 (u.f0.take b.key.toNat) := by rw [hk, mQ]
  have n2 : dY b.rests (u.f0.drop b.key.toNat) = !dK y.1 (u.f0.drop b.key.toNat) := by rw [hr, mQ]
  cases e1 : dK k0 (u.f0.take b.key.toNat) with
  | false =>
   rw [n1, e1, if_pos (by decide), rG _ _ _ _ e1]
   exact yN b _ h _ _ _ _
  | true =>
   rw [n1, e1, if_neg (by decide), n2]
   cases e2 : dK y.1 (u.f0.drop b.key.toNat) with
   | false =>
    rw [if_pos (by decide), oV _ _ _ _ _ _ e1 e2]
    exact zU b g' k0 _ h _ _ _
   | true =>
    rw [if_neg (by decide), oW _ _ _ _ _ _ e1 e2]
    exact zV b g' k0 rs' y.1 y.2 h _ _
theorem uS (l : List S61) : ∀ (b : Bt) (g : Gr), Gs b g → Gs (eG b l) (l.foldl (nY b.key.toNat) g) := by
 induction l with
 | nil => exact fun b g h => h
 | cons u r ih =>
  intro b g h
  have h1 := ih (jC b u) _ (zZ b g u h)
  rw [(rD b u).1] at h1
  exact h1
def xI (key weight : Int) (since : List S59) (l : List S61) : Bt := { eG (Bt.none_ key 0 since) l with weight := weight }
theorem pZ (b : Bt) (u : S61) (w : Int) : jC { b with weight := w } u = { jC b u with weight := w } := by
 unfold jC
 dsimp only
 split
 ·rfl
 ·split <;> rfl
theorem nK (l : List S61) (w : Int) : ∀ b : Bt, eG { b with weight := w } l = { eG b l with weight := w } := by
 induction l with
 | nil => intro b; rfl
 | cons u r ih =>
  intro b
  show eG (jC { b with weight := w } u) r = _
  rw [pZ]
  exact ih (jC b u)
theorem uT (key weight : Int) (since : List S59) (l : List S61) : eG (Bt.none_ key weight since) l = xI key weight since l :=
 nK l weight (Bt.none_ key 0 since)
structure CV (key weight : Int) (since : List S59) (l : List S61) (b : Bt) (g : Gr) : Prop where
 gs : Gs b g
 key : b.key = key
 weight : b.weight = weight
 since : b.since = since
 times : b.times = l.map (·.f1)
 diffs : b.diffs = l.map (·.f2)
 wk : ∀ x ∈ g, x.1.length ≤ 1099511627776
 wr : ∀ y ∈ g.flatMap (·.2), y.1.length ≤ 1099511627776
theorem DL (key weight : Int) (since : List S59) (l : List S61) (hl : ∀ u ∈ l, u.f0.length ≤ 1099511627776) : CV key weight since l (xI key weight since l) (iR key.toNat l) := by
 have h1 := uS l (Bt.none_ key weight since) [] (zT _ _ _)
 obtain ⟨k1, k2, k3, k4, k5⟩ := mN l (Bt.none_ key weight since)
 have hv := oQ l _ (uM key weight since) hl
 rw [uT] at h1 k1 k2 k3 k4 k5 hv
 refine ⟨h1, k1, k2, k3, k4, k5, fun x hx => ?_, fun y hy => ?_⟩
 ·exact hv.wk x.1 (by rw [h1.keys]; exact List.mem_map.2 ⟨x, hx, rfl⟩)
 ·exact hv.wr y.1 (by rw [h1.rests]; exact List.mem_map.2 ⟨y, hy, rfl⟩)
def AA (g : Gr) : List S61 := g.flatMap fW
end Go.Proofs.YtpflmgbpjhbmnaaGreat.B
end
section
namespace Go.Proofs.YtpflmgbpjhbmnaaGreat.B
open Go Go.RowKit Go.Proofs Go.Proofs.YtpflmgbpjhbmnaaGreatW.PrintWords Go.Proofs.YtpflmgbpjhbmnaaGreatW.PrintLast Go.Proofs.YtpflmgbpjhbmnaaGreatW.PrintMore Go.Proofs.YtpflmgbpjhbmnaaGreat.Rg
set_option linter.unusedVariables false
set_option linter.unusedSimpArgs false
set_option maxRecDepth 100000
section
variable {P : Program} {ops : Array Oper} {rest : List Oper} {o : Oper} {a : Act} {Q : Exit → Act → World → Prop} {α : Type}
theorem nL (d : Kd α) {W : World} (base N2 : Nat) (hgd : o.guard = none) (s x : Operand) (t e : TypeId) (z : Value) (bytes : Nat)
  (ho : o.op = .call { callee := .builtin .append, args := #[s, x], argTypes := #[t, t] })
  (ht : P.underlying t = some (.slice e)) (hinfo : (P.info? e).map (fun i => (i.zero, i.size, i.bytes)) = some (some z, d.sz, bytes)) (hz : z.cells.size = d.sz) (hs0 : 0 < d.sz) (hb0 : 0 < bytes)
  (v : Value) (xs ys : List α) (A : Option Addr) (m c : Nat) (hs : a.eval s = v) (hx : a.eval x = .slice A m c)
  (HO : Kd.S d e W base (fun k => k < N2) v xs) (HY : Kd.S d e W N2 (fun _ => True) (.slice A m c) ys) (hN : N2 ≤ W.heap.size) (hbN : base ≤ N2) (hl : (xs.length + m) * bytes ≤ 140737488355328)
  (h : ∀ A1 c1 w1, Kd.S d e w1 base (fun _ => True) (.slice A1 (xs ++ ys).length c1) (xs ++ ys) → W.grownBy w1 v.ownBlock → wpList P ops Q rest (a.put o.dst (.slice A1 (xs ++ ys).length c1)) w1) :
  wpList P ops Q (o :: rest) a W := by
 obtain ⟨f, hf⟩ := HO
 obtain ⟨f2, hf2⟩ := HY
 have hvlt : ∀ k, v.ownBlock = some k → k < N2 := fun k hk => hf.1 k hk
 have hf' : (Kd.tag (fun k => if k < N2 then f k else xs.length + f2 k) d).R e W base (fun _ => True) v xs.zipIdx := Kd.R_mono (Kd.R_tag hf (fun k hk _ => if_pos hk)) (fun _ _ => trivial)
 obtain ⟨h0, inner, hown, hr⟩ := hf2
 have hmy : m = ys.length := by
  rcases hown.2 with ⟨e1, e2⟩ | ⟨g, cap, cur, e1, _⟩
  ·injection e1 with _ e3 _
   rw [e3]; rw [List.length_zipIdx] at e2; exact e2.symm
  ·injection e1 with _ e3 _
   rw [e3, List.length_zipIdx]
 obtain ⟨A', c', e1, hrd⟩ := iU hown hr rfl
 injection e1 with e2 _ _
 subst e2
 have hrd2 : dT (fun (p : α × Nat) cs => ∃ j, p.2 = xs.length + j ∧ (Kd.tag f2 d).M W N2 (fun k => True ∧ some k ≠ (Value.slice A m c).ownBlock) (p.1, j) cs) d.sz W A m (ys.zipIdx xs.length) := by
  obtain ⟨g1, g2, g3⟩ := hrd
  refine ⟨by rw [List.length_zipIdx, hmy], by rw [List.length_zipIdx] at g2; omega, fun hn => ?_⟩
  obtain ⟨ad, e3, g4⟩ := g3 (by rw [List.length_zipIdx]; omega)
  refine ⟨ad, e3, fun j p hp => ?_⟩
  rw [List.getElem?_zipIdx] at hp
  obtain ⟨y, hy, rfl⟩ := Option.map_eq_some_iff.1 hp
  obtain ⟨cs, q1, q2, q3⟩ := g4 j (y, j) (Kd.zip_at hy)
  exact ⟨cs, q1, ⟨j, rfl, q2⟩, q3⟩
 refine Kd.R_append_rows (Kd.tag (fun k => if k < N2 then f k else xs.length + f2 k) d) (w0 := W) base hgd s x t e z bytes ho ht hinfo hz hs0 hb0 v xs.zipIdx (ys.zipIdx xs.length) A m c (fun _ => True) (fun k => N2 ≤ k) hs hx hf' hrd2 ?_ (fun k hk => ⟨trivial, fun e => ?_⟩) (fun _ _ => trivial) (Below.refl _ _) (Nat.le_trans hbN hN) (by rw [List.length_zipIdx]; exact hl) ?_
 ·rintro ⟨y, i⟩ cs ⟨j, rfl, hM⟩
  have hM2 := d.M_lower hbN (d.M_bound hM)
  refine d.M_mono (fun k hk => ?_) hM2
  have hk2 := hk.2.1
  refine ⟨hk2, ?_⟩
  show (if k < N2 then f k else xs.length + f2 k) = xs.length + j
  rw [if_neg (by omega)]
  have hk3 : f2 k = j := hk.1.2
  rw [hk3]
 ·have := hvlt k e.symm; omega
 ·intro v1 w1 g1 g2 g3 g4
  have e4 : xs.zipIdx ++ ys.zipIdx xs.length = (xs ++ ys).zipIdx := by rw [List.zipIdx_append, Nat.zero_add]
  rw [e4] at g1
  have hS : Kd.S d e w1 base (fun _ => True) v1 (xs ++ ys) := ⟨_, g1⟩
  obtain ⟨A1, c1, rfl⟩ := Kd.S_slice hS
  exact h A1 c1 w1 hS g3
end
theorem uU (g : Gr) : (g.flatMap fW).length = ((g.flatMap (·.2)).flatMap (·.2)).length := by
 induction g with
 | nil => rfl
 | cons x r ih =>
  simp only [List.flatMap_cons, List.length_append, List.flatMap_append, ih]
  congr 1
  unfold fW
  rw [List.length_flatMap, List.length_flatMap]
  simp [mP]
set_option maxHeartbeats 8000000 in
theorem uV (p : Nat) (b : Bt) (A : Nat → Option Addr) (c : Nat → Nat) (g : Gr) (w : World) (hB : eU w p b A c) (hg : Gs b g) (hl : b.times.length < 1099511627776) (hk : ∀ x ∈ g, x.1.length ≤ 1099511627776) (hr : ∀ y ∈ g.flatMap (·.2), y.1.length ≤ 1099511627776) :
  Calls Tryz.prog 15 #[.pointer (some ⟨p, 0, none⟩)] w fun e w' => ∃ v0_ : Value, e = .returned v0_ ∧ Kd.S k61 61 w' w.heap.size (fun _ => True) v0_ (g.flatMap fW) ∧ Below w.heap.size w w' := by
 have hklen : b.keys.length = g.length := by rw [hg.keys, List.length_map]
 have htl : b.times.length = (g.flatMap fW).length := by rw [hg.times, List.length_map, uU]
 have hgl : g.length ≤ 1099511627776 := by
  have h1 := gO (·.2) g hg.ne1
  have h2 := gO (fun y : Rst => y.2) (g.flatMap (·.2)) hg.ne2
  have h3 := uU g
  omega
 have q3 := hB.keys.1
 rw [hklen] at q3
 have HRun : aA (∀ i (hi : i < g.length) W, Below w.heap.size w W → Calls Tryz.prog 24 #[.pointer (some ⟨p, 0, none⟩), .int .i64 i] W fun e w' => ∃ A1 c1, e = .returned (.slice A1 (fW g[i]).length c1) ∧ aA (Kd.S k61 61 w' W.heap.size (fun _ => True) (.slice A1 (fW g[i]).length c1) (fW g[i])) ∧ aA (Below W.heap.size W w')) := ⟨fun i hi W hW => by
  refine (oT p b A c g i W (hB.below hW) hg hi hl hk hr).mono ?_
  rintro e w' ⟨v0, rfl, g1, g2⟩
  obtain ⟨A1, c1, rfl⟩ := Kd.S_slice g1
  exact ⟨A1, c1, rfl, ⟨g1⟩, ⟨g2⟩⟩⟩
 have HLen : aA (∀ i, ((g.take i).flatMap fW).length ≤ b.times.length) := ⟨fun i => by
  rw [htl]
  have e : (g.flatMap fW) = (g.take i).flatMap fW ++ (g.drop i).flatMap fW := by rw [← List.flatMap_append, List.take_append_drop]
  rw [e, List.length_append]; omega⟩
 have HT := aA.mk (And.intro htl hl)
 clear hB hg hk hr hklen htl hl
 have HB0 := aA.mk (Below.refl w.heap.size w)
 go_enter Tryz.func15, Tryz.ntmps15
 go_wp2_with fail
 go_loopw [3, 12] (fun v3 v12 wr => ∃ i : Nat, v12 = .int .i64 i ∧ i ≤ g.length ∧ aA (Kd.S k61 61 wr w.heap.size (fun _ => True) v3 ((g.take i).flatMap fW)) ∧ aA (Below w.heap.size w wr)) (fun v3 v12 wr => g.length - (intOf v12).toNat)
 case atStart => exact ⟨0, rfl, Nat.zero_le _, ⟨Kd.S_nil _ _ _ _ _⟩, HB0⟩
 case round =>
  clear HB0
  obtain ⟨i, rfl, hi, HO, HB⟩ := hrel
  by_cases hlt : i < g.length
  ·have hb1 : decide ((i : Int) < (g.length : Int)) = true := decide_eq_true (by omega)
   have hb2 : decide (i < g.length) = true := decide_eq_true hlt
   have HR := aA.mk (HRun.out i hlt wr HB.out)
   obtain ⟨lst, hlst⟩ : ∃ lst, lst = (g.take i).flatMap fW := ⟨_, rfl⟩
   obtain ⟨one, hone⟩ : ∃ one, one = fW g[i] := ⟨_, rfl⟩
   have HE : aA ((g.take (i + 1)).flatMap fW = lst ++ one) := ⟨by
    have e : g.take (i + 1) = g.take i ++ [g[i]] := by rw [List.take_add_one, List.getElem?_eq_getElem hlt]; rfl
    rw [e, List.flatMap_append, hlst, hone]; simp⟩
   have HL : aA (lst.length + one.length < 1099511627776) := ⟨by
    have h1 := HLen.out (i + 1)
    rw [HE.out, List.length_append] at h1
    have := HT.out.2
    omega⟩
   rw [← hlst] at HO
   rw [← hone] at HR
   clear hlst hone
   obtain ⟨A3, c3, e3⟩ := Kd.S_slice HO.out
   subst e3
   go_wp2_with (first
    | (go_at_call 24; refine HR.out.mono ?_; rintro e w1 ⟨A1, c1, rfl, HS1, HB1⟩)
    | ((with_reducible refine cI (b := .append) (xs := #[.tmp 15, .tmp 18]) rfl ?_); at_builtin; (
      refine nL k61 w.heap.size wr.heap.size rfl (.tmp 15) (.tmp 18) 22 61 (.agg #[(.slice none 0 0), (.int .i64 0), (.int .i64 0), (.int .i64 0)]) 48 rfl Tryz.underlying22 mE rfl (by decide) (by omega) (.slice A3 lst.length c3) lst one A1 one.length c1 rfl rfl (Kd.S_mono (Kd.S_old HO.out HB1.out) (fun _ hk => hk.2)) HS1.out HB1.out.size HB.out.size (by have := HL.out; omega) ?_
      intro A4 c4 w4 g1 g2
      have HS4 := aA.mk g1
      have HB4 := aA.mk (Below.grown (HB.out.trans (HB1.out.mono HB.out.size)) g2 (Nat.le_trans HB.out.size HB1.out.size) (fun k hk => Kd.S_base HO.out k hk))
      clear g1 g2)))
   go_roundw
   case rel => exact ⟨i + 1, by go_num, by omega, ⟨by rw [HE.out]; have h9 := HS4.out; rw [List.length_append] at h9; exact h9⟩, HB4⟩
   case measure => simp [intOf]; omega
  ·have hin : i = g.length := by omega
   subst hin
   have hb1 : decide ((g.length : Int) < (g.length : Int)) = false := decide_eq_false (by omega)
   have HE : aA (g.take g.length = g) := ⟨List.take_of_length_le (Nat.le_refl _)⟩
   rw [HE.out] at HO
   go_wp2
   go_ret
   exact ⟨_, rfl, HO.out, HB.out⟩
end Go.Proofs.YtpflmgbpjhbmnaaGreat.B
end
section
namespace Go.Proofs.YtpflmgbpjhbmnaaGreat.B
open Go Go.RowKit Go.Proofs Go.Proofs.YtpflmgbpjhbmnaaGreatW.PrintWords
set_option linter.unusedVariables false
set_option linter.unusedSimpArgs false
abbrev Tm := S59
def leT (a b : Tm) : Bool := decide (a.f0 ≤ b.f0 ∧ a.f1 ≤ b.f1)
theorem lK (a b : Tm) : leT a b = true ↔ a.f0 ≤ b.f0 ∧ a.f1 ≤ b.f1 := by simp [leT]
theorem rH (a : Tm) : leT a a = true := by simp [leT]
theorem uW {a b c : Tm} (h1 : leT a b = true) (h2 : leT b c = true) : leT a c = true := by
 rw [lK] at *; omega
theorem BQ {a b : Tm} (h0 : a.f0 = b.f0) (h1 : a.f1 = b.f1) : a = b := by cases a; cases b; simp_all
theorem qA (x y : Tm) : eM x y ≤ 0 ↔ x.f0 < y.f0 ∨ (x.f0 = y.f0 ∧ x.f1 ≤ y.f1) := by
 unfold eM iK
 repeat' split
 all_goals omega
theorem uX {a b : Tm} (h : leT a b = true) : eM a b ≤ 0 := by
 rw [lK] at h; rw [qA]; omega
theorem oX {a b : Tm} (h1 : eM a b ≤ 0) (h2 : eM b a ≤ 0) : a = b := by
 rw [qA] at *; exact BQ (by omega) (by omega)
theorem oY (t : Tm) : ∀ out : List Tm, (∀ x ∈ out, eM x t ≤ 0) → (fN out t = true ↔ ∃ x ∈ out, leT x t = true)
 | [], _ => by simp [fN]
 | x :: r, h => by
  have hx := (qA x t).1 (h x List.mem_cons_self)
  have ih := oY t r (fun y hy => h y (List.mem_cons_of_mem _ hy))
  unfold fN
  rw [if_neg (by omega)]
  by_cases h1 : x.f1 ≤ t.f1
  ·rw [if_pos h1]
   exact ⟨fun _ => ⟨x, List.mem_cons_self, (lK x t).2 (by omega)⟩, fun _ => rfl⟩
  ·rw [if_neg h1, ih]
   constructor
   ·rintro ⟨y, hy, h2⟩; exact ⟨y, List.mem_cons_of_mem _ hy, h2⟩
   ·rintro ⟨y, hy, h2⟩
    rcases List.mem_cons.1 hy with rfl | hy
    ·rw [lK] at h2; omega
    ·exact ⟨y, hy, h2⟩
structure Least (P : Tm → Prop) (out : List Tm) : Prop where
 srt : out.Pairwise fun x y => eM x y < 0
 mem : ∀ t, t ∈ out ↔ P t ∧ ∀ x, P x → leT x t = true → x = t
theorem mR : ∀ x y : List Tm, x.Pairwise (fun x y => eM x y < 0) → y.Pairwise (fun x y => eM x y < 0) → (∀ t, t ∈ x ↔ t ∈ y) → x = y
 | [], [], _, _, _ => rfl
 | [], b :: y, _, _, h => absurd ((h b).2 List.mem_cons_self) List.not_mem_nil
 | a :: x, [], _, _, h => absurd ((h a).1 List.mem_cons_self) List.not_mem_nil
 | a :: x, b :: y, hx, hy, h => by
  rw [List.pairwise_cons] at hx hy
  have e : a = b := by
   rcases List.mem_cons.1 ((h a).1 List.mem_cons_self) with e | ha
   ·exact e
   ·rcases List.mem_cons.1 ((h b).2 List.mem_cons_self) with e | hb
    ·exact e.symm
    ·have h1 := hx.1 b hb
     have h2 := hy.1 a ha
     have := gJ a b
     omega
  subst e
  have h3 : ∀ t, t ∈ x ↔ t ∈ y := fun t => by
   constructor
   ·intro ht
    rcases List.mem_cons.1 ((h t).1 (List.mem_cons_of_mem _ ht)) with e | h4
    ·subst e; have := hx.1 t ht; rw [iZ] at this; omega
    ·exact h4
   ·intro ht
    rcases List.mem_cons.1 ((h t).2 (List.mem_cons_of_mem _ ht)) with e | h4
    ·subst e; have := hy.1 t ht; rw [iZ] at this; omega
    ·exact h4
  rw [mR x y hx.2 hy.2 h3]
theorem Least.uniq {P : Tm → Prop} {x y : List Tm} (hx : Least P x) (hy : Least P y) : x = y :=
 mR x y hx.srt hy.srt (fun t => (hx.mem t).trans (hy.mem t).symm)
theorem Least.congr {P Q : Tm → Prop} {x : List Tm} (hx : Least P x) (h : ∀ t, P t ↔ Q t) : Least Q x :=
 ⟨hx.srt, fun t => by rw [hx.mem t, h t]; exact ⟨fun ⟨a, b⟩ => ⟨a, fun x hx => b x ((h x).2 hx)⟩, fun ⟨a, b⟩ => ⟨a, fun x hx => b x ((h x).1 hx)⟩⟩⟩
structure pA (P : Tm → Prop) (out : List Tm) : Prop extends Least P out where
 dom : ∀ t, P t → ∃ m ∈ out, leT m t = true
theorem lL : ∀ (rest : List Tm) (P : Tm → Prop) (out : List Tm), pA P out → (∀ p, P p → ∀ r ∈ rest, eM p r ≤ 0) → rest.Pairwise (fun x y => eM x y ≤ 0) → pA (fun t => P t ∨ t ∈ rest) (jT out rest)
 | [], P, out, h, _, _ => ⟨h.toLeast.congr (fun t => by simp), fun t ht => h.dom t (by simpa using ht)⟩
 | t :: r, P, out, h, hp, hs => by
  rw [List.pairwise_cons] at hs
  have hout : ∀ x ∈ out, P x := fun x hx => ((h.mem x).1 hx).1
  have ha := oY t out (fun x hx => hp x (hout x hx) t List.mem_cons_self)
  have hPt : ∀ p, (P p ∨ p = t) → ∀ q ∈ r, eM p q ≤ 0 := by
   rintro p (h1 | rfl) q hq
   ·exact hp p h1 q (List.mem_cons_of_mem _ hq)
   ·exact hs.1 q hq
  have key : pA (fun x => P x ∨ x = t) (if fN out t = true then out else out ++ [t]) := by
   by_cases hc : fN out t = true
   ·rw [if_pos hc]
    obtain ⟨m, hm, hmt⟩ := ha.1 hc
    refine ⟨⟨h.srt, fun s => ?_⟩, ?_⟩
    ·rw [h.mem s]
     constructor
     ·rintro ⟨h1, h2⟩
      refine ⟨.inl h1, ?_⟩
      rintro x (hx | rfl) hl
      ·exact h2 x hx hl
      ·exact oX (uX hl) (hp s h1 x List.mem_cons_self)
     ·rintro ⟨h1 | rfl, h2⟩
      ·exact ⟨h1, fun x hx hl => h2 x (.inl hx) hl⟩
      ·have e := h2 m (.inl (hout m hm)) hmt
       subst e
       exact ⟨hout m hm, fun x hx hl => h2 x (.inl hx) hl⟩
    ·rintro s (h1 | rfl)
     ·exact h.dom s h1
     ·exact ⟨m, hm, hmt⟩
   ·rw [if_neg hc]
    have hno : ∀ x, P x → leT x t = true → False := fun x hx hl => by
     obtain ⟨m, hm, hmx⟩ := h.dom x hx
     exact hc (ha.2 ⟨m, hm, uW hmx hl⟩)
    refine ⟨⟨?_, fun s => ?_⟩, ?_⟩
    ·rw [List.pairwise_append]
     refine ⟨h.srt, List.pairwise_singleton _ _, fun x hx y hy => ?_⟩
     rw [List.mem_singleton.1 hy]
     have h1 := hp x (hout x hx) t List.mem_cons_self
     have h2 : eM x t ≠ 0 := fun e => hno x (hout x hx) (by rw [(jY x t).1 e]; exact rH t)
     omega
    ·rw [List.mem_append, h.mem s, List.mem_singleton]
     constructor
     ·rintro (⟨h1, h2⟩ | rfl)
      ·refine ⟨.inl h1, ?_⟩
       rintro x (hx | rfl) hl
       ·exact h2 x hx hl
       ·exact oX (uX hl) (hp s h1 x List.mem_cons_self)
      ·refine ⟨.inr rfl, ?_⟩
       rintro x (hx | rfl) hl
       ·exact (hno x hx hl).elim
       ·rfl
     ·rintro ⟨h1 | rfl, h2⟩
      ·exact .inl ⟨h1, fun x hx hl => h2 x (.inl hx) hl⟩
      ·exact .inr rfl
    ·rintro s (h1 | rfl)
     ·obtain ⟨m, hm, hl⟩ := h.dom s h1
      exact ⟨m, List.mem_append_left _ hm, hl⟩
     ·exact ⟨s, by simp, rH s⟩
  have ih := lL r (fun x => P x ∨ x = t) _ key (fun p hp2 q hq => hPt p hp2 q hq) hs.2
  have e : ∀ s, ((P s ∨ s = t) ∨ s ∈ r) ↔ (P s ∨ s ∈ t :: r) := fun s => by simp [or_assoc]
  show pA _ (jT (if fN out t = true then out else out ++ [t]) r)
  exact ⟨ih.toLeast.congr e, fun s hs => ih.dom s ((e s).2 hs)⟩
theorem mS (l : List Tm) : pA (fun t => t ∈ l) (lI l) := by
 have h := lL (gS l) (fun _ => False) [] ⟨⟨List.Pairwise.nil, fun t => by simp⟩, fun t h => h.elim⟩ (fun p hp => hp.elim) (oH l)
 have e : ∀ t, (False ∨ t ∈ gS l) ↔ t ∈ l := fun t => by simp [tV]
 exact ⟨h.toLeast.congr e, fun t ht => h.dom t ((e t).2 ht)⟩
def iS : List Tm → Tm → List Tm
 | [], t => [t]
 | x :: r, t => if eM x t < 0 then x :: iS r t else if eM x t = 0 then x :: r else t :: x :: r
theorem nM : ∀ (l : List Tm) (t s : Tm), s ∈ iS l t ↔ s = t ∨ s ∈ l
 | [], t, s => by simp [iS]
 | x :: r, t, s => by
  unfold iS
  split
  ·rw [List.mem_cons, nM r t s, List.mem_cons]
   exact ⟨fun h => by rcases h with h | h | h <;> simp [h], fun h => by rcases h with h | h | h <;> simp [h]⟩
  ·split
   ·rename_i h
    have := (jY x t).1 h
    subst this
    simp
   ·simp
theorem rI : ∀ (l : List Tm) (t : Tm), l.Pairwise (fun x y => eM x y < 0) → (iS l t).Pairwise (fun x y => eM x y < 0)
 | [], t, _ => List.pairwise_singleton _ _
 | x :: r, t, h => by
  have h0 := h
  rw [List.pairwise_cons] at h
  unfold iS
  split
  ·rename_i hx
   rw [List.pairwise_cons]
   refine ⟨fun s hs => ?_, rI r t h.2⟩
   rcases (nM r t s).1 hs with rfl | hs
   ·exact hx
   ·exact h.1 s hs
  ·split
   ·exact h0
   ·rename_i h1 h2
    rw [List.pairwise_cons]
    have h3 : eM t x < 0 := by have := gJ x t; omega
    refine ⟨fun s hs => ?_, h0⟩
    rcases List.mem_cons.1 hs with rfl | hs
    ·exact h3
    ·have h4 := h.1 s hs
     rw [nC] at *
     omega
def rJ (l : List Tm) (t : Tm) : Bool := l.all fun x => decide (eM x t = 0) || !leT x t
theorem xJ (l : List Tm) (t : Tm) : rJ l t = true ↔ ∀ x ∈ l, leT x t = true → x = t := by
 unfold rJ
 rw [List.all_eq_true]
 constructor
 ·intro h x hx hl
  have := h x hx
  rw [hl] at this
  simp at this
  exact (jY x t).1 this
 ·intro h x hx
  cases hl : leT x t with
  | false => simp
  | true => simp [(jY x t).2 (h x hx hl)]
def lW (l : List Tm) : List Tm → List Tm → List Tm
 | out, [] => out
 | out, t :: r => lW l (if rJ l t = true then iS out t else out) r
theorem jU (l : List Tm) : ∀ (r out : List Tm), out.Pairwise (fun x y => eM x y < 0) → (lW l out r).Pairwise (fun x y => eM x y < 0) ∧ ∀ t, t ∈ lW l out r ↔ t ∈ out ∨ (t ∈ r ∧ rJ l t = true)
 | [], out, h => ⟨h, fun t => by simp [lW]⟩
 | x :: r, out, h => by
  unfold lW
  by_cases hm : rJ l x = true
  ·rw [if_pos hm]
   obtain ⟨h1, h2⟩ := jU l r (iS out x) (rI out x h)
   refine ⟨h1, fun t => ?_⟩
   rw [h2 t, nM, List.mem_cons]
   constructor
   ·rintro ((rfl | h3) | ⟨h3, h4⟩)
    ·exact .inr ⟨.inl rfl, hm⟩
    ·exact .inl h3
    ·exact .inr ⟨.inr h3, h4⟩
   ·rintro (h3 | ⟨rfl | h3, h4⟩)
    ·exact .inl (.inr h3)
    ·exact .inl (.inl rfl)
    ·exact .inr ⟨h3, h4⟩
  ·rw [if_neg hm]
   obtain ⟨h1, h2⟩ := jU l r out h
   refine ⟨h1, fun t => ?_⟩
   rw [h2 t, List.mem_cons]
   constructor
   ·rintro (h3 | ⟨h3, h4⟩)
    ·exact .inl h3
    ·exact .inr ⟨.inr h3, h4⟩
   ·rintro (h3 | ⟨rfl | h3, h4⟩)
    ·exact .inl h3
    ·exact absurd h4 hm
    ·exact .inr ⟨h3, h4⟩
theorem sI (l : List Tm) : lW l [] l = lI l := by
 obtain ⟨h1, h2⟩ := jU l l [] List.Pairwise.nil
 refine Least.uniq (P := fun t => t ∈ l) ⟨h1, fun t => ?_⟩ (mS l).toLeast
 rw [h2 t, xJ]
 simp
theorem xK (l : List Tm) (t : Tm) : (iS l t).length ≤ l.length + 1 := by
 induction l with
 | nil => simp [iS]
 | cons x r ih =>
  unfold iS
  split
  ·simpa using ih
  ·split <;> simp
theorem pB (a b : Tm) : cT.f a.f0 a.f1 b.f0 b.f1 = some (eM a b) := by
 unfold cT.f eM iK
 by_cases h0 : a.f0 = b.f0
 ·by_cases h1 : a.f1 = b.f1
  ·simp [h0, h1]
  ·have e : (a.f0 == b.f0 && (a.f1 == b.f1)) = false := by simp [h1]
   rw [e, if_neg (by decide), if_neg (by omega), if_pos h0, if_pos h0]
   by_cases h2 : a.f1 < b.f1
   ·rw [if_pos h2, if_pos h2]
   ·rw [if_neg h2, if_neg h2, if_pos (by omega)]
 ·have e : (a.f0 == b.f0 && (a.f1 == b.f1)) = false := by simp [h0]
  rw [e, if_neg (by decide)]
  by_cases h2 : a.f0 < b.f0
  ·simp [h0, h2]
  ·have h3 : b.f0 < a.f0 := by omega
   simp [h0, h2, h3]
theorem uY (a b : Tm) : dL.f a.f0 a.f1 b.f0 b.f1 = some (leT a b) := by
 unfold dL.f leT
 by_cases h : a.f0 ≤ b.f0
 ·rw [if_pos h]; simp [h]
 ·rw [if_neg h]; simp [h]
theorem nN (a b : Tm) : (a.f0 == b.f0 && (a.f1 == b.f1)) = decide (eM a b = 0) := by
 rw [Bool.eq_iff_iff]
 simp only [Bool.and_eq_true, beq_iff_eq, decide_eq_true_eq, jY]
 exact ⟨fun ⟨h0, h1⟩ => BQ h0 h1, fun h => by rw [h]; exact ⟨rfl, rfl⟩⟩
end Go.Proofs.YtpflmgbpjhbmnaaGreat.B
end
section
namespace Go.Proofs.YtpflmgbpjhbmnaaGreat.B
open Go Go.RowKit Go.Proofs Go.Proofs.YtpflmgbpjhbmnaaGreatW.PrintWords Go.Proofs.YtpflmgbpjhbmnaaGreatW.PrintLast Go.Proofs.YtpflmgbpjhbmnaaGreatW.PrintMore
set_option linter.unusedVariables false
set_option linter.unusedSimpArgs false
set_option maxRecDepth 100000
attribute [local go_sem high] uO
structure AdS (w : World) (t : Tm) (W : World) : Prop where
 B : Below w.heap.size w W
 X : W.heap[w.heap.size]? = some (.cells #[.int .i64 t.f0, .int .i64 t.f1] 59 (0, 0))
set_option maxHeartbeats 8000000 in
theorem CW (A0 : Option Addr) (c0 : Nat) (l : List Tm) (t : Tm) (w : World) (base : Nat) (hv : Kd.R k59 59 w base (fun _ => True) (.slice A0 l.length c0) l) (hbase : base ≤ w.heap.size) (hl : l.length ≤ 549755813888) :
  Calls Tryz.prog 107 #[.slice A0 l.length c0, .agg #[.int .i64 t.f0, .int .i64 t.f1]] w fun e w' => ∃ A c, e = .returned (.slice A (iS l t).length c) ∧ Kd.R k59 59 w' base (fun _ => True) (.slice A (iS l t).length c) (iS l t) ∧ Below w.heap.size w w' := by
 have hu59 := Tryz.underlying59
 have HR := aA.mk hv
 have HC := aA.mk (Kd.R_reads' hv).2.2
 have HCap := aA.mk (Kd.R_reads' hv).2.1
 have HBase := aA.mk hbase
 clear hv hbase
 go_enter Tryz.func107, Tryz.ntmps107
 go_wp2_with fail
 go_loopw [5] (fun v5 wr => ∃ i : Nat, v5 = .int .i64 i ∧ i ≤ l.length ∧ aA (iS l t = l.take i ++ iS (l.drop i) t) ∧ aA (AdS w t wr)) (fun v5 wr => l.length - (intOf v5).toNat)
 case atStart =>
  refine ⟨0, rfl, Nat.zero_le _, ⟨rfl⟩, ⟨?_, ?_⟩⟩
  ·repeat (first | exact Below.refl _ _ | apply aC)
  ·exact heap_alloc_new _ _
 case round =>
  obtain ⟨i, rfl, hi, HA, HS⟩ := hrel
  have hi0 : (0 : Int) ≤ (i : Int) := by omega
  obtain ⟨i0, hin0, _, hsz, _⟩ := info_parts (P := Tryz.prog) fZ
  have hcutA := kO (P := Tryz.prog) 23 59 .i64 Tryz.underlying23 hin0 A0 l.length c0 (i : Int) hi0 (by omega) HCap.out
  have hcutB := iD (P := Tryz.prog) 23 59 .i64 Tryz.underlying23 hin0 2 hsz A0 l.length c0 (i : Int) hi0 (by omega)
  rw [Int.toNat_natCast] at hcutA hcutB
  clear hin0 hsz
  obtain ⟨y1, hy1⟩ : ∃ y, y = l.take i := ⟨_, rfl⟩
  obtain ⟨y2, hy2⟩ : ∃ y, y = l.drop i := ⟨_, rfl⟩
  obtain ⟨A2, hA2⟩ : ∃ A2, A2 = (if c0 = i then A0 else A0.map (·.add (i * 2))) := ⟨_, rfl⟩
  obtain ⟨c2, hc2⟩ : ∃ c2, c2 = c0 - i := ⟨_, rfl⟩
  have hl1 : y1.length = i := by rw [hy1, List.length_take]; omega
  have hl2 : y2.length = l.length - i := by rw [hy2, List.length_drop]
  have HY1 : aA (∀ W, Below w.heap.size w W → Kd.C k59 W A0 y1.length y1) := ⟨fun W hW => by rw [hy1]; exact Kd.C_take (Kd.C_below HC.out hW) hi⟩
  have HY2 : aA (∀ W, Below w.heap.size w W → Kd.C k59 W A2 y2.length y2) := ⟨fun W hW => by rw [hy2, hA2]; exact Kd.C_drop (Kd.C_below HC.out hW) hi HCap.out⟩
  rw [← hA2, ← hc2, ← hl2] at hcutB
  rw [show (Value.slice A0 i c0) = Value.slice A0 y1.length c0 by rw [hl1]] at hcutA
  have HLn : aA (y1.length ≤ 549755813888 ∧ y2.length ≤ 549755813888) := ⟨by omega⟩
  rw [← hy1, ← hy2] at HA
  clear hA2 hc2 hl1 hl2
  have hz0 : wr.cell? ⟨w.heap.size, 0, none⟩ = some (.int .i64 t.f0) := aE HS.out.X 0
  have hz1 : wr.cell? ⟨w.heap.size, 1, none⟩ = some (.int .i64 t.f1) := aE HS.out.X 1
  by_cases hlt : i < l.length
  ·have hb1 : decide ((i : Int) < (l.length : Int)) = true := decide_eq_true (by omega)
   have hb2 : decide (i < l.length) = true := decide_eq_true hlt
   have hi1 : (i : Int) < (l.length : Int) := by omega
   obtain ⟨ad, e, hx0, hx1⟩ := dW HC.out (i : Int) (by omega) (by omega)
   rw [Int.toNat_natCast, fA l i hlt] at hx0 hx1
   have HD : aA (y2 = l[i] :: l.drop (i + 1) ∧ l.take (i + 1) = y1 ++ [l[i]]) := ⟨by rw [hy2]; exact List.drop_eq_getElem_cons hlt, by rw [hy1, List.take_add_one, List.getElem?_eq_getElem hlt]; rfl⟩
   have HW : aA (l = y1 ++ y2) := ⟨by rw [hy1, hy2, List.take_append_drop]⟩
   clear hy1 hy2
   generalize l[i] = x at hx0 hx1 HD
   subst e
   have hxa := hx0
   have hxb := hx1
   replace hx0 := aH HS.out.B hx0
   replace hx1 := aH HS.out.B hx1
   have HO : aA (∀ W, Below wr.heap.size wr W → Calls Tryz.prog 88 #[.agg #[.int .i64 x.f0, .int .i64 x.f1], .agg #[.int .i64 t.f0, .int .i64 t.f1]] W fun e w' => e = .returned (.int .i64 (eM x t)) ∧ aA (Below wr.heap.size wr w')) := ⟨fun W hW => (cT.calls x.f0 x.f1 t.f0 t.f1 _ W (pB x t)).mono fun e w' ⟨q1, q2⟩ => ⟨q1, ⟨hW.trans (q2.mono hW.size)⟩⟩⟩
   have HEq := aA.mk (nN x t)
   have HU : aA (iS y2 t = if eM x t < 0 then x :: iS (l.drop (i + 1)) t else if eM x t = 0 then y2 else t :: y2) := ⟨by rw [HD.out.1]; rfl⟩
   generalize eM x t = z at HO HEq HU
   go_upto_region 2 with (fail)
   go_cut [19] (fun x19 wx => ∃ q : Bool, x19 = .bool q ∧ aA (q = decide (z < 0)) ∧ aA (AdS w t wx))
   case first =>
    go_region_held3 (fun w' => w'.cell? (ad.add (i * 2)) = some (.int .i64 x.f0) ∧ w'.cell? ⟨(ad.add (i * 2)).block, (ad.add (i * 2)).off + 1, none⟩ = some (.int .i64 x.f1) ∧ w'.cell? ⟨w.heap.size, 0, none⟩ = some (.int .i64 t.f0) ∧ w'.cell? ⟨w.heap.size, 1, none⟩ = some (.int .i64 t.f1)) (first | (exact ⟨aH HB5.out hx0, aH HB5.out hx1, aH HB5.out hz0, aH HB5.out hz1⟩) | go_keep) ((go_at_call 88; refine (HO.out _ (by repeat (first | exact Below.refl _ _ | apply aC | apply pw_below_drewN | apply aD))).mono ?_; rintro e w5 ⟨rfl, HB5⟩))
    go_wp2
    go_meet
    case rel => exact ⟨_, rfl, ⟨rfl⟩, ⟨HS.out.B.trans (HB5.out.mono HS.out.B.size), bD HS.out.X HB5.out⟩⟩
   case rest =>
    clear HS hx0 hx1 hz0 hz1
    obtain ⟨q, rfl, Hq, HS⟩ := hcut
    have hx0 := aH HS.out.B hxa
    have hx1 := aH HS.out.B hxb
    have hz0 : wc.cell? ⟨w.heap.size, 0, none⟩ = some (.int .i64 t.f0) := aE HS.out.X 0
    have hz1 : wc.cell? ⟨w.heap.size, 1, none⟩ = some (.int .i64 t.f1) := aE HS.out.X 1
    clear hxa hxb
    cases q with
    | true =>
     have HA2 : aA (iS l t = l.take (i + 1) ++ iS (l.drop (i + 1)) t) := ⟨by
      rw [HA.out, HU.out, if_pos (of_decide_eq_true Hq.out.symm), HD.out.2, List.append_assoc]; rfl⟩
     go_wp2
     go_roundw
     case rel => exact ⟨i + 1, by go_num, by omega, HA2, HS⟩
     case measure => simp [intOf]; omega
    | false =>
     have hq : ¬ z < 0 := of_decide_eq_false Hq.out.symm
     by_cases hz : z = 0
     ·have he : (x.f0 == t.f0 && (x.f1 == t.f1)) = true := by rw [HEq.out, hz]; rfl
      have HE : aA (iS l t = l) := ⟨by rw [HA.out, HU.out, if_neg hq, if_pos hz, ← HW.out]⟩
      clear hq hz
      go_wp2
      go_quiet (fail)
      go_wp2
      go_ret
      rw [HE.out]
      have HBe := aA.mk HS.out.B
      exact ⟨_, c0, rfl, Kd.R_below HR.out (by repeat (first | exact HBe.out | apply pw_below_drewN | apply aD)), (by repeat (first | exact HBe.out | apply pw_below_drewN | apply aD))⟩
     ·have he : (x.f0 == t.f0 && (x.f1 == t.f1)) = false := by rw [HEq.out]; exact decide_eq_false hz
      have HE : aA (iS l t = y1 ++ t :: y2) := ⟨by rw [HA.out, HU.out, if_neg hq, if_neg hz]⟩
      clear hq hz
      go_wp2
      go_quiet (fail)
      go_wp2_with (first
       | ((with_reducible refine bK (N := 35) rfl ?_); refine Kd.R_lit k59 (w0 := w) w.heap.size 59 ?hg (N := 35) ?hd (xs := ([] : List Tm)) (inner := []) (ok := fun k => k ≠ w.heap.size) (okp := fun _ => False) ?hr ?hp (fun _ hk => hk.elim) (Nat.ne_of_gt (blk_lt (by repeat (first | exact HX39.out | exact HX35.out | exact HS.out.X | refine aJ ?_ _ | refine aK ?_ | refine aI ?_ _)))) (by repeat (first | exact HB48.out | exact HB43.out | exact HB39.out | exact HB35.out | exact HS.out.B | apply aC | apply pw_below_drewN | apply aD)) (Nat.le_of_lt (blk_lt (by repeat (first | exact HX39.out | exact HX35.out | exact HS.out.X | refine aJ ?_ _ | refine aK ?_ | refine aI ?_ _)))) (by simp) ?_; (case hd => rfl); (case hg => rfl); (case hr => first | (go_simp; done) | (go_simp; rfl)); (case hp => exact (Reps.none _ _)); intro v35 w35 ho hb hg _; have HO35 := aA.mk ho; have HB35 := aA.mk hb; have HX35 : aA (w35.heap[w.heap.size]? = some (.cells #[.int .i64 t.f0, .int .i64 t.f1] 59 (0, 0))) := ⟨(hg.block _ (blk_lt (by repeat (first | exact HX39.out | exact HX35.out | exact HS.out.X | refine aJ ?_ _ | refine aK ?_ | refine aI ?_ _))) (fun e => by cases e)).trans (by repeat (first | exact HX39.out | exact HX35.out | exact HS.out.X | refine aJ ?_ _ | refine aK ?_ | refine aI ?_ _))⟩; clear ho hb hg)
       | ((with_reducible refine cI (b := .append) (xs := #[.tmp 35, .tmp 38]) rfl ?_); at_builtin; refine Kd.R_append_rows k59 (w0 := w) w.heap.size rfl (.tmp 35) (.tmp 38) 23 59 (.agg #[(.int .i64 0), (.int .i64 0)]) 16 rfl Tryz.underlying23 fZ rfl (by decide) (by omega) v35 [] y1 _ y1.length c0 (fun k => k ≠ w.heap.size) (fun _ => False) rfl rfl HO35.out (HY1.out _ (by repeat (first | exact HB48.out | exact HB43.out | exact HB39.out | exact HB35.out | exact HS.out.B | apply aC | apply pw_below_drewN | apply aD))) (fun _ _ h => h) (fun _ h => h.elim) (fun k hk => by have := blk_lt HX35.out; omega) (by repeat (first | exact HB48.out | exact HB43.out | exact HB39.out | exact HB35.out | exact HS.out.B | apply aC | apply pw_below_drewN | apply aD)) (Nat.le_of_lt (blk_lt HX35.out)) (by have := HLn.out; simp; omega) ?_; intro v39 w39 ho hb hg _; have HB39 := aA.mk hb; have HX39 : aA (w39.heap[w.heap.size]? = some (.cells #[.int .i64 t.f0, .int .i64 t.f1] 59 (0, 0))) := ⟨(hg.block _ (blk_lt HX35.out) (fun e => HO35.out.1 _ e.symm rfl)).trans HX35.out⟩; have HO39 := aA.mk ho; have hz0 : w39.cell? ⟨w.heap.size, 0, none⟩ = some (.int .i64 t.f0) := aE HX39.out 0; have hz1 : w39.cell? ⟨w.heap.size, 1, none⟩ = some (.int .i64 t.f1) := aE HX39.out 1; clear ho hb hg)
       | ((with_reducible refine cI (b := .append) (xs := #[.tmp 40, .tmp 42]) rfl ?_); at_builtin; refine Kd.R_append k59 (w0 := w) w.heap.size rfl (.tmp 40) (.tmp 42) 23 59 (.agg #[(.int .i64 0), (.int .i64 0)]) 16 rfl Tryz.underlying23 fZ rfl (by decide) (by omega) v39 ([] ++ y1) t [.int .i64 t.f0, .int .i64 t.f1] (fun k => k ≠ w.heap.size) (fun _ => False) rfl rfl (gI _ _ _ t) (fun _ h => h.elim) (fun k hk => by have := blk_lt HX39.out; omega) HO39.out (by repeat (first | exact HB48.out | exact HB43.out | exact HB39.out | exact HB35.out | exact HS.out.B | apply aC | apply pw_below_drewN | apply aD)) (Nat.le_of_lt (blk_lt HX39.out)) (by have := HLn.out; simp; omega) ?_; intro v43 w43 ho hb hg _; have HB43 := aA.mk hb; have HX43 : aA (w.heap.size < w43.heap.size) := ⟨Nat.lt_of_lt_of_le (blk_lt HX39.out) hg.size⟩; have HO43 := aA.mk ho; clear ho hb hg)
       | ((with_reducible refine cI (b := .append) (xs := #[.tmp 44, .tmp 47]) rfl ?_); at_builtin; refine Kd.R_append_rows k59 (w0 := w) w.heap.size rfl (.tmp 44) (.tmp 47) 23 59 (.agg #[(.int .i64 0), (.int .i64 0)]) 16 rfl Tryz.underlying23 fZ rfl (by decide) (by omega) v43 ([] ++ y1 ++ [t]) y2 A2 y2.length c2 (fun k => k ≠ w.heap.size) (fun _ => False) rfl rfl HO43.out (HY2.out _ (by repeat (first | exact HB48.out | exact HB43.out | exact HB39.out | exact HB35.out | exact HS.out.B | apply aC | apply pw_below_drewN | apply aD))) (fun _ _ h => h) (fun _ h => h.elim) (fun k hk => by have := HX43.out; omega) (by repeat (first | exact HB48.out | exact HB43.out | exact HB39.out | exact HB35.out | exact HS.out.B | apply aC | apply pw_below_drewN | apply aD)) (Nat.le_of_lt HX43.out) (by have := HLn.out; simp; omega) ?_; intro v48 w48 ho hb hg _; rw [List.nil_append, List.append_assoc, List.singleton_append] at ho; have HB48 := aA.mk hb; obtain ⟨A8, c8, e8, _⟩ := Kd.R_reads ho; have HO48 := aA.mk ho; clear ho hb hg; subst e8))
      go_ret
      have h9 := Kd.R_mono (Kd.R_lower HO48.out HBase.out) (ok' := fun _ => True) (fun _ _ => trivial)
      rw [HE.out]
      exact ⟨A8, c8, by rw [show (y1 ++ t :: y2).length = y1.length + (y2.length + 1) by simp]; rfl, h9, HB48.out⟩
  ·have hin : i = l.length := by omega
   have hb1 : decide ((i : Int) < (l.length : Int)) = false := decide_eq_false (by omega)
   have hb2 : decide (i < l.length) = false := decide_eq_false hlt
   have HE : aA (iS l t = y1 ++ t :: y2) := ⟨by rw [HA.out, hy2, List.drop_of_length_le (by omega)]; rfl⟩
   clear hlt hin hy1 hy2
   go_wp2
   go_quiet (fail)
   go_wp2
   go_quiet (fail)
   go_wp2_with (first
    | ((with_reducible refine bK (N := 35) rfl ?_); refine Kd.R_lit k59 (w0 := w) w.heap.size 59 ?hg (N := 35) ?hd (xs := ([] : List Tm)) (inner := []) (ok := fun k => k ≠ w.heap.size) (okp := fun _ => False) ?hr ?hp (fun _ hk => hk.elim) (Nat.ne_of_gt (blk_lt (by repeat (first | exact HX39.out | exact HX35.out | exact HS.out.X | refine aJ ?_ _ | refine aK ?_ | refine aI ?_ _)))) (by repeat (first | exact HB48.out | exact HB43.out | exact HB39.out | exact HB35.out | exact HS.out.B | apply aC | apply pw_below_drewN | apply aD)) (Nat.le_of_lt (blk_lt (by repeat (first | exact HX39.out | exact HX35.out | exact HS.out.X | refine aJ ?_ _ | refine aK ?_ | refine aI ?_ _)))) (by simp) ?_; (case hd => rfl); (case hg => rfl); (case hr => first | (go_simp; done) | (go_simp; rfl)); (case hp => exact (Reps.none _ _)); intro v35 w35 ho hb hg _; have HO35 := aA.mk ho; have HB35 := aA.mk hb; have HX35 : aA (w35.heap[w.heap.size]? = some (.cells #[.int .i64 t.f0, .int .i64 t.f1] 59 (0, 0))) := ⟨(hg.block _ (blk_lt (by repeat (first | exact HX39.out | exact HX35.out | exact HS.out.X | refine aJ ?_ _ | refine aK ?_ | refine aI ?_ _))) (fun e => by cases e)).trans (by repeat (first | exact HX39.out | exact HX35.out | exact HS.out.X | refine aJ ?_ _ | refine aK ?_ | refine aI ?_ _))⟩; clear ho hb hg)
    | ((with_reducible refine cI (b := .append) (xs := #[.tmp 35, .tmp 38]) rfl ?_); at_builtin; refine Kd.R_append_rows k59 (w0 := w) w.heap.size rfl (.tmp 35) (.tmp 38) 23 59 (.agg #[(.int .i64 0), (.int .i64 0)]) 16 rfl Tryz.underlying23 fZ rfl (by decide) (by omega) v35 [] y1 _ y1.length c0 (fun k => k ≠ w.heap.size) (fun _ => False) rfl rfl HO35.out (HY1.out _ (by repeat (first | exact HB48.out | exact HB43.out | exact HB39.out | exact HB35.out | exact HS.out.B | apply aC | apply pw_below_drewN | apply aD))) (fun _ _ h => h) (fun _ h => h.elim) (fun k hk => by have := blk_lt HX35.out; omega) (by repeat (first | exact HB48.out | exact HB43.out | exact HB39.out | exact HB35.out | exact HS.out.B | apply aC | apply pw_below_drewN | apply aD)) (Nat.le_of_lt (blk_lt HX35.out)) (by have := HLn.out; simp; omega) ?_; intro v39 w39 ho hb hg _; have HB39 := aA.mk hb; have HX39 : aA (w39.heap[w.heap.size]? = some (.cells #[.int .i64 t.f0, .int .i64 t.f1] 59 (0, 0))) := ⟨(hg.block _ (blk_lt HX35.out) (fun e => HO35.out.1 _ e.symm rfl)).trans HX35.out⟩; have HO39 := aA.mk ho; have hz0 : w39.cell? ⟨w.heap.size, 0, none⟩ = some (.int .i64 t.f0) := aE HX39.out 0; have hz1 : w39.cell? ⟨w.heap.size, 1, none⟩ = some (.int .i64 t.f1) := aE HX39.out 1; clear ho hb hg)
    | ((with_reducible refine cI (b := .append) (xs := #[.tmp 40, .tmp 42]) rfl ?_); at_builtin; refine Kd.R_append k59 (w0 := w) w.heap.size rfl (.tmp 40) (.tmp 42) 23 59 (.agg #[(.int .i64 0), (.int .i64 0)]) 16 rfl Tryz.underlying23 fZ rfl (by decide) (by omega) v39 ([] ++ y1) t [.int .i64 t.f0, .int .i64 t.f1] (fun k => k ≠ w.heap.size) (fun _ => False) rfl rfl (gI _ _ _ t) (fun _ h => h.elim) (fun k hk => by have := blk_lt HX39.out; omega) HO39.out (by repeat (first | exact HB48.out | exact HB43.out | exact HB39.out | exact HB35.out | exact HS.out.B | apply aC | apply pw_below_drewN | apply aD)) (Nat.le_of_lt (blk_lt HX39.out)) (by have := HLn.out; simp; omega) ?_; intro v43 w43 ho hb hg _; have HB43 := aA.mk hb; have HX43 : aA (w.heap.size < w43.heap.size) := ⟨Nat.lt_of_lt_of_le (blk_lt HX39.out) hg.size⟩; have HO43 := aA.mk ho; clear ho hb hg)
    | ((with_reducible refine cI (b := .append) (xs := #[.tmp 44, .tmp 47]) rfl ?_); at_builtin; refine Kd.R_append_rows k59 (w0 := w) w.heap.size rfl (.tmp 44) (.tmp 47) 23 59 (.agg #[(.int .i64 0), (.int .i64 0)]) 16 rfl Tryz.underlying23 fZ rfl (by decide) (by omega) v43 ([] ++ y1 ++ [t]) y2 A2 y2.length c2 (fun k => k ≠ w.heap.size) (fun _ => False) rfl rfl HO43.out (HY2.out _ (by repeat (first | exact HB48.out | exact HB43.out | exact HB39.out | exact HB35.out | exact HS.out.B | apply aC | apply pw_below_drewN | apply aD))) (fun _ _ h => h) (fun _ h => h.elim) (fun k hk => by have := HX43.out; omega) (by repeat (first | exact HB48.out | exact HB43.out | exact HB39.out | exact HB35.out | exact HS.out.B | apply aC | apply pw_below_drewN | apply aD)) (Nat.le_of_lt HX43.out) (by have := HLn.out; simp; omega) ?_; intro v48 w48 ho hb hg _; rw [List.nil_append, List.append_assoc, List.singleton_append] at ho; have HB48 := aA.mk hb; obtain ⟨A8, c8, e8, _⟩ := Kd.R_reads ho; have HO48 := aA.mk ho; clear ho hb hg; subst e8))
   go_ret
   have h9 := Kd.R_mono (Kd.R_lower HO48.out HBase.out) (ok' := fun _ => True) (fun _ _ => trivial)
   rw [HE.out]
   exact ⟨A8, c8, by rw [show (y1 ++ t :: y2).length = y1.length + (y2.length + 1) by simp]; rfl, h9, HB48.out⟩
end Go.Proofs.YtpflmgbpjhbmnaaGreat.B
end
section
namespace Go.Proofs.YtpflmgbpjhbmnaaGreat.B
open Go Go.RowKit Go.Proofs Go.Proofs.YtpflmgbpjhbmnaaGreatW.PrintWords Go.Proofs.YtpflmgbpjhbmnaaGreatW.PrintLast Go.Proofs.YtpflmgbpjhbmnaaGreatW.PrintMore
set_option linter.unusedVariables false
set_option linter.unusedSimpArgs false
set_option maxRecDepth 100000
attribute [local go_sem high] uO
theorem uZ (l : List Tm) (x t : Tm) : rJ (l ++ [x]) t = (rJ l t && (decide (eM x t = 0) || !leT x t)) := by
 unfold rJ
 rw [List.all_append]; simp
set_option maxHeartbeats 8000000 in
theorem CY (A0 : Option Addr) (c0 : Nat) (l : List Tm) (w : World) (hr : Kd.C k59 w A0 l.length l) (hl : l.length ≤ 549755813888) :
  Calls Tryz.prog 85 #[.slice A0 l.length c0] w fun e w' => ∃ v, e = .returned v ∧ Kd.R k59 59 w' w.heap.size (fun _ => True) v (lI l) ∧ Below w.heap.size w w' := by
 have hu59 := Tryz.underlying59
 have HR := aA.mk hr
 clear hr
 have HB0 := aA.mk (Below.refl w.heap.size w)
 go_enter Tryz.func85, Tryz.ntmps85
 go_wp2_with fail
 go_loopw [3, 4] (fun v3 v4 wr => ∃ (i : Nat) (out : List Tm) (A : Option Addr) (c : Nat), v4 = .int .i64 i ∧ v3 = .slice A out.length c ∧ i ≤ l.length ∧ aA (out.length ≤ i ∧ lW l out (l.drop i) = lI l) ∧ aA (Kd.R k59 59 wr w.heap.size (fun _ => True) (.slice A out.length c) out) ∧ aA (Below w.heap.size w wr)) (fun v3 v4 wr => l.length - (intOf v4).toNat)
 case atStart => exact ⟨0, [], none, 0, rfl, rfl, Nat.zero_le _, ⟨⟨Nat.le_refl _, sI l⟩⟩, ⟨Kd.R_nil _ _ _ _ _⟩, HB0⟩
 case round =>
  clear HB0
  obtain ⟨i, out, A, c, rfl, rfl, hi, HG, HO, HB⟩ := hrel
  by_cases hlt : i < l.length
  ·have hb1 : decide ((i : Int) < (l.length : Int)) = true := decide_eq_true (by omega)
   have hb2 : decide (i < l.length) = true := decide_eq_true hlt
   have hi0 : (0 : Int) ≤ (i : Int) := by omega
   have hi1 : (i : Int) < (l.length : Int) := by omega
   obtain ⟨ad, e, hx0, hx1⟩ := dW HR.out (i : Int) (by omega) (by omega)
   rw [Int.toNat_natCast, fA l i hlt] at hx0 hx1
   have HG2 : aA (lW l (if rJ l l[i] = true then iS out l[i] else out) (l.drop (i + 1)) = lI l) := ⟨by
    have h1 := HG.out.2
    rw [List.drop_eq_getElem_cons hlt] at h1
    exact h1⟩
   generalize l[i] = t at hx0 hx1 HG2
   have hza := hx0
   have hzb := hx1
   have HAdr := aA.mk e
   clear e hb1 hb2
   have HB9 := HB
   have HO9 := HO
   obtain ⟨w9, hw9⟩ : ∃ w9, w9 = wr := ⟨_, rfl⟩
   rw [← hw9] at HB9 HO9
   have HW9 : aA (Below w9.heap.size w9 wr) := ⟨by rw [hw9]; exact Below.refl _ _⟩
   clear hw9 HB HO hx0 hx1
   go_wp2_with fail
   go_loopw [5, 6] (fun v5 v6 wi => ∃ (k : Nat) (b : Bool), v5 = .bool b ∧ v6 = .int .i64 k ∧ k ≤ l.length ∧ aA (b = rJ (l.take k) t) ∧ aA (Below w9.heap.size w9 wi)) (fun v5 v6 wi => l.length - (intOf v6).toNat)
   case atStart => exact ⟨0, true, rfl, rfl, Nat.zero_le _, ⟨rfl⟩, HW9⟩
   case round =>
    clear HW9
    obtain ⟨k, b, rfl, rfl, hk, Hb, HW⟩ := hrel
    by_cases hkl : k < l.length
    ·have hb1 : decide ((k : Int) < (l.length : Int)) = true := decide_eq_true (by omega)
     have hb2 : decide (k < l.length) = true := decide_eq_true hkl
     have hk0 : (0 : Int) ≤ (k : Int) := by omega
     have hk1 : (k : Int) < (l.length : Int) := by omega
     obtain ⟨bd, e', hy0, hy1⟩ := dW HR.out (k : Int) (by omega) (by omega)
     rw [Int.toNat_natCast, fA l k hkl] at hy0 hy1
     have HM : aA (rJ (l.take (k + 1)) t = (b && (decide (eM l[k] t = 0) || !leT l[k] t))) := ⟨by
      have h1 : l.take (k + 1) = l.take k ++ [l[k]] := by rw [List.take_add_one, List.getElem?_eq_getElem hkl]; rfl
      rw [h1, uZ, ← Hb.out]⟩
     generalize l[k] = x at hy0 hy1 HM
     have e := HAdr.out
     have eb : bd = ad := by rw [e] at e'; exact (Option.some.inj e').symm
     clear e' HAdr
     subst eb
     subst e
     have HWw := aA.mk (HB9.out.trans (HW.out.mono HB9.out.size))
     have hx0 := aH HWw.out hza
     have hx1 := aH HWw.out hzb
     replace hy0 := aH HWw.out hy0
     replace hy1 := aH HWw.out hy1
     clear hza hzb
     cases b with
     | false =>
      go_wp2_with fail
      go_quiet (fail)
      go_wp2
      go_roundw
      case rel => exact ⟨k + 1, false, rfl, by go_num, by omega, ⟨by rw [HM.out]; rfl⟩, ⟨(by repeat (first | exact HW.out | apply aC | apply pw_below_drewN | apply aD))⟩⟩
      case measure => simp [intOf]; omega
     | true =>
      by_cases hz : eM x t = 0
      ·have he : (x.f0 == t.f0 && (x.f1 == t.f1)) = true := by rw [nN]; exact decide_eq_true hz
       have HM2 : aA (rJ (l.take (k + 1)) t = true) := ⟨by rw [HM.out, hz]; rfl⟩
       clear hz
       go_wp2_with fail
       go_quiet (fail)
       go_wp2
       go_roundw
       case rel => exact ⟨k + 1, true, rfl, by go_num, by omega, ⟨by rw [HM2.out]⟩, ⟨(by repeat (first | exact HW.out | apply aC | apply pw_below_drewN | apply aD))⟩⟩
       case measure => simp [intOf]; omega
      ·have he : (x.f0 == t.f0 && (x.f1 == t.f1)) = false := by rw [nN]; exact decide_eq_false hz
       have HLe : aA (∀ W, Below wr.heap.size wr W → Calls Tryz.prog 106 #[.agg #[.int .i64 x.f0, .int .i64 x.f1], .agg #[.int .i64 t.f0, .int .i64 t.f1]] W fun e w' => e = .returned (.bool (leT x t)) ∧ aA (Below wr.heap.size wr w')) := ⟨fun W hW => (dL.calls x.f0 x.f1 t.f0 t.f1 _ W (uY x t)).mono fun e w' ⟨q1, q2⟩ => ⟨q1, ⟨hW.trans (q2.mono hW.size)⟩⟩⟩
       have HM2 : aA (rJ (l.take (k + 1)) t = !leT x t) := ⟨by rw [HM.out, decide_eq_false hz]; rfl⟩
       clear hz HM
       generalize leT x t = q at HLe HM2
       go_wp2_with fail
       go_region_held3 (fun w' => w'.cell? (bd.add (i * 2)) = some (.int .i64 t.f0) ∧ w'.cell? ⟨(bd.add (i * 2)).block, (bd.add (i * 2)).off + 1, none⟩ = some (.int .i64 t.f1) ∧ w'.cell? (bd.add (k * 2)) = some (.int .i64 x.f0) ∧ w'.cell? ⟨(bd.add (k * 2)).block, (bd.add (k * 2)).off + 1, none⟩ = some (.int .i64 x.f1)) (first | (exact ⟨aH HB5.out hx0, aH HB5.out hx1, aH HB5.out hy0, aH HB5.out hy1⟩) | go_keep) ((go_at_call 106; refine (HLe.out _ (by repeat (first | exact Below.refl _ _ | apply aC | apply pw_below_drewN | apply aD))).mono ?_; rintro e w5 ⟨rfl, HB5⟩))
       go_wp2
       go_roundw
       case rel => exact ⟨k + 1, !q, rfl, by go_num, by omega, ⟨HM2.out.symm⟩, ⟨HW.out.trans (Below.mono (by repeat (first | exact HB5.out | apply aC | apply pw_below_drewN | apply aD)) HW.out.size)⟩⟩
       case measure => simp [intOf]; omega
    ·have hin : k = l.length := by omega
     subst hin
     have hb1 : decide ((l.length : Int) < (l.length : Int)) = false := decide_eq_false (by omega)
     have hm : b = rJ l t := by have h1 := Hb.out; rw [List.take_length] at h1; exact h1
     have HWw := aA.mk (HB9.out.trans (HW.out.mono HB9.out.size))
     have HOw := aA.mk (Kd.R_below HO9.out HW.out)
     cases b with
     | false =>
      have HG3 : aA (out.length ≤ i + 1 ∧ lW l out (l.drop (i + 1)) = lI l) := ⟨by have := HG.out.1; omega, by have h1 := HG2.out; rw [← hm] at h1; exact h1⟩
      clear hm
      go_wp2_with fail
      go_roundw
      case rel => exact ⟨i + 1, out, A, c, by go_num, rfl, by omega, HG3, HOw, HWw⟩
      case measure => simp [intOf]; omega
     | true =>
      have HG3 : aA ((iS out t).length ≤ i + 1 ∧ lW l (iS out t) (l.drop (i + 1)) = lI l) := ⟨by have := HG.out.1; have := xK out t; omega, by have h1 := HG2.out; rw [← hm] at h1; exact h1⟩
      have HAdd : aA (Calls Tryz.prog 107 #[.slice A out.length c, .agg #[.int .i64 t.f0, .int .i64 t.f1]] wr fun e w' => ∃ A c, e = .returned (.slice A (iS out t).length c) ∧ aA (Kd.R k59 59 w' w.heap.size (fun _ => True) (.slice A (iS out t).length c) (iS out t)) ∧ aA (Below w.heap.size w w')) := ⟨by
       refine (CW A c out t wr w.heap.size HOw.out HWw.out.size (by have := HG.out.1; omega)).mono ?_
       rintro e w' ⟨A5, c5, q1, q2, q3⟩
       exact ⟨A5, c5, q1, ⟨q2⟩, ⟨HWw.out.trans (q3.mono HWw.out.size)⟩⟩⟩
      have e := HAdr.out
      subst e
      have hx0 := aH HWw.out hza
      have hx1 := aH HWw.out hzb
      clear hm hza hzb
      go_wp2_with (go_at_call 107; refine HAdd.out.mono ?_; rintro e w5 ⟨A5, c5, rfl, HR5, HB5⟩)
      go_roundw
      case rel => exact ⟨i + 1, iS out t, A5, c5, by go_num, rfl, by omega, HG3, HR5, HB5⟩
      case measure => simp [intOf]; omega
  ·have hin : i = l.length := by omega
   subst hin
   have hb1 : decide ((l.length : Int) < (l.length : Int)) = false := decide_eq_false (by omega)
   have HE : aA (out = lI l) := ⟨by have h1 := HG.out.2; rw [List.drop_length] at h1; exact h1⟩
   go_wp2
   go_ret
   exact ⟨_, rfl, by rw [← HE.out]; exact HO.out, HB.out⟩
def dF.f (l : List Tm) : Option (List Tm) := if l.length ≤ 549755813888 then some (lI l) else none
theorem dF.calls (A0 : Option Addr) (c0 : Nat) (l0 : List Tm) (r : List Tm) (w : World) (hr0 : Kd.C k59 w A0 l0.length l0) (hc0 : l0.length ≤ c0) (h : dF.f l0 = some r) :
  Calls Tryz.prog 85 #[.slice A0 l0.length c0] w fun e w' => ∃ v0_ : Value, e = .returned (v0_) ∧ Kd.R k59 59 w' w.heap.size (fun _ => True) v0_ r ∧ Below w.heap.size w w' := by
 unfold dF.f at h
 split at h
 ·rename_i hl
  injection h with h
  subst h
  exact CY A0 c0 l0 w hr0 hl
 ·cases h
end Go.Proofs.YtpflmgbpjhbmnaaGreat.B
end
