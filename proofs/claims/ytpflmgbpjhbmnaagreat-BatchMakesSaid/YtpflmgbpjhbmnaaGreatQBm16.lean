/- Batch. -/
import Derived.Test.YtpflmgbpjhbmnaaGreatQBm15
import Derived.Deep.AppendLies
section
namespace Go.Proofs.YtpflmgbpjhbmnaaGreat.B
open Go Go.RowKit Go.Proofs Go.Proofs.YtpflmgbpjhbmnaaGreatW.PrintWords Go.Proofs.YtpflmgbpjhbmnaaGreatW.PrintLast Go.Proofs.YtpflmgbpjhbmnaaGreatW.PrintMore Go.Proofs.YtpflmgbpjhbmnaaGreat.Rg
set_option linter.unusedVariables false
set_option linter.unusedSimpArgs false
structure Bt where
 key : Int
 weight : Int
 since : List S59
 keys : List (List S85)
 kend : List Int
 rests : List (List S85)
 ends : List Int
 times : List S59
 diffs : List Int
structure Rw where
 α : Type
 d : Kd α
 e : Nat
 v : Value
 xs : List α
abbrev kV : Kd (List S85) := Kd.slice 85 k85
abbrev kI : Kd Int := Kd.int .i64
def Bt.rws (b : Bt) (v2 v3 v4 v5 v6 v7 v8 : Value) : List Rw :=
 [⟨_, k59, 59, v2, b.since⟩, ⟨_, kV, 45, v3, b.keys⟩, ⟨_, kI, 3, v4, b.kend⟩, ⟨_, kV, 45, v5, b.rests⟩, ⟨_, kI, 3, v6, b.ends⟩, ⟨_, k59, 59, v7, b.times⟩, ⟨_, kI, 3, v8, b.diffs⟩]
structure St (W : World) (N p : Nat) (L : Nat → Nat) (key weight : Int) (rs : List Rw) : Prop where
 hp : L p = 1
 hN : N ≤ p
 cells : W.heap[p]? = some (.cells ((Value.int .i64 key :: Value.int .i64 weight :: rs.map (·.v)).toArray) 93 (0, 0))
 rows : ∀ j r, rs[j]? = some r → Kd.R r.d r.e W N (fun k => L k = j + 2) r.v r.xs
theorem jO {α : Type} {d : Kd α} {e N i : Nat} {W W1 : World} {L L1 : Nat → Nat} {v : Value} {xs : List α} (h : Kd.R d e W N (fun k => L k = i) v xs) (hb : ∀ k, k < W.heap.size → L k = i → W1.heap[k]? = W.heap[k]?) (hL : ∀ k, k < W.heap.size → L k = i → L1 k = i) : Kd.R d e W1 N (fun k => L1 k = i) v xs :=
 Kd.R_mono (Kd.R_move (Kd.R_bound h) (fun k hk => hb k hk.2.2.1 hk.1)) (fun k hk => by
  obtain ⟨h1, h2, h3, _⟩ := hk
  exact hL k h3 h1)
def fD (L : Nat → Nat) (n a i : Nat) : Nat → Nat := fun k => if k < n then (if L k = a then i else L k) else i
theorem iE {L : Nat → Nat} {n a i j k : Nat} (hk : k < n) (h : L k = j) (ha : j ≠ a) : fD L n a i k = j := by
 unfold fD; rw [if_pos hk, if_neg (by rw [h]; exact ha), h]
theorem lE {L : Nat → Nat} {n a i k : Nat} (hk : n ≤ k) : fD L n a i k = i := by
 unfold fD; rw [if_neg (by omega)]
theorem sD {L : Nat → Nat} {n a i k : Nat} (h : L k = i) : fD L n a i k = i := by
 unfold fD; split
 ·split
  ·rfl
  ·exact h
 ·rfl
theorem oP {L : Nat → Nat} {n a i k : Nat} (h : L k = a) : fD L n a i k = i := by
 unfold fD; rw [if_pos h]; split <;> rfl
theorem St.lt {W : World} {N p : Nat} {L : Nat → Nat} {key weight : Int} {rs : List Rw} (h : St W N p L key weight rs) : p < W.heap.size := (Array.getElem?_eq_some_iff.1 h.cells).1
theorem St.keep {W W1 : World} {N p : Nat} {L : Nat → Nat} {key weight : Int} {rs : List Rw} (h : St W N p L key weight rs) (hb : ∀ k, k < W.heap.size → W1.heap[k]? = W.heap[k]?) : St W1 N p L key weight rs :=
 ⟨h.hp, h.hN, (hb p h.lt).trans h.cells, fun j r hj => jO (h.rows j r hj) (fun k hk _ => hb k hk) (fun k _ hk => hk)⟩
theorem St.below {W W1 : World} {N p : Nat} {L : Nat → Nat} {key weight : Int} {rs : List Rw} (h : St W N p L key weight rs) (hb : Below W.heap.size W W1) : St W1 N p L key weight rs := h.keep (fun k hk => hb.block k hk)
theorem St.label {W : World} {N p : Nat} {L L1 : Nat → Nat} {key weight : Int} {rs : List Rw} (h : St W N p L key weight rs) (hL : ∀ k, k < W.heap.size → L1 k = L k) : St W N p L1 key weight rs :=
 ⟨(hL p h.lt).trans h.hp, h.hN, h.cells, fun j r hj => jO (h.rows j r hj) (fun _ _ _ => rfl) (fun k hk hk2 => (hL k hk).trans hk2)⟩
theorem St.cell {W : World} {N p : Nat} {L : Nat → Nat} {key weight : Int} {rs : List Rw} (h : St W N p L key weight rs) (j : Nat) (r : Rw) (hj : rs[j]? = some r) : W.cell? ⟨p, j + 2, none⟩ = some r.v := by
 simp [World.cell?, h.cells, hj]
theorem St.cell0 {W : World} {N p : Nat} {L : Nat → Nat} {key weight : Int} {rs : List Rw} (h : St W N p L key weight rs) : W.cell? ⟨p, 0, none⟩ = some (.int .i64 key) := by
 simp [World.cell?, h.cells]
theorem St.cell1 {W : World} {N p : Nat} {L : Nat → Nat} {key weight : Int} {rs : List Rw} (h : St W N p L key weight rs) : W.cell? ⟨p, 1, none⟩ = some (.int .i64 weight) := by
 simp [World.cell?, h.cells]
theorem St.frozen {W : World} {N p : Nat} {L : Nat → Nat} {key weight : Int} {rs : List Rw} (h : St W N p L key weight rs) (i : Nat) : W.frozen? ⟨p, i, none⟩ = false := by
 simp [World.frozen?, h.cells]
theorem St.put {W W1 : World} {N p : Nat} {L : Nat → Nat} {key weight : Int} {rs : List Rw} (h : St W N p L key weight rs) (j : Nat) (r : Rw) (a : Nat) (hj : j < rs.length) (ha : rs.length + 2 ≤ a)
  (hb : ∀ k, k < W.heap.size → L k ≠ j + 2 → W1.heap[k]? = W.heap[k]?) (hr : Kd.R r.d r.e W1 N (fun k => fD L W.heap.size a (j + 2) k = j + 2) r.v r.xs) :
  St (W1.setCell ⟨p, j + 2, none⟩ r.v) N p (fD L W.heap.size a (j + 2)) key weight (rs.set j r) := by
 have hlp := h.lt
 have hpp : fD L W.heap.size a (j + 2) p = 1 := iE hlp h.hp (by omega)
 have hc : W1.heap[p]? = some (.cells ((Value.int .i64 key :: Value.int .i64 weight :: rs.map (·.v)).toArray) 93 (0, 0)) := (hb p hlp (by rw [h.hp]; omega)).trans h.cells
 have hset : ∀ k, k ≠ p → (W1.setCell ⟨p, j + 2, none⟩ r.v).heap[k]? = W1.heap[k]? := fun k hk => by
  simp [World.setCell, Array.getElem?_modify, Ne.symm hk]
 refine ⟨hpp, h.hN, ?_, fun i r2 hi => ?_⟩
 ·simp [World.setCell, Array.getElem?_modify, hc, List.map_set]
 ·by_cases hij : i = j
  ·subst hij
   rw [List.getElem?_set_self hj] at hi
   cases hi
   exact Kd.R_move hr (fun k hk => hset k (fun e => by rw [e, hpp] at hk; omega))
  ·rw [List.getElem?_set_ne (Ne.symm hij)] at hi
   have hil : i < rs.length := (List.getElem?_eq_some_iff.1 hi).1
   refine jO (h.rows i r2 hi) (fun k hk hk2 => ?_) (fun k hk hk2 => iE hk hk2 (by omega))
   rw [hset k (fun e => by rw [e, h.hp] at hk2; omega)]
   exact hb k hk (by omega)
theorem St.upd {W W1 : World} {N p : Nat} {L : Nat → Nat} {key weight : Int} {rs : List Rw} (h : St W N p L key weight rs) (j : Nat) (r : Rw) (r0 : Rw) (hj : rs[j]? = some r0) (hv : r.v = r0.v)
  (hb : ∀ k, k < W.heap.size → L k ≠ j + 2 → W1.heap[k]? = W.heap[k]?) (hr : Kd.R r.d r.e W1 N (fun k => L k = j + 2) r.v r.xs) :
  St W1 N p L key weight (rs.set j r) := by
 have hlp := h.lt
 have hjl : j < rs.length := (List.getElem?_eq_some_iff.1 hj).1
 refine ⟨h.hp, h.hN, ?_, fun i r2 hi => ?_⟩
 ·rw [hb p hlp (by rw [h.hp]; omega), h.cells, List.map_set]
  have : (rs.map (·.v)).set j r.v = rs.map (·.v) := by
   apply List.ext_getElem?
   intro i
   by_cases hij : i = j
   ·subst hij
    rw [List.getElem?_set_self (by simpa using hjl), List.getElem?_map, hj]
    simp [hv]
   ·rw [List.getElem?_set_ne (Ne.symm hij)]
  rw [this]
 ·by_cases hij : i = j
  ·subst hij
   rw [List.getElem?_set_self hjl] at hi
   cases hi
   exact hr
  ·rw [List.getElem?_set_ne (Ne.symm hij)] at hi
   exact jO (h.rows i r2 hi) (fun k hk hk2 => hb k hk (by omega)) (fun k hk hk2 => hk2)
theorem St.weigh {W : World} {N p : Nat} {L : Nat → Nat} {key weight : Int} {rs : List Rw} (h : St W N p L key weight rs) (n : Int) : St (W.setCell ⟨p, 1, none⟩ (.int .i64 n)) N p L key n rs := by
 have hset : ∀ k, k ≠ p → (W.setCell ⟨p, 1, none⟩ (.int .i64 n)).heap[k]? = W.heap[k]? := fun k hk => by
  simp [World.setCell, Array.getElem?_modify, Ne.symm hk]
 refine ⟨h.hp, h.hN, ?_, fun j r hj => jO (h.rows j r hj) (fun k hk hk2 => hset k (fun e => by rw [e, h.hp] at hk2; omega)) (fun k _ hk => hk)⟩
 simp [World.setCell, Array.getElem?_modify, h.cells]
theorem uI {α : Type} {d : Kd α} {e N i : Nat} {W : World} {L : Nat → Nat} {v : Value} {xs : List α} {n a : Nat} (h : Kd.R d e W N (fun k => L k = i) v xs) : Kd.R d e W N (fun k => fD L n a i k = i) v xs := Kd.R_mono h (fun k hk => sD hk)
theorem pT {α : Type} {d : Kd α} {e N i : Nat} {W : World} {L : Nat → Nat} {v : Value} {xs : List α} {n a : Nat} (h : Kd.R d e W N (fun k => L k = i) v xs) (hai : a ≠ i) (k : Nat) (hk : L k = a) : fD L n a i k = i ∧ some k ≠ v.ownBlock :=
 ⟨oP hk, fun e => hai (hk.symm.trans (h.1 k e.symm))⟩
theorem zR {α : Type} {d : Kd α} {e N i : Nat} {W : World} {L : Nat → Nat} {v : Value} {xs : List α} (h : Kd.R d e W N (fun k => L k = i) v xs) {k : Nat} (hk : L k ≠ i) : some k ≠ v.ownBlock := fun e => hk (h.1 k e.symm)
section
variable {P : Program} {ops : Array Oper} {o : Oper} {a : Act} {Q : Exit → Act → World → Prop} {Kc : Act → World → Prop} {α : Type} {E : Prop}
theorem mM (d : Kd α) {W : World} (N : Nat) (hgd : o.guard = none) (s x : Operand) (t e : TypeId) (z : Value) (bytes : Nat)
  (ho : o.op = .call { callee := .builtin .append, args := #[s, x], argTypes := #[t, t] })
  (ht : P.underlying t = some (.slice e)) (hinfo : (P.info? e).map (fun i => (i.zero, i.size, i.bytes)) = some (some z, d.sz, bytes)) (hz : z.cells.size = d.sz) (hs0 : 0 < d.sz) (hb0 : 0 < bytes)
  (v : Value) (xs : List α) (p : α) (cs : List Value) (ok okp : Nat → Prop) (B c : Nat) (t2 : TypeId) (fr : Nat × Nat) (hs : a.eval s = v) (hx : a.eval x = .slice (some ⟨B, 0, none⟩) 1 c) (hB : W.heap[B]? = some (.cells cs.toArray t2 fr)) (hp : d.M W N okp p cs) (hokp : ∀ k, okp k → ok k ∧ some k ≠ v.ownBlock) (hfresh : ∀ k, W.heap.size ≤ k → ok k)
  (HO : d.R e W N ok v xs) (hbase : N ≤ W.heap.size) (hl : (xs.length + 1) * bytes ≤ 140737488355328)
  (h : ∀ g cap w1, d.R e w1 N ok (.slice (some ⟨g, 0, none⟩) (xs.length + 1) cap) (xs ++ [p]) → W.grownBy w1 v.ownBlock → Kc (a.put o.dst (.slice (some ⟨g, 0, none⟩) (xs.length + 1) cap)) w1) :
  if Region.wanted o (yielded ops a.tmps) = true then Oper.wp P o a W Kc Q else E := by
 obtain ⟨h0, inner, hown, hr⟩ := HO
 obtain ⟨i0, hi, hzz⟩ := Option.map_eq_some_iff.1 hinfo
 simp only [Prod.mk.injEq] at hzz
 obtain ⟨hz0, hz1, hz2⟩ := hzz
 have hlen : xs.length + 1 ≤ 140737488355328 := Nat.le_trans (Nat.le_mul_of_pos_right _ hb0) hl
 refine step_append_lies W hgd s x t ho N e i0 z d.sz bytes ht hi hz0 hz1 hz2 hz hs0 v xs.length inner hs hown ⟨B, 0, none⟩ 1 c cs hx (by rw [d.K_len (d.K_of_M hp), Nat.one_mul]) (World.news_of_block hB) (d.K_one (d.K_of_M hp)) Nat.one_pos (by simp only [maxLen]; omega) hl hbase W.heap.size rfl ?_
 intro g cap w1 hown1 hg hat hlt
 refine h g cap w1 (Kd.R_appended h0 hr hp hokp hfresh hown1 hg ?_) hg
 rcases hat with hat | hat
 ·exact .inl hat.symm
 ·exact .inr ⟨g, rfl, by omega⟩
end
def dU (W : World) (N p : Nat) (b : Bt) : Prop := ∃ L v2 v3 v4 v5 v6 v7 v8, St W N p L b.key b.weight (b.rws v2 v3 v4 v5 v6 v7 v8)
theorem dU.below {W W1 : World} {N p : Nat} {b : Bt} (h : dU W N p b) (hb : Below W.heap.size W W1) : dU W1 N p b := by
 obtain ⟨L, v2, v3, v4, v5, v6, v7, v8, h⟩ := h
 exact ⟨L, v2, v3, v4, v5, v6, v7, v8, h.below hb⟩
structure eU (W : World) (p : Nat) (b : Bt) (A : Nat → Option Addr) (c : Nat → Nat) : Prop where
 key : W.cell? ⟨p, 0, none⟩ = some (.int .i64 b.key)
 weight : W.cell? ⟨p, 1, none⟩ = some (.int .i64 b.weight)
 since : W.cell? ⟨p, 2, none⟩ = some (.slice (A 2) b.since.length (c 2)) ∧ b.since.length ≤ c 2 ∧ Kd.C k59 W (A 2) b.since.length b.since
 keys : W.cell? ⟨p, 3, none⟩ = some (.slice (A 3) b.keys.length (c 3)) ∧ b.keys.length ≤ c 3 ∧ Kd.C kV W (A 3) b.keys.length b.keys
 kend : W.cell? ⟨p, 4, none⟩ = some (.slice (A 4) b.kend.length (c 4)) ∧ b.kend.length ≤ c 4 ∧ Kd.C kI W (A 4) b.kend.length b.kend
 rests : W.cell? ⟨p, 5, none⟩ = some (.slice (A 5) b.rests.length (c 5)) ∧ b.rests.length ≤ c 5 ∧ Kd.C kV W (A 5) b.rests.length b.rests
 ends : W.cell? ⟨p, 6, none⟩ = some (.slice (A 6) b.ends.length (c 6)) ∧ b.ends.length ≤ c 6 ∧ Kd.C kI W (A 6) b.ends.length b.ends
 times : W.cell? ⟨p, 7, none⟩ = some (.slice (A 7) b.times.length (c 7)) ∧ b.times.length ≤ c 7 ∧ Kd.C k59 W (A 7) b.times.length b.times
 diffs : W.cell? ⟨p, 8, none⟩ = some (.slice (A 8) b.diffs.length (c 8)) ∧ b.diffs.length ≤ c 8 ∧ Kd.C kI W (A 8) b.diffs.length b.diffs
theorem dU.reads {W : World} {N p : Nat} {b : Bt} (h : dU W N p b) : ∃ A c, eU W p b A c := by
 obtain ⟨L, v2, v3, v4, v5, v6, v7, v8, h⟩ := h
 have h2 := Kd.R_reads (h.rows 0 _ rfl)
 have h3 := Kd.R_reads (h.rows 1 _ rfl)
 have h4 := Kd.R_reads (h.rows 2 _ rfl)
 have h5 := Kd.R_reads (h.rows 3 _ rfl)
 have h6 := Kd.R_reads (h.rows 4 _ rfl)
 have h7 := Kd.R_reads (h.rows 5 _ rfl)
 have h8 := Kd.R_reads (h.rows 6 _ rfl)
 obtain ⟨A2, c2, e2, l2, r2⟩ := h2
 obtain ⟨A3, c3, e3, l3, r3⟩ := h3
 obtain ⟨A4, c4, e4, l4, r4⟩ := h4
 obtain ⟨A5, c5, e5, l5, r5⟩ := h5
 obtain ⟨A6, c6, e6, l6, r6⟩ := h6
 obtain ⟨A7, c7, e7, l7, r7⟩ := h7
 obtain ⟨A8, c8, e8, l8, r8⟩ := h8
 dsimp only at e2 e3 e4 e5 e6 e7 e8
 subst e2 e3 e4 e5 e6 e7 e8
 refine ⟨fun i => match i with | 2 => A2 | 3 => A3 | 4 => A4 | 5 => A5 | 6 => A6 | 7 => A7 | _ => A8, fun i => match i with | 2 => c2 | 3 => c3 | 4 => c4 | 5 => c5 | 6 => c6 | 7 => c7 | _ => c8, h.cell0, h.cell1, ⟨h.cell 0 _ rfl, l2, r2⟩, ⟨h.cell 1 _ rfl, l3, r3⟩, ⟨h.cell 2 _ rfl, l4, r4⟩, ⟨h.cell 3 _ rfl, l5, r5⟩, ⟨h.cell 4 _ rfl, l6, r6⟩, ⟨h.cell 5 _ rfl, l7, r7⟩, ⟨h.cell 6 _ rfl, l8, r8⟩⟩
theorem eU.below {W W1 : World} {p : Nat} {b : Bt} {A : Nat → Option Addr} {c : Nat → Nat} (h : eU W p b A c) (hb : Below W.heap.size W W1) : eU W1 p b A c :=
 ⟨aH hb h.key, aH hb h.weight, ⟨aH hb h.since.1, h.since.2.1, Kd.C_below h.since.2.2 hb⟩, ⟨aH hb h.keys.1, h.keys.2.1, Kd.C_below h.keys.2.2 hb⟩, ⟨aH hb h.kend.1, h.kend.2.1, Kd.C_below h.kend.2.2 hb⟩, ⟨aH hb h.rests.1, h.rests.2.1, Kd.C_below h.rests.2.2 hb⟩, ⟨aH hb h.ends.1, h.ends.2.1, Kd.C_below h.ends.2.2 hb⟩, ⟨aH hb h.times.1, h.times.2.1, Kd.C_below h.times.2.2 hb⟩, ⟨aH hb h.diffs.1, h.diffs.2.1, Kd.C_below h.diffs.2.2 hb⟩⟩
end Go.Proofs.YtpflmgbpjhbmnaaGreat.B
end
