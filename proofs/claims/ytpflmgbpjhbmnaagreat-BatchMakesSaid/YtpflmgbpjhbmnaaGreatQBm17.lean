/- Add3. -/
import Derived.Test.YtpflmgbpjhbmnaaGreatQBm16
import Derived.Test.YtpflmgbpjhbmnaaGreatQBm5
import Derived.Deep.RegionHeld3
import Derived.BigQuiet
import Derived.IntWalk
section
namespace Go.Proofs.YtpflmgbpjhbmnaaGreat.B
open Go Go.RowKit Go.Proofs Go.Proofs.YtpflmgbpjhbmnaaGreatW.PrintWords Go.Proofs.YtpflmgbpjhbmnaaGreatW.PrintLast Go.Proofs.YtpflmgbpjhbmnaaGreatW.PrintMore Go.Proofs.YtpflmgbpjhbmnaaGreat.Rg
set_option linter.unusedVariables false
set_option linter.unusedSimpArgs false
set_option maxRecDepth 100000
def dK (a b : List S85) : Bool := decide (dV a b = 0)
def bump (l : List Int) : List Int := l.set (l.length - 1) (l.getD (l.length - 1) 0 + 1)
def lP (b : Bt) (k : List S85) : Bt := { b with keys := b.keys ++ [k], kend := b.kend ++ [(b.rests.length : Int)] }
def iM (b : Bt) (r : List S85) : Bt := { b with rests := b.rests ++ [r], ends := b.ends ++ [(b.times.length : Int)], kend := bump b.kend }
def iG (b : Bt) (t : S59) (d : Int) : Bt := { b with times := b.times ++ [t], diffs := b.diffs ++ [d], ends := bump b.ends }
def dY (l : List (List S85)) (k : List S85) : Bool := if l.length = 0 then true else !dK (l.getD (l.length - 1) []) k
def jC (b : Bt) (u : S61) : Bt :=
 let k := u.f0.take b.key.toNat
 let r := u.f0.drop b.key.toNat
 if dY b.keys k then iG (iM (lP b k) r) u.f1 u.f2
 else if dY b.rests r then iG (iM b r) u.f1 u.f2
 else iG b u.f1 u.f2
structure Vd (b : Bt) : Prop where
 kl : b.kend.length = b.keys.length
 el : b.ends.length = b.rests.length
 dl : b.diffs.length = b.times.length
 kr : b.keys.length ≤ b.rests.length
 rt : b.rests.length ≤ b.times.length
 kk : b.keys.length = 0 → b.rests.length = 0
 lk : 0 < b.kend.length → b.kend.getD (b.kend.length - 1) 0 = b.rests.length
 le : 0 < b.ends.length → b.ends.getD (b.ends.length - 1) 0 = b.times.length
 wk : ∀ r ∈ b.keys, r.length ≤ 1099511627776
 wr : ∀ r ∈ b.rests, r.length ≤ 1099511627776
structure sV (W : World) (ub : Nat) (u : S61) (A : Option Addr) (c : Nat) : Prop where
 blk : W.heap[ub]? = some (.cells #[.slice A u.f0.length c, .int .i64 u.f1.f0, .int .i64 u.f1.f1, .int .i64 u.f2] 61 (0, 0))
theorem sV.c0 {W : World} {ub : Nat} {u : S61} {A : Option Addr} {c : Nat} (h : sV W ub u A c) : W.cell? ⟨ub, 0, none⟩ = some (.slice A u.f0.length c) := by simp [World.cell?, h.blk]
theorem sV.c1 {W : World} {ub : Nat} {u : S61} {A : Option Addr} {c : Nat} (h : sV W ub u A c) : W.cell? ⟨ub, 1, none⟩ = some (.int .i64 u.f1.f0) := by simp [World.cell?, h.blk]
theorem sV.c2 {W : World} {ub : Nat} {u : S61} {A : Option Addr} {c : Nat} (h : sV W ub u A c) : W.cell? ⟨ub, 2, none⟩ = some (.int .i64 u.f1.f1) := by simp [World.cell?, h.blk]
theorem sV.c3 {W : World} {ub : Nat} {u : S61} {A : Option Addr} {c : Nat} (h : sV W ub u A c) : W.cell? ⟨ub, 3, none⟩ = some (.int .i64 u.f2) := by simp [World.cell?, h.blk]
theorem sV.lt {W : World} {ub : Nat} {u : S61} {A : Option Addr} {c : Nat} (h : sV W ub u A c) : ub < W.heap.size := (Array.getElem?_eq_some_iff.1 h.blk).1
structure jP (w wc : World) (N p : Nat) (L : Nat → Nat) (u : S61) (A : Option Addr) (c : Nat) (key weight : Int) (rs : List Rw) : Prop where
 S : St wc N p L key weight rs
 U : sV wc w.heap.size u A c
 Lu : L w.heap.size = 12
 B : Below N w wc
theorem jP.below {w wc w1 : World} {N p : Nat} {L : Nat → Nat} {u : S61} {A : Option Addr} {c : Nat} {key weight : Int} {rs : List Rw} (h : jP w wc N p L u A c key weight rs) (hb : Below wc.heap.size wc w1) : jP w w1 N p L u A c key weight rs :=
 ⟨h.S.below hb, ⟨(hb.block _ h.U.lt).trans h.U.blk⟩, h.Lu, h.B.trans (hb.mono (Nat.le_trans h.S.hN (Nat.le_of_lt h.S.lt)))⟩
theorem R_put {α : Type} {d : Kd α} {e i : Nat} {W W1 : World} {N p : Nat} {L : Nat → Nat} {key weight : Int} {rs : List Rw} {v : Value} {xs : List α} (hR : Kd.R d e W N (fun k => L k = i) v xs) (h : St W N p L key weight rs) (j a : Nat) (q : Nat) (u : Value) (h1 : i ≠ 1) (hj : i ≠ j + 2) (ha : i ≠ a)
  (hb : ∀ k, k < W.heap.size → L k ≠ j + 2 → W1.heap[k]? = W.heap[k]?) : Kd.R d e (W1.setCell ⟨p, q, none⟩ u) N (fun k => fD L W.heap.size a (j + 2) k = i) v xs := by
 refine jO hR (fun k hk hk2 => ?_) (fun k hk hk2 => iE hk hk2 ha)
 rw [Below.heap_setCell _ _ _ _ (fun e => by
  have e : k = p := e
  rw [e, h.hp] at hk2; omega)]
 exact hb k hk (by omega)
theorem jP.put {w wc w1 : World} {N p : Nat} {L : Nat → Nat} {u : S61} {A : Option Addr} {c : Nat} {key weight : Int} {rs : List Rw} (h : jP w wc N p L u A c key weight rs) (j : Nat) (r : Rw) (a : Nat) (hj : j < rs.length) (ha : rs.length + 2 ≤ a) (ha2 : a ≠ 12) (hj2 : j + 2 ≠ 12) (hB1 : Below N w w1)
  (hb : ∀ k, k < wc.heap.size → L k ≠ j + 2 → w1.heap[k]? = wc.heap[k]?) (hr : Kd.R r.d r.e w1 N (fun k => fD L wc.heap.size a (j + 2) k = j + 2) r.v r.xs) :
  jP w (w1.setCell ⟨p, j + 2, none⟩ r.v) N p (fD L wc.heap.size a (j + 2)) u A c key weight (rs.set j r) := by
 refine ⟨h.S.put j r a hj ha hb hr, ⟨?_⟩, iE h.U.lt h.Lu (Ne.symm ha2), hB1.setCell h.S.hN _⟩
 rw [Below.heap_setCell _ _ _ _ (fun e => by
  have e : w.heap.size = p := e
  have h1 := h.S.hp
  rw [← e, h.Lu] at h1; omega)]
 exact (hb _ h.U.lt (by rw [h.Lu]; omega)).trans h.U.blk
theorem St.grown {W W1 W2 : World} {N p : Nat} {L : Nat → Nat} {key weight : Int} {rs : List Rw} (h : St W N p L key weight rs) (j : Nat) (r : Rw) (hj : rs[j]? = some r) (hW : ∀ k, k < W.heap.size → W1.heap[k]? = W.heap[k]?) (hs : W.heap.size ≤ W1.heap.size) (hg : W1.grownBy W2 r.v.ownBlock) :
  (∀ k, k < W.heap.size → L k ≠ j + 2 → W2.heap[k]? = W.heap[k]?) := fun k hk hk2 => (hg.block k (by omega) (zR (h.rows j r hj) hk2)).trans (hW k hk)
theorem jQ {W W2 : World} {p : Nat} (h : W2.heap[p]? = W.heap[p]?) (i : Nat) : W2.cell? ⟨p, i, none⟩ = W.cell? ⟨p, i, none⟩ := by simp [World.cell?, h]
theorem gC {W W2 : World} {p : Nat} (h : W2.heap[p]? = W.heap[p]?) (i : Nat) : W2.frozen? ⟨p, i, none⟩ = W.frozen? ⟨p, i, none⟩ := by simp [World.frozen?, h]
theorem heap_alloc_old (w : World) (o : Obj) (k : Nat) (hk : k < w.heap.size) : (w.alloc o).heap[k]? = w.heap[k]? := (aC (Below.refl w.heap.size w) o).block k hk
theorem xC {B : Nat} {a w : World} (h : Below B a w) (o : Obj) (hB : B ≤ w.heap.size) : Below B a (w.alloc o).drew := cG (h.alloc hB o)
theorem xD (W : World) (o : Obj) {n : Nat} (h : n ≤ W.heap.size) : n ≤ (W.alloc o).drew.heap.size := Nat.le_trans h (by show W.heap.size ≤ (W.heap.push o).size; simp)
theorem jP.app {P : Program} {w W : World} {N p : Nat} {L : Nat → Nat} {u : S61} {A : Option Addr} {c : Nat} {key weight : Int} {rs : List Rw} (h : jP w W N p L u A c key weight rs) (j : Nat) {α : Type} (d : Kd α) (e : Nat) (v : Value) (xs : List α) (hj : rs[j]? = some ⟨α, d, e, v, xs⟩) (la : Nat) (hla : rs.length + 2 ≤ la) (hla2 : la ≠ 12) (hj2 : j + 2 ≠ 12)
  (x : α) (cs : List Value) (hp : d.M W N (fun k => L k = la) x cs) (s y : Operand) (t : TypeId) (z : Value) (bytes : Nat) (ht : P.underlying t = some (.slice e)) (hinfo : (P.info? e).map (fun i => (i.zero, i.size, i.bytes)) = some (some z, d.sz, bytes)) (hz : z.cells.size = d.sz) (hs0 : 0 < d.sz) (hb0 : 0 < bytes) (hl : (xs.length + 1) * bytes ≤ 140737488355328) :
  aA (∀ (ops : Array Oper) (o : Oper) (a : Act) (Kc : Act → World → Prop) (Q : Exit → Act → World → Prop) (E : Prop), o.guard = none → o.op = .call { callee := .builtin .append, args := #[s, y], argTypes := #[t, t] } → a.eval s = v → a.eval y = .slice (some ⟨W.heap.size, 0, none⟩) 1 1 →
   (∀ g cap w1, aA (w1.heap[p]? = W.heap[p]?) → aA (∀ k, k < W.heap.size → L k ≠ j + 2 → w1.heap[k]? = W.heap[k]?) → aA (jP w (w1.setCell ⟨p, j + 2, none⟩ (.slice (some ⟨g, 0, none⟩) (xs.length + 1) cap)) N p (fD L W.heap.size la (j + 2)) u A c key weight (rs.set j ⟨α, d, e, .slice (some ⟨g, 0, none⟩) (xs.length + 1) cap, xs ++ [x]⟩)) → Kc (a.put o.dst (.slice (some ⟨g, 0, none⟩) (xs.length + 1) cap)) w1) →
   if Region.wanted o (yielded ops a.tmps) = true then Oper.wp P o a ((W.alloc (.cells cs.toArray e)).drew) Kc Q else E) := ⟨by
 intro ops o a Kc Q E hgd ho hs hy hK
 have hR : Kd.R d e W N (fun k => L k = j + 2) v xs := h.S.rows j _ hj
 have hNs : N ≤ W.heap.size := Nat.le_trans h.S.hN (Nat.le_of_lt h.S.lt)
 have hjl : j < rs.length := (List.getElem?_eq_some_iff.1 hj).1
 refine mM d N hgd s y t e z bytes ho ht hinfo hz hs0 hb0 v xs x cs (fun k => fD L W.heap.size la (j + 2) k = j + 2) (fun k => L k = la ∧ k < W.heap.size) W.heap.size 1 e (0, 0) hs hy (heap_alloc_new W _)
  (d.M_move (fun k hk => heap_alloc_old W _ k hk.2) (d.M_mono (fun k hk => ⟨hk.1, hk.2.2.1⟩) (d.M_bound hp)))
  (fun k hk => pT hR (by omega) k hk.1) (fun k hk => lE (Nat.le_trans (xD W _ (Nat.le_refl _)) hk)) (Kd.R_drew (Kd.R_alloc (uI hR) _)) (xD W _ hNs) hl ?_
 intro g cap w1 ho1 hg1
 have hgr := h.S.grown j _ hj (W1 := (W.alloc (.cells cs.toArray e)).drew) (W2 := w1) (heap_alloc_old W _) (xD W _ (Nat.le_refl _)) hg1
 exact hK g cap w1 ⟨hgr p h.S.lt (by rw [h.S.hp]; omega)⟩ ⟨hgr⟩ ⟨h.put j ⟨α, d, e, .slice (some ⟨g, 0, none⟩) (xs.length + 1) cap, xs ++ [x]⟩ la hjl hla hla2 hj2
  (Below.grown (xC h.B (.cells cs.toArray e) hNs) hg1 (xD W _ hNs) (fun k hk => Kd.R_base hR k hk)) hgr ho1⟩⟩
theorem jP.bump {w W : World} {N p : Nat} {L : Nat → Nat} {u : S61} {A : Option Addr} {c : Nat} {key weight : Int} {rs : List Rw} (h : jP w W N p L u A c key weight rs) (j g n cap : Nat) (xs : List Int) (hj : rs[j]? = some ⟨Int, kI, 3, .slice (some ⟨g, 0, none⟩) n cap, xs⟩) (i : Nat) (hi : i < n) (hj2 : j + 2 ≠ 12) (y : Int) :
  jP w (W.setCell ⟨g, i, none⟩ (.int .i64 y)) N p L u A c key weight (rs.set j ⟨Int, kI, 3, .slice (some ⟨g, 0, none⟩) n cap, xs.set i y⟩) := by
 have hR : Kd.R kI 3 W N (fun k => L k = j + 2) (.slice (some ⟨g, 0, none⟩) n cap) xs := h.S.rows j _ hj
 have h1 := Kd.R_putg (enc := Value.int .i64) (h1 := fun _ => rfl) hR (i : Int) y
 rw [Int.toNat_natCast] at h1
 have hLg : L g = j + 2 := hR.1 g rfl
 have hNg : N ≤ g := Kd.R_base hR g rfl
 have hb : ∀ k, k < W.heap.size → L k ≠ j + 2 → (W.setCell ⟨g, i, none⟩ (.int .i64 y)).heap[k]? = W.heap[k]? := fun k _ hk2 => Below.heap_setCell _ _ _ _ (fun e => by
  have e : k = g := e
  rw [e] at hk2; exact hk2 hLg)
 refine ⟨h.S.upd j _ _ hj rfl hb h1.1, ⟨?_⟩, h.Lu, h.B.setCell hNg _⟩
 exact (hb _ h.U.lt (by rw [h.Lu]; omega)).trans h.U.blk
theorem jP.bump_cell {w W : World} {N p : Nat} {L : Nat → Nat} {u : S61} {A : Option Addr} {c : Nat} {key weight : Int} {rs : List Rw} (h : jP w W N p L u A c key weight rs) (j g n cap : Nat) (xs : List Int) (hj : rs[j]? = some ⟨Int, kI, 3, .slice (some ⟨g, 0, none⟩) n cap, xs⟩) (i : Nat) (hi : i < n) : W.cell? ⟨g, i, none⟩ = some (.int .i64 (xs.getD i 0)) ∧ W.frozen? ⟨g, i, none⟩ = false := by
 have hR : Kd.R kI 3 W N (fun k => L k = j + 2) (.slice (some ⟨g, 0, none⟩) n cap) xs := h.S.rows j _ hj
 have h1 := Kd.R_celln (enc := Value.int .i64) (h1 := fun _ => rfl) (0 : Int) hR (i : Int) (by omega) (by omega)
 rw [Int.toNat_natCast] at h1
 exact h1
structure DT (b b2 : Bt) : Prop where
 rests : b2.rests = b.rests
 times : b2.times = b.times
 ends : b2.ends = b.ends
 diffs : b2.diffs = b.diffs
 kn : 0 < b2.kend.length
 kl : b2.kend.length ≤ 1099511627776
 lk : b2.kend.getD (b2.kend.length - 1) 0 = b.rests.length
 rl : b.rests.length < 1099511627776
 tl : b.times.length < 1099511627776
 el : b.ends.length = b.rests.length
 dl : b.diffs.length = b.times.length
theorem uJ (b : Bt) (kr : List S85) (hv : Vd b) (hl : b.times.length < 1099511627776) : DT b (if dY b.keys kr = true then lP b kr else b) := by
 have h1 := hv.kl
 have h2 := hv.kr
 have h3 := hv.rt
 split
 ·refine ⟨rfl, rfl, rfl, rfl, ?_, ?_, ?_, by omega, hl, hv.el, hv.dl⟩ <;> simp [lP]
  omega
 ·rename_i hn
  have hk : b.keys.length ≠ 0 := fun e => hn (by unfold dY; rw [if_pos e])
  exact ⟨rfl, rfl, rfl, rfl, by omega, by omega, hv.lk (by omega), by omega, hl, hv.el, hv.dl⟩
structure DK (b b3 : Bt) (u : S61) : Prop where
 times : b3.times = b.times
 diffs : b3.diffs = b.diffs
 key : b3.key = b.key
 weight : b3.weight = b.weight
 en : 0 < b3.ends.length
 el : b3.ends.length ≤ 1099511627776
 le : b3.ends.getD (b3.ends.length - 1) 0 = b.times.length
 tl : b.times.length < 1099511627776
 dl : b.diffs.length = b.times.length
 all : jC b u = iG b3 u.f1 u.f2
theorem sE (b b2 b3 : Bt) (u : S61) (kr rr : List S85) (nw : Bool) (hv : Vd b) (hl : b.times.length < 1099511627776) (hk : kr = u.f0.take b.key.toNat) (hr : rr = u.f0.drop b.key.toNat) (h2 : b2 = (if dY b.keys kr = true then lP b kr else b)) (hn : nw = (if dY b.keys kr = true then true else dY b.rests rr)) (h3 : b3 = (if nw = true then iM b2 rr else b2)) : DK b b3 u := by
 have h5 := hv.kr
 have h6 := hv.rt
 have h7 := hv.el
 have h8 := hv.dl
 have hall : jC b u = (if dY b.keys kr = true then iG (iM (lP b kr) rr) u.f1 u.f2 else if dY b.rests rr = true then iG (iM b rr) u.f1 u.f2 else iG b u.f1 u.f2) := by
  unfold jC
  dsimp only
  rw [← hk, ← hr]
 cases hf : dY b.keys kr with
 | true =>
  rw [hf] at h2 hn hall
  simp only [if_true] at hall
  simp only [if_true] at h2 hn
  subst hn
  simp only [if_true] at h3
  subst h3 h2
  refine ⟨rfl, rfl, rfl, rfl, ?_, ?_, ?_, hl, h8, hall⟩ <;> simp [iM, lP]
  omega
 | false =>
  rw [hf] at h2 hn hall
  simp only [Bool.false_eq_true, if_false] at h2 hn hall
  subst h2 hn
  have hk9 : b2.keys.length ≠ 0 := fun e => by
   unfold dY at hf
   rw [if_pos e] at hf
   cases hf
  cases hg : dY b2.rests rr with
  | true =>
   rw [hg] at h3 hall
   simp only [if_true] at h3 hall
   subst h3
   refine ⟨rfl, rfl, rfl, rfl, ?_, ?_, ?_, hl, h8, hall⟩ <;> simp [iM]
   omega
  | false =>
   rw [hg] at h3 hall
   simp only [Bool.false_eq_true, if_false] at h3 hall
   subst h3
   exact ⟨rfl, rfl, rfl, rfl, by omega, by omega, hv.le (by omega), hl, h8, hall⟩
theorem CR (l : List S85) (n : Int) (h0 : 0 ≤ n) (h1 : n ≤ (l.length : Int)) (h : l.length ≤ 1099511627776) : cS.f 1 l n = some (l.take n.toNat, l.drop n.toNat, 0) := by
 have h2 : ¬ n < 0 := by omega
 have h3 : ¬ n > (l.length : Int) := by omega
 unfold cS.f
 rw [if_neg h2, decide_eq_false h3]
 simp only [cS.j0]
 rw [if_neg (by decide), if_pos h0, if_pos h1, bP.f_some _ (by rw [List.length_take]; omega)]
 show ((bP.f (l.drop n.toNat)).bind fun t => some (l.take n.toNat, t, 0)) = _
 rw [bP.f_some _ (by rw [List.length_drop]; omega)]
 rfl
theorem pU : (Tryz.prog.info? 3).map (fun i => (i.zero, i.size, i.bytes)) = some (some (.int .i64 0), kI.sz, 8) := by kernel_rfl
def gM : Nat → Code → Code
 | n + 1, .seq _ d => gM n d
 | _, d => d
noncomputable def jR : Code := match Tryz.f56.body with | some d => d | none => .region 0 #[] false
set_option maxHeartbeats 100000000 in
theorem uK (p N : Nat) (b b3 : Bt) (A : Option Addr) (c : Nat) (u : S61) (w wc : World) (HG : aA (DK b b3 u)) (L3 : Nat → Nat) (v2 v3 v4 v5 v6 v7 v8 : Value) (HI : aA (jP w wc N p L3 u A c b.key b.weight (b3.rws v2 v3 v4 v5 v6 v7 v8)))
  (y1 y2 y4 y5 y6 y7 y8 y9 y10 y11 y12 y13 y14 y15 y16 y17 y18 y19 y20 y21 y22 y23 y24 y25 y26 y27 y28 y29 y30 y31 y32 y33 y34 y35 y36 y37 y38 y39 y40 y41 y42 y43 y44 y45 y46 y47 y48 y49 y50 y51 y52 y53 y54 y55 y56 y57 y58 y59 y60 y61 y62 y63 y64 y65 y66 y67 y68 y69 y70 y71 y72 y73 y74 y75 y76 y77 y78 y79 y80 y81 y82 y83 y84 y85 y86 y87 y88 y89 y90 y91 y92 y93 y94 y95 y96 y97 y98 y99 y100 y101 y102 y103 y104 y105 y106 y107 y108 y109 y110 y111 y112 y113 y114 y115 y116 y117 y118 y119 y120 y121 y122 y123 y124 y125 y126 y127 y128 y129 y130 y131 y132 y133 y134 y135 y136 y137 y138 y139 y140 y141 y142 y143 y144 y145 y146 y147 y148 y149 y150 y151 y152 y153 y154 y155 y156 y157 y158 : Value) : Code.wp Tryz.prog (gM 5 jR) (bodyPost Tryz.prog Tryz.f56 (fun e w' => e = .returned (.tuple #[]) ∧ dU w' N p (jC b u) ∧ Below N w w')) { tmps := #[(.pointer (some ⟨p, 0, none⟩)), y1, y2, (.pointer (some ⟨w.heap.size, 0, none⟩)), y4, y5, y6, y7, y8, y9, y10, y11, y12, y13, y14, y15, y16, y17, y18, y19, y20, y21, y22, y23, y24, y25, y26, y27, y28, y29, y30, y31, y32, y33, y34, y35, y36, y37, y38, y39, y40, y41, y42, y43, y44, y45, y46, y47, y48, y49, y50, y51, y52, y53, y54, y55, y56, y57, y58, y59, y60, y61, y62, y63, y64, y65, y66, y67, y68, y69, y70, y71, y72, y73, y74, y75, y76, y77, y78, y79, y80, y81, y82, y83, y84, y85, y86, y87, y88, y89, y90, y91, y92, y93, y94, y95, y96, y97, y98, y99, y100, y101, y102, y103, y104, y105, y106, y107, y108, y109, y110, y111, y112, y113, y114, y115, y116, y117, y118, y119, y120, y121, y122, y123, y124, y125, y126, y127, y128, y129, y130, y131, y132, y133, y134, y135, y136, y137, y138, y139, y140, y141, y142, y143, y144, y145, y146, y147, y148, y149, y150, y151, y152, y153, y154, y155, y156, y157, y158], defers := [] } wc := by
 have key : ∀ cd, gM 5 jR = cd → Code.wp Tryz.prog cd (bodyPost Tryz.prog Tryz.f56 (fun e w' => e = .returned (.tuple #[]) ∧ dU w' N p (jC b u) ∧ Below N w w')) { tmps := #[(.pointer (some ⟨p, 0, none⟩)), y1, y2, (.pointer (some ⟨w.heap.size, 0, none⟩)), y4, y5, y6, y7, y8, y9, y10, y11, y12, y13, y14, y15, y16, y17, y18, y19, y20, y21, y22, y23, y24, y25, y26, y27, y28, y29, y30, y31, y32, y33, y34, y35, y36, y37, y38, y39, y40, y41, y42, y43, y44, y45, y46, y47, y48, y49, y50, y51, y52, y53, y54, y55, y56, y57, y58, y59, y60, y61, y62, y63, y64, y65, y66, y67, y68, y69, y70, y71, y72, y73, y74, y75, y76, y77, y78, y79, y80, y81, y82, y83, y84, y85, y86, y87, y88, y89, y90, y91, y92, y93, y94, y95, y96, y97, y98, y99, y100, y101, y102, y103, y104, y105, y106, y107, y108, y109, y110, y111, y112, y113, y114, y115, y116, y117, y118, y119, y120, y121, y122, y123, y124, y125, y126, y127, y128, y129, y130, y131, y132, y133, y134, y135, y136, y137, y138, y139, y140, y141, y142, y143, y144, y145, y146, y147, y148, y149, y150, y151, y152, y153, y154, y155, y156, y157, y158], defers := [] } wc := by
  intro cd hcd
  unfold jR Tryz.f56 at hcd
  dsimp only [gM] at hcd
  subst hcd
  dsimp only
  go_upto_region 10 with (fail)
  go_cut [131] (fun x131 we => ∃ (L3 : Nat → Nat) (v7 : Value), aA (jP w we N p L3 u A c b.key b.weight (Bt.rws { b3 with times := b3.times ++ [u.f1] } v2 v3 v4 v5 v6 v7 v8)))
  case first =>
   obtain ⟨A7', c7', e7, hl7, hC7⟩ := Kd.R_reads (HI.out.S.rows 5 _ rfl)
   dsimp only at e7
   subst e7
   clear hl7 hC7
   have hsz : p < wc.heap.size := HI.out.S.lt
   have hus : w.heap.size < wc.heap.size := HI.out.U.lt
   have hc57 : wc.cell? ⟨p, 7, none⟩ = some (.slice A7' b3.times.length c7') := HI.out.S.cell 5 _ rfl
   have hu1 := HI.out.U.c1
   have hu2 := HI.out.U.c2
   have HAPP := HI.out.app (P := Tryz.prog) 5 k59 59 (.slice A7' b3.times.length c7') b3.times rfl 13 (by show 7 + 2 ≤ 13; decide) (by decide) (by decide) u.f1 [.int .i64 u.f1.f0, .int .i64 u.f1.f1] (gI _ _ _ u.f1) (.tmp 127) (.tmp 130) 23 (.agg #[(.int .i64 0), (.int .i64 0)]) 16 Tryz.underlying23 fZ rfl (by decide) (by omega) (by rw [HG.out.times]; have := HG.out.tl; omega)
   go_region_law ((refine HAPP.out _ _ _ _ _ _ (by rfl) (by rfl) (by rfl) (by rfl) ?_; intro g4 c4n w5 hgr5 hgr6 HJ6; have hc54' := (jQ hgr5.out 7).trans hc57; have hf54' := (gC hgr5.out 7).trans (HI.out.S.frozen 7)))
   all_goals
    go_wp2
    go_meet
    case rel => exact ⟨fD L3 wc.heap.size 13 7, .slice (some ⟨g4, 0, none⟩) (b3.times.length + 1) c4n, ⟨HJ6.out⟩⟩
  case rest =>
   clear HI
   obtain ⟨L4, v7, HI⟩ := hcut
   go_upto_region 11 with (fail)
   go_cut [142] (fun x142 we => ∃ (L3 : Nat → Nat) (v8 : Value), aA (jP w we N p L3 u A c b.key b.weight (Bt.rws { b3 with times := b3.times ++ [u.f1], diffs := b3.diffs ++ [u.f2] } v2 v3 v4 v5 v6 v7 v8)))
   case first =>
    obtain ⟨A8', c8', e8, hl8, hC8⟩ := Kd.R_reads (HI.out.S.rows 6 _ rfl)
    dsimp only at e8
    subst e8
    clear hl8 hC8
    have hsz : p < wc.heap.size := HI.out.S.lt
    have hus : w.heap.size < wc.heap.size := HI.out.U.lt
    have hc58 : wc.cell? ⟨p, 8, none⟩ = some (.slice A8' b3.diffs.length c8') := HI.out.S.cell 6 _ rfl
    have hu3 := HI.out.U.c3
    have HAPP := HI.out.app (P := Tryz.prog) 6 kI 3 (.slice A8' b3.diffs.length c8') b3.diffs rfl 13 (by show 7 + 2 ≤ 13; decide) (by decide) (by decide) u.f2 [.int .i64 u.f2] (by rfl) (.tmp 138) (.tmp 141) 91 (.int .i64 0) 8 Tryz.underlying91 pU rfl (Nat.succ_pos _) (by omega) (by rw [HG.out.diffs, HG.out.dl]; have := HG.out.tl; omega)
    go_region_law ((refine HAPP.out _ _ _ _ _ _ (by rfl) (by rfl) (by rfl) (by rfl) ?_; intro g4 c4n w5 hgr5 hgr6 HJ6; have hc54' := (jQ hgr5.out 8).trans hc58; have hf54' := (gC hgr5.out 8).trans (HI.out.S.frozen 8)))
    all_goals
     go_wp2
     go_meet
     case rel => exact ⟨fD L4 wc.heap.size 13 8, .slice (some ⟨g4, 0, none⟩) (b3.diffs.length + 1) c4n, ⟨HJ6.out⟩⟩
   case rest =>
    clear HI
    obtain ⟨L5, v8, HI⟩ := hcut
    obtain ⟨m, hm⟩ : ∃ m, b3.ends.length = m + 1 := ⟨b3.ends.length - 1, by have := HG.out.en; omega⟩
    obtain ⟨g, cap, e4, _, _, _⟩ := Kd.R_form (HI.out.S.rows 4 _ rfl) (by show 0 < b3.ends.length; omega)
    dsimp only at e4
    rw [hm] at e4
    subst e4
    have hc94 : wc.cell? ⟨p, 6, none⟩ = some (.slice (some ⟨g, 0, none⟩) (m + 1) cap) := HI.out.S.cell 4 _ rfl
    have hlk := HG.out.le
    have hm9 : b3.ends.length - 1 = m := by omega
    rw [hm9] at hlk
    obtain ⟨hx, hfx⟩ := HI.out.bump_cell 4 g (m + 1) cap b3.ends rfl m (by omega)
    rw [hlk] at hx
    have hkb := HG.out.tl
    have hkb2 := HG.out.el
    have hb9 : m + 1 ≤ 1099511627776 := by omega
    have hi1 : (m : Int) < ((m + 1 : Nat) : Int) := by omega
    have hi0 : (0 : Int) ≤ (m : Int) := by omega
    have hw1 : IntKind.i64.wrap (((m + 1 : Nat) : Int) - 1) = (m : Int) := by rw [IntWalk.i64_in _ (by omega)]; omega
    have hw2 : IntKind.i64.wrap ((m : Int) + 1 - 1) = (m : Int) := by rw [IntWalk.i64_in _ (by omega)]; omega
    have hw3 : IntKind.i64.wrap (m : Int) = (m : Int) := by rw [IntWalk.i64_in _ (by omega)]
    have hi2 : (m : Int) < (m : Int) + 1 := by omega
    have hi3 : m < m + 1 := by omega
    have HB := aA.mk (HI.out.bump 4 g (m + 1) cap b3.ends rfl m (by omega) (by decide) ((b.times.length : Int) + 1))
    have hw5 : IntKind.i64.wrap ((b.times.length : Int) + 1) = (b.times.length : Int) + 1 := by rw [IntWalk.i64_in _ (by omega)]
    have HM := aA.mk (And.intro hm (And.intro hm9 hlk))
    clear hm hm9 hlk hkb hkb2
    go_wp2_with fail
    go_still_tail 14, (by kernel_rfl)
    change wpList _ _ _ _ _ wc.drew
    have hfx2 : wc.drew.frozen? ⟨g, m, none⟩ = false := hfx
    have hx2 : wc.drew.cell? ⟨g, m, none⟩ = some (.int .i64 (b.times.length : Int)) := hx
    go_wp2
    go_end0
    have hbm : bump b3.ends = b3.ends.set m ((b.times.length : Int) + 1) := by
     unfold bump
     rw [HM.out.2.1, HM.out.2.2]
    have h9 := HB.out.below (cG (Below.refl _ _))
    refine ⟨rfl, ⟨L5, v2, v3, v4, v5, .slice (some ⟨g, 0, none⟩) (m + 1) cap, v7, v8, ?_⟩, h9.B⟩
    rw [HG.out.all]
    unfold iG
    rw [hbm]
    have h10 := h9.S
    rw [← HG.out.key, ← HG.out.weight] at h10
    exact h10
 exact key _ rfl
end Go.Proofs.YtpflmgbpjhbmnaaGreat.B
end
