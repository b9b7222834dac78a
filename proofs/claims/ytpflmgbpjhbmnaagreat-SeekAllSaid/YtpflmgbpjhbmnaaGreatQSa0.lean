/- E1, E2, E3, E17, E4, E5, E6, E7, E8, E9, E10, E11, E12, E13, E14, E40, E15, E16, E18, E19. -/
import Derived.Orders
import Derived.Deep.AppendSrc
import Derived.Deep.Upon
import Derived.Laws.CopyRow
import Derived.Laws.StructEq
import Derived.Laws.Pointers
import Derived.WalkSpells
import Derived.Laws.Slices
import Derived.Laws.MakeOwn
import Derived.Lib.SliceRun
import Derived.OrdersIn
import Derived.TacticsIn
import Derived.RangeFuncLeaves
import Derived.RangeFuncRecord
section
set_option linter.unusedVariables false
set_option linter.unusedSimpArgs false
namespace Go.Eng
open Go
inductive AV where
  | undef
  | bool (b : Bool)
  | int (k : IntKind) (n : Int)
  | str (s : ByteArray)
  | nilp
  | ptr (t i k : Nat)
  | lptr (sz : Nat) (l : List AV) (i k : Nat)
  | nils
  | list (sz : Nat) (l : List AV) (ex : Bool)
  | ref (sz t off n c : Nat) (ex : Bool)
  | agg (cs : List AV)
  | tup (vs : List AV)
  | fn (f : FuncId) (first captured : List AV)
  | nilf
  | ifc (t : TypeId) (v : AV)
  | nili
  | yld (t : Nat)
  deriving Inhabited
inductive AE where
  | normal
  | exit (id : Nat)
  | ret
  deriving DecidableEq
def AE.out : AE → Exit
  | .normal => .normal
  | .exit id => .exit id
  | .ret => .ret
def AE.code : AE → Code
  | .normal => .skip
  | .exit id => .exit id
  | .ret => .ret
structure gG where
  n : Nat
  fn : FuncId
  params : Array Tmp
  assign : Code
  body : Code
def cells : AV → List AV
  | .agg cs => cs
  | v => [v]
def dH : AV → Bool
  | .undef | .agg _ | .tup _ => false
  | _ => true
def fits (sz : Nat) (x : AV) : Prop := (cells x).length = sz ∧ ∀ y ∈ cells x, dH y = true
inductive aR where
  | dead
  | live (sz : Nat) (es : List AV)
  | loop (f : Nat → AV) (lp : gG) (st : LoopState) (pd : Option AE)
  deriving Inhabited
abbrev AH := List aR
abbrev AF := Nat → AV
structure bK where
  b : Nat
  off : Nat
  sz : Nat
  tot : Nat
structure IoW where
  os : Os
  tape : Nat → Question → Nat
  output : Array (Nat × ByteArray)
def ioW (w : World) : IoW := ⟨w.os, w.tape, w.output⟩
structure KW where
  pl : Nat → Option bK
  fz : Nat → Option Obj
  old : Nat → Option Obj
  io : IoW
def bK.at (p : bK) (i k : Nat) : Addr := ⟨p.b, p.off + (i * p.sz + k), none⟩
structure KW.le (K K' : KW) : Prop where
  pl : ∀ t p, K.pl t = some p → K'.pl t = some p
  fz : ∀ b o, K.fz b = some o → K'.fz b = some o
  old : K'.old = K.old
  io : K'.io = K.io
theorem KW.le.refl (K : KW) : K.le K := ⟨fun _ _ h => h, fun _ _ h => h, rfl, rfl⟩
theorem KW.le.trans {A B C : KW} (h : A.le B) (g : B.le C) : A.le C := ⟨fun t p e => g.pl t p (h.pl t p e), fun b o e => g.fz b o (h.fz b o e), g.old.trans h.old, g.io.trans h.io⟩
inductive RelV (K : KW) : AV → Value → Prop where
  | undef (v : Value) : RelV K .undef v
  | bool (b : Bool) : RelV K (.bool b) (.bool b)
  | int (k : IntKind) (n : Int) : RelV K (.int k n) (.int k n)
  | str (s : ByteArray) : RelV K (.str s) (.string s)
  | nilp : RelV K .nilp (.pointer none)
  | ptr {t i k : Nat} {p : bK} (h : K.pl t = some p) : RelV K (.ptr t i k) (.pointer (some (p.at i k)))
  | lptr {sz : Nat} {l : List AV} {i k b off : Nat} {cs : Array Value} {T : TypeId} {fr : Nat × Nat} (hb : K.fz b = some (.cells cs T fr)) (hn : off + l.length * sz ≤ cs.size) (hs : ∀ x ∈ l, fits sz x)
      (hr : ∀ i k x y, l[i]? = some x → (cells x)[k]? = some y → RelV K y (cs.getD (off + (i * sz + k)) Go.undef)) : RelV K (.lptr sz l i k) (.pointer (some ⟨b, off + (i * sz + k), none⟩))
  | nils : RelV K .nils (.slice none 0 0)
  | list0 {sz : Nat} {ex : Bool} {A : Option Addr} {cap : Nat} (he : ex = true → cap = 0) : RelV K (.list sz [] ex) (.slice A 0 cap)
  | list {sz : Nat} {l : List AV} {ex : Bool} {b off n cap : Nat} {cs : Array Value} {T : TypeId} {fr : Nat × Nat} (hb : K.fz b = some (.cells cs T fr)) (hl : l.length = n) (hc : n ≤ cap) (he : ex = true → cap = n) (hn : off + n * sz ≤ cs.size) (hs : ∀ x ∈ l, fits sz x)
      (hr : ∀ i k x y, l[i]? = some x → (cells x)[k]? = some y → RelV K y (cs.getD (off + (i * sz + k)) Go.undef)) : RelV K (.list sz l ex) (.slice (some ⟨b, off, none⟩) n cap)
  | ref {sz t off n c : Nat} {ex : Bool} {p : bK} {A : Option Addr} {cap : Nat} (h : K.pl t = some p) (hz : p.sz = sz) (hn : n ≤ c) (hc : c ≤ cap) (he : ex = true → cap = c) (ha : 0 < cap → A = some (p.at off 0) ∧ off + cap ≤ p.tot) : RelV K (.ref sz t off n c ex) (.slice A n cap)
  | agg {cs : List AV} {ds : Array Value} (hl : cs.length = ds.size) (hr : ∀ i x, cs[i]? = some x → RelV K x (ds.getD i Go.undef)) : RelV K (.agg cs) (.agg ds)
  | tup {cs : List AV} {ds : Array Value} (hl : cs.length = ds.size) (hr : ∀ i x, cs[i]? = some x → RelV K x (ds.getD i Go.undef)) : RelV K (.tup cs) (.tuple ds)
  | fn {f : FuncId} {as0 bs : List AV} {cs ds : Array Value} (hl : as0.length = cs.size) (hr : ∀ i x, as0[i]? = some x → RelV K x (cs.getD i Go.undef)) (hl' : bs.length = ds.size) (hr' : ∀ i x, bs[i]? = some x → RelV K x (ds.getD i Go.undef)) : RelV K (.fn f as0 bs) (.func (.func f) cs ds)
  | nilf : RelV K .nilf .nilFunc
  | ifc {t : TypeId} {v : AV} {d : Value} (h : RelV K v d) : RelV K (.ifc t v) (.iface t d)
  | nili : RelV K .nili .nilIface
  | yld {t : Nat} {p : bK} (h : K.pl t = some p) : RelV K (.yld t) (.func (.yield p.b) #[] #[])
def rV : Obj → Bool
  | .cells .. => true
  | _ => false
theorem RelV.mono' {K K' : KW} (hp : ∀ t p, K.pl t = some p → K'.pl t = some p) (hf : ∀ b o, K.fz b = some o → rV o = true → K'.fz b = some o) {x : AV} {v : Value} (r : RelV K x v) : RelV K' x v := by
  induction r with
  | undef v => exact .undef v
  | bool b => exact .bool b
  | int k n => exact .int k n
  | str s => exact .str s
  | nilp => exact .nilp
  | ptr e => exact .ptr (hp _ _ e)
  | lptr hb hn hs hr ih => exact .lptr (hf _ _ hb rfl) hn hs ih
  | nils => exact .nils
  | list0 he => exact .list0 he
  | list hb hl hc he hn hs hr ih => exact .list (hf _ _ hb rfl) hl hc he hn hs ih
  | ref e hz hn hc he ha => exact .ref (hp _ _ e) hz hn hc he ha
  | agg hl hr ih => exact .agg hl ih
  | tup hl hr ih => exact .tup hl ih
  | fn hl hr hl' hr' ih ih' => exact .fn hl ih hl' ih'
  | nilf => exact .nilf
  | ifc _ ih => exact .ifc ih
  | nili => exact .nili
  | yld e => exact .yld (hp _ _ e)
theorem RelV.mono {K K' : KW} (h : K.le K') {x : AV} {v : Value} (r : RelV K x v) : RelV K' x v := r.mono' h.pl fun b o e _ => h.fz b o e
theorem RelV.one {K : KW} {x : AV} {v : Value} (r : RelV K x v) (h : dH x = true) : v.oneCell' = true := by
  cases r <;> first | rfl | simp [dH] at h
def RelL (K : KW) (xs : List AV) (vs : List Value) : Prop := xs.length = vs.length ∧ ∀ (i : Nat) (x : AV) (v : Value), xs[i]? = some x → vs[i]? = some v → RelV K x v
theorem RelL.nil (K : KW) : RelL K [] [] := ⟨rfl, fun i x v h => by simp at h⟩
theorem RelL.cons {K : KW} {x : AV} {v : Value} {xs : List AV} {vs : List Value} (h : RelV K x v) (g : RelL K xs vs) : RelL K (x :: xs) (v :: vs) :=
  ⟨by simp [g.1], fun i y u hy hu => by
    cases i with
    | zero => simp at hy hu; subst hy; subst hu; exact h
    | succ i => simp at hy hu; exact g.2 i y u hy hu⟩
theorem RelL.mono {K K' : KW} (h : K.le K') {xs : List AV} {vs : List Value} (r : RelL K xs vs) : RelL K' xs vs := ⟨r.1, fun i x v a b => (r.2 i x v a b).mono h⟩
theorem RelL.append {K : KW} {xs ys : List AV} {vs us : List Value} (h : RelL K xs vs) (g : RelL K ys us) : RelL K (xs ++ ys) (vs ++ us) := by
  refine ⟨by simp [h.1, g.1], fun i x v hx hv => ?_⟩
  by_cases hi : i < xs.length
  · rw [List.getElem?_append_left hi] at hx
    rw [List.getElem?_append_left (h.1 ▸ hi)] at hv
    exact h.2 i x v hx hv
  · rw [List.getElem?_append_right (by omega)] at hx
    rw [List.getElem?_append_right (by have := h.1; omega), ← h.1] at hv
    exact g.2 _ x v hx hv
theorem rW {vs : Array Value} {i : Nat} {v : Value} (h : vs.toList[i]? = some v) : vs.getD i Go.undef = v := by
  rw [Array.getElem?_toList] at h
  simp [Array.getD_eq_getD_getElem?, h]
theorem rX {vs : Array Value} {i : Nat} (h : i < vs.size) : vs.toList[i]? = some (vs.getD i Go.undef) := by
  rw [Array.getElem?_toList]
  simp [Array.getD_eq_getD_getElem?, h]
theorem RelL.ofD {K : KW} {xs : List AV} {vs : Array Value} (hl : xs.length = vs.size) (hr : ∀ i x, xs[i]? = some x → RelV K x (vs.getD i Go.undef)) : RelL K xs vs.toList :=
  ⟨by simp [hl], fun i x v hx hv => by have := hr i x hx; rwa [rW hv] at this⟩
theorem RelL.toD {K : KW} {xs : List AV} {vs : Array Value} (h : RelL K xs vs.toList) : xs.length = vs.size ∧ ∀ i x, xs[i]? = some x → RelV K x (vs.getD i Go.undef) := by
  refine ⟨by simpa using h.1, fun i x hx => h.2 i x _ hx (rX ?_)⟩
  have := (List.getElem?_eq_some_iff.1 hx).1
  have h1 := h.1
  simp at h1; omega
theorem RelL.take {K : KW} {xs : List AV} {vs : List Value} (h : RelL K xs vs) (n : Nat) : RelL K (xs.take n) (vs.take n) :=
  ⟨by simp [h.1], fun i x v hx hv => by
    rw [List.getElem?_take] at hx hv
    split at hx
    · rename_i hi; rw [if_pos hi] at hv; exact h.2 i x v hx hv
    · cases hx⟩
theorem RelL.drop {K : KW} {xs : List AV} {vs : List Value} (h : RelL K xs vs) (n : Nat) : RelL K (xs.drop n) (vs.drop n) :=
  ⟨by simp [h.1], fun i x v hx hv => by
    rw [List.getElem?_drop] at hx hv
    exact h.2 _ x v hx hv⟩
theorem RelL.set {K : KW} {xs : List AV} {vs : List Value} (h : RelL K xs vs) (n : Nat) {x : AV} {v : Value} (r : RelV K x v) : RelL K (xs.set n x) (vs.set n v) :=
  ⟨by simp [h.1], fun i y u hy hu => by
    rw [List.getElem?_set] at hy hu
    by_cases e : n = i
    · rw [if_pos e] at hy hu
      have h1 := h.1
      split at hy
      · rename_i h2
        rw [if_pos (by omega)] at hu
        cases hy; cases hu; exact r
      · cases hy
    · rw [if_neg e] at hy hu
      exact h.2 i y u hy hu⟩
def okc : AV → Bool
  | .undef | .tup _ => false
  | _ => true
theorem RelV.cells {K : KW} {x : AV} {v : Value} (r : RelV K x v) (hx : okc x = true) : RelL K (Eng.cells x) v.cells.toList := by
  cases r with
  | agg hl hr => exact RelL.ofD hl hr
  | undef v => cases hx
  | @tup cs ds hl hr => cases hx
  | _ => exact RelL.cons (by constructor <;> assumption) (RelL.nil _)
theorem fH {x : AV} (h : ∀ y ∈ Eng.cells x, dH y = true) : okc x = true := by
  cases x <;> first | rfl | (have := h _ (List.mem_cons_self ..); cases this)
theorem RelL.one {K : KW} {xs : List AV} {vs : List Value} (h : RelL K xs vs) (hx : ∀ y ∈ xs, dH y = true) : ∀ v ∈ vs, v.oneCell' = true := by
  intro v hv
  obtain ⟨i, hi⟩ := List.getElem?_of_mem hv
  have hlt := (List.getElem?_eq_some_iff.1 hi).1
  have hlx : i < xs.length := by rw [h.1]; exact hlt
  have hx1 : xs[i]? = some xs[i] := List.getElem?_eq_getElem hlx
  exact (h.2 i _ v hx1 hi).one (hx _ (List.mem_of_getElem? hx1))
end Go.Eng
end
section
set_option linter.unusedVariables false
set_option linter.unusedSimpArgs false
namespace Go.Eng
open Go
structure kJ (K : KW) (w : World) (p : bK) (sz : Nat) (es : List AV) : Prop where
  psz : p.sz = sz
  len : es.length ≤ p.tot
  free : K.fz p.b = none
  fit : ∀ x ∈ es, Eng.fits sz x
  block : ∃ cs T, w.heap[p.b]? = some (.cells cs T (0, 0)) ∧ p.off + p.tot * sz ≤ cs.size ∧ ∀ i k x y, es[i]? = some x → (cells x)[k]? = some y → RelV K y (cs.getD (p.off + (i * sz + k)) Go.undef)
structure uK (K : KW) (w : World) (p : bK) (f : AF) (lp : gG) (st : LoopState) (pd : Option AE) : Prop where
  free : K.fz p.b = none
  block : ∃ tmps d, w.heap[p.b]? = some (Obj.loop { state := st, pending := pd.map AE.code, fn := lp.fn, tmps := tmps, params := lp.params, assign := lp.assign, body := lp.body, defers := d }) ∧ tmps.size = lp.n ∧ ∀ i, i < lp.n → RelV K (f i) (tmps.getD i Go.undef)
structure EU (K : KW) (w : World) (H : AH) : Prop where
  loop : ∀ t p f lp st pd, K.pl t = some p → H[t]? = some (aR.loop f lp st pd) → uK K w p f lp st pd
  inj : ∀ t t' p p' f lp st pd f' lp' st' pd', t ≠ t' → K.pl t = some p → H[t]? = some (aR.loop f lp st pd) → K.pl t' = some p' → H[t']? = some (aR.loop f' lp' st' pd') → p.b ≠ p'.b
structure Rel (K : KW) (w : World) (H : AH) : Prop where
  dom : ∀ t p, K.pl t = some p → t < H.length
  live : ∀ t p sz es, K.pl t = some p → H[t]? = some (aR.live sz es) → kJ K w p sz es
  inj : ∀ t t' p p' sz es sz' es', t ≠ t' → K.pl t = some p → H[t]? = some (aR.live sz es) → K.pl t' = some p' → H[t']? = some (aR.live sz' es') → p.b ≠ p'.b
  fz : ∀ b o, K.fz b = some o → w.heap[b]? = some o
  loops : EU K w H
  io : ioW w = K.io
theorem uK.step {K K' : KW} {w w' : World} {p : bK} {f : AF} {lp : gG} {st : LoopState} {pd : Option AE} (h : uK K w p f lp st pd) (hk : K.le K') (hf : ∀ (b : Nat) (r : Loop), K.fz b = none → w.heap[b]? = some (Obj.loop r) → K'.fz b = none) (hw : ∀ (b : Nat) (r : Loop), w.heap[b]? = some (Obj.loop r) → w'.heap[b]? = some (Obj.loop r)) : uK K' w' p f lp st pd := by
  obtain ⟨tmps, d, h1, h2, h3⟩ := h.block
  exact ⟨hf _ _ h.free h1, tmps, d, hw _ _ h1, h2, fun i hi => (h3 i hi).mono hk⟩
theorem EU.step {K K' : KW} {w w' : World} {H H' : AH} (h : EU K w H) (hk : K.le K') (hf : ∀ (b : Nat) (r : Loop), K.fz b = none → w.heap[b]? = some (Obj.loop r) → K'.fz b = none) (hw : ∀ (b : Nat) (r : Loop), w.heap[b]? = some (Obj.loop r) → w'.heap[b]? = some (Obj.loop r))
    (hH : ∀ t p f lp st pd, K'.pl t = some p → H'[t]? = some (aR.loop f lp st pd) → K.pl t = some p ∧ H[t]? = some (aR.loop f lp st pd)) : EU K' w' H' :=
  ⟨fun t p f lp st pd a b => by
    obtain ⟨a', b'⟩ := hH _ _ _ _ _ _ a b
    exact (h.loop _ _ _ _ _ _ a' b').step hk hf hw,
   fun t t' p p' f lp st pd f' lp' st' pd' n a b a' b' => by
    obtain ⟨c, d⟩ := hH _ _ _ _ _ _ a b
    obtain ⟨c', d'⟩ := hH _ _ _ _ _ _ a' b'
    exact h.inj _ _ _ _ _ _ _ _ _ _ _ _ n c d c' d'⟩
structure Ext (K : KW) (H : AH) (K' : KW) (H' : AH) : Prop where
  le : K.le K'
  len : H.length ≤ H'.length
  abs : ∀ t, t < H.length → K.pl t = none → K'.pl t = none ∧ H'[t]? = H[t]?
theorem Ext.refl (K : KW) (H : AH) : Ext K H K H := ⟨.refl K, Nat.le_refl _, fun t h g => ⟨g, rfl⟩⟩
theorem Ext.trans {K K' K'' : KW} {H H' H'' : AH} (h : Ext K H K' H') (g : Ext K' H' K'' H'') : Ext K H K'' H'' :=
  ⟨h.le.trans g.le, Nat.le_trans h.len g.len, fun t a b => by
    obtain ⟨c, d⟩ := h.abs t a b
    obtain ⟨c', d'⟩ := g.abs t (Nat.lt_of_lt_of_le a h.len) c
    exact ⟨c', d'.trans d⟩⟩
def KW.place (K : KW) (t : Nat) (p : bK) : KW := { K with pl := fun s => if s = t then some p else K.pl s }
def KW.freeze (K : KW) (b : Nat) (o : Obj) : KW := { K with fz := fun x => if x = b then some o else K.fz x }
theorem KW.le_place {K : KW} {t : Nat} {p : bK} (h : K.pl t = none) : K.le (K.place t p) :=
  ⟨fun s q e => by
    show (if s = t then some p else K.pl s) = some q
    split
    · rename_i e'; rw [e', h] at e; cases e
    · exact e, fun _ _ e => e, rfl, rfl⟩
theorem KW.le_freeze {K : KW} {b : Nat} {o : Obj} (h : K.fz b = none) : K.le (K.freeze b o) :=
  ⟨fun _ _ e => e, fun x q e => by
    show (if x = b then some o else K.fz x) = some q
    split
    · rename_i e'; rw [e', h] at e; cases e
    · exact e, rfl, rfl⟩
theorem KW.place_self (K : KW) (t : Nat) (p : bK) : (K.place t p).pl t = some p := by simp [KW.place]
theorem KW.place_other {K : KW} {t s : Nat} (p : bK) (h : s ≠ t) : (K.place t p).pl s = K.pl s := by simp [KW.place, h]
theorem Rel.unplaced {K : KW} {w : World} {H : AH} (h : Rel K w H) {t : Nat} (ht : H.length ≤ t) : K.pl t = none := by
  cases e : K.pl t with
  | none => rfl
  | some p => exact absurd (h.dom t p e) (by omega)
theorem kJ.world {K : KW} {w w' : World} {p : bK} {sz : Nat} {es : List AV} (h : kJ K w p sz es) (hw : w'.heap[p.b]? = w.heap[p.b]?) : kJ K w' p sz es := by
  obtain ⟨cs, T, h1, h2, h3⟩ := h.block
  exact ⟨h.psz, h.len, h.free, h.fit, cs, T, hw.trans h1, h2, h3⟩
theorem kJ.mono {K K' : KW} {w : World} {p : bK} {sz : Nat} {es : List AV} (h : kJ K w p sz es) (hk : K.le K') (hf : K'.fz p.b = none) : kJ K' w p sz es := by
  obtain ⟨cs, T, h1, h2, h3⟩ := h.block
  exact ⟨h.psz, h.len, hf, h.fit, cs, T, h1, h2, fun i k x y a b => (h3 i k x y a b).mono hk⟩
theorem Rel.heap {K : KW} {w w' : World} {H : AH} (h : Rel K w H) (e : w'.heap = w.heap) (hi : ioW w' = ioW w) : Rel K w' H :=
  ⟨h.dom, fun t p sz es a b => (h.live t p sz es a b).world (by rw [e]), h.inj, fun b o c => by rw [e]; exact h.fz b o c, h.loops.step (.refl K) (fun _ _ a _ => a) (fun b r a => by rw [e]; exact a) (fun _ _ _ _ _ _ a b => ⟨a, b⟩), hi.trans h.io⟩
theorem Rel.blt {K : KW} {w : World} {H : AH} (h : Rel K w H) {t : Nat} {p : bK} {sz : Nat} {es : List AV} (a : K.pl t = some p) (b : H[t]? = some (aR.live sz es)) : p.b < w.heap.size := by
  obtain ⟨cs, T, h1, _⟩ := (h.live t p sz es a b).block
  exact (Array.getElem?_eq_some_iff.1 h1).1
theorem Rel.fzlt {K : KW} {w : World} {H : AH} (h : Rel K w H) {b : Nat} {o : Obj} (a : K.fz b = some o) : b < w.heap.size := (Array.getElem?_eq_some_iff.1 (h.fz b o a)).1
theorem Rel.absent {K : KW} {w : World} {H : AH} (h : Rel K w H) (J : AH) : Rel K w (H ++ J) := by
  have key : ∀ t p, K.pl t = some p → (H ++ J)[t]? = H[t]? := fun t p a => List.getElem?_append_left (h.dom t p a)
  exact ⟨fun t p a => by have := h.dom t p a; simp; omega, fun t p sz es a b => h.live t p sz es a (by rw [← key t p a]; exact b),
    fun t t' p p' sz es sz' es' n a b a' b' => h.inj t t' p p' sz es sz' es' n a (by rw [← key t p a]; exact b) a' (by rw [← key t' p' a']; exact b'), h.fz, h.loops.step (.refl K) (fun _ _ a _ => a) (fun b r a => a) (fun _ _ _ _ _ _ a b => ⟨a, by rw [← key _ _ a]; exact b⟩), h.io⟩
theorem Ext.absent (K : KW) (H J : AH) : Ext K H K (H ++ J) := ⟨.refl K, by simp, fun t a b => ⟨b, List.getElem?_append_left a⟩⟩
theorem Rel.placed {K : KW} {w : World} {H : AH} (h : Rel K w H) {t sz : Nat} {es : List AV} (ht : t < H.length) (hp : K.pl t = none) (hl : H[t]? = some (aR.live sz es)) (hf : ∀ x ∈ es, fits sz x)
    (cs : Array Value) (T : TypeId) (tot : Nat) (h1 : es.length ≤ tot) (h2 : tot * sz ≤ cs.size) (hr : ∀ i k x y, es[i]? = some x → (cells x)[k]? = some y → RelV K y (cs.getD (i * sz + k) Go.undef)) :
    Rel (K.place t ⟨w.heap.size, 0, sz, tot⟩) (w.alloc (.cells cs T)) H := by
  have hle : K.le (K.place t ⟨w.heap.size, 0, sz, tot⟩) := KW.le_place hp
  have hw : ∀ b, b < w.heap.size → (w.alloc (.cells cs T)).heap[b]? = w.heap[b]? := fun b hb => by
    show (w.heap.push _)[b]? = w.heap[b]?
    rw [Array.getElem?_push, if_neg (Nat.ne_of_lt hb)]
  have fzn : K.fz w.heap.size = none := by
    cases e : K.fz w.heap.size with
    | none => rfl
    | some o => exact absurd (h.fzlt e) (Nat.lt_irrefl _)
  refine ⟨fun s p a => ?_, fun s p sz' es' a b => ?_, fun s s' p p' sz1 es1 sz2 es2 n a b a' b' => ?_, fun b o a => ?_, h.loops.step hle (fun _ _ a _ => a) (fun b r a => (hw b (Array.getElem?_eq_some_iff.1 a).1).trans a) (fun s p _ _ _ _ a b => ?_), h.io⟩
  rotate_right
  · by_cases e : s = t
    · rw [e, hl] at b; cases b
    · rw [KW.place_other _ e] at a; exact ⟨a, b⟩
  · by_cases e : s = t
    · rw [e]; exact ht
    · rw [KW.place_other _ e] at a; exact h.dom s p a
  · by_cases e : s = t
    · rw [e] at a b
      rw [KW.place_self] at a
      cases a
      rw [hl] at b
      cases b
      refine ⟨rfl, h1, fzn, hf, cs, T, (show (w.heap.push _)[w.heap.size]? = _ by simp), by simpa using h2, fun i k x y c d => ?_⟩
      simp only [Nat.zero_add]
      exact (hr i k x y c d).mono hle
    · rw [KW.place_other _ e] at a
      exact ((h.live s p sz' es' a b).mono hle (h.live s p sz' es' a b).free).world (hw _ (h.blt a b))
  · by_cases e : s = t
    · have e' : s' ≠ t := fun c => n (e.trans c.symm)
      rw [e] at a
      rw [KW.place_self] at a
      cases a
      rw [KW.place_other _ e'] at a'
      exact Nat.ne_of_gt (h.blt a' b')
    · rw [KW.place_other _ e] at a
      by_cases e' : s' = t
      · rw [e'] at a'
        rw [KW.place_self] at a'
        cases a'
        exact Nat.ne_of_lt (h.blt a b)
      · rw [KW.place_other _ e'] at a'
        exact h.inj s s' p p' sz1 es1 sz2 es2 n a b a' b'
  · exact (hw b (h.fzlt a)).trans (h.fz b o a)
theorem Rel.alloc {K : KW} {w : World} {H : AH} (h : Rel K w H) {sz : Nat} {es : List AV} (hf : ∀ x ∈ es, fits sz x)
    (cs : Array Value) (T : TypeId) (tot : Nat) (h1 : es.length ≤ tot) (h2 : tot * sz ≤ cs.size) (hr : ∀ i k x y, es[i]? = some x → (cells x)[k]? = some y → RelV K y (cs.getD (i * sz + k) Go.undef)) :
    Rel (K.place H.length ⟨w.heap.size, 0, sz, tot⟩) (w.alloc (.cells cs T)) (H ++ [aR.live sz es]) :=
  (h.absent _).placed (by simp) (h.unplaced (Nat.le_refl _)) (by simp) hf cs T tot h1 h2 hr
theorem Rel.extAlloc {K : KW} {w : World} {H : AH} (h : Rel K w H) (o : aR) (p : bK) : Ext K H (K.place H.length p) (H ++ [o]) :=
  ⟨KW.le_place (h.unplaced (Nat.le_refl _)), by simp, fun t a b => ⟨by rw [KW.place_other _ (Nat.ne_of_lt a)]; exact b, List.getElem?_append_left a⟩⟩
theorem Rel.kill {K : KW} {w : World} {H : AH} (h : Rel K w H) (t : Nat) : Rel K w (List.set H t aR.dead) := by
  have key : ∀ s sz es, (List.set H t aR.dead)[s]? = some (aR.live sz es) → H[s]? = some (aR.live sz es) := fun s sz es a => by
    rw [List.getElem?_set] at a
    split at a
    · split at a <;> cases a
    · exact a
  exact ⟨fun s p a => by rw [List.length_set]; exact h.dom s p a, fun s p sz es a b => h.live s p sz es a (key _ _ _ b),
    fun s s' p p' sz es sz' es' n a b a' b' => h.inj s s' p p' sz es sz' es' n a (key _ _ _ b) a' (key _ _ _ b'), h.fz, h.loops.step (.refl K) (fun _ _ a _ => a) (fun b r a => a) (fun s p f lp st pd a b => ⟨a, by
      rw [List.getElem?_set] at b
      split at b
      · split at b <;> cases b
      · exact b⟩), h.io⟩
theorem Ext.set {K : KW} {H : AH} {t : Nat} {p : bK} (hp : K.pl t = some p) (o : aR) : Ext K H K (List.set H t o) :=
  ⟨.refl K, by simp, fun s a b => ⟨b, by
    rw [List.getElem?_set_ne]
    intro e; rw [e, b] at hp; cases hp⟩⟩
theorem Rel.update {K : KW} {w w' : World} {H : AH} (h : Rel K w H) {t sz : Nat} {es es' : List AV} {p : bK} (hp : K.pl t = some p) (hl : H[t]? = some (aR.live sz es)) (hf : ∀ x ∈ es', fits sz x) (hn : es'.length ≤ p.tot)
    (hi : ioW w' = ioW w) {cs : Array Value} {T : TypeId} (hb : w'.heap[p.b]? = some (.cells cs T (0, 0))) (ho : ∀ b, b ≠ p.b → w'.heap[b]? = w.heap[b]?) (hs : p.off + p.tot * sz ≤ cs.size)
    (hr : ∀ i k x y, es'[i]? = some x → (cells x)[k]? = some y → RelV K y (cs.getD (p.off + (i * sz + k)) Go.undef)) : Rel K w' (List.set H t (aR.live sz es')) := by
  have L := h.live t p sz es hp hl
  have key : ∀ s sz' es1, s ≠ t → (List.set H t (aR.live sz es'))[s]? = some (aR.live sz' es1) → H[s]? = some (aR.live sz' es1) := fun s sz' es1 n a => by
    rw [List.getElem?_set_ne (fun e => n e.symm)] at a; exact a
  have same : ∀ sz' es1, (List.set H t (aR.live sz es'))[t]? = some (aR.live sz' es1) → sz' = sz ∧ es1 = es' := fun sz' es1 a => by
    rw [List.getElem?_set_self (h.dom t p hp)] at a
    cases a; exact ⟨rfl, rfl⟩
  have was : ∀ s sz' es1, (List.set H t (aR.live sz es'))[s]? = some (aR.live sz' es1) → ∃ es2, H[s]? = some (aR.live sz' es2) := fun s sz' es1 a => by
    by_cases e : s = t
    · rw [e] at a ⊢
      obtain ⟨e1, _⟩ := same _ _ a
      rw [e1]; exact ⟨es, hl⟩
    · exact ⟨es1, key s sz' es1 e a⟩
  refine ⟨fun s q a => by rw [List.length_set]; exact h.dom s q a, fun s q sz' es1 a b => ?_, fun s s' q q' sz1 es1 sz2 es2 n a b a' b' => ?_, fun b o a => ?_, h.loops.step (.refl K) (fun _ _ a _ => a) (fun b r a => (ho b ?_).trans a) (fun s q _ _ _ _ a b => ⟨a, ?_⟩), hi.trans h.io⟩
  rotate_right 2
  · obtain ⟨_, _, c1, _⟩ := L.block
    intro e; rw [e, c1] at a; cases a
  · rw [List.getElem?_set] at b
    split at b
    · split at b <;> cases b
    · exact b
  · by_cases e : s = t
    · rw [e] at a b
      rw [hp] at a; cases a
      obtain ⟨e1, e2⟩ := same _ _ b
      subst e1; subst e2
      exact ⟨L.psz, hn, L.free, hf, cs, T, hb, hs, hr⟩
    · have b1 := key s sz' es1 e b
      exact (h.live s q sz' es1 a b1).world (ho _ (h.inj s t q p sz' es1 sz es e a b1 hp hl))
  · obtain ⟨u, b1⟩ := was _ _ _ b
    obtain ⟨u', b2⟩ := was _ _ _ b'
    exact h.inj s s' q q' sz1 u sz2 u' n a b1 a' b2
  · have hne : b ≠ p.b := fun e => by rw [e, L.free] at a; cases a
    exact (ho b hne).trans (h.fz b o a)
theorem Rel.moved {K : KW} {w : World} {H : AH} (h : Rel K w H) {t sz : Nat} {es : List AV} {p : bK} (hp : K.pl t = some p) (hl : H[t]? = some (aR.live sz es)) (d : Nat) (hd : d ≤ p.tot) :
    Rel (K.place H.length ⟨p.b, p.off + d * sz, sz, p.tot - d⟩) w (List.set H t aR.dead ++ [aR.live sz (es.drop d)]) := by
  have L := h.live t p sz es hp hl
  have ht := h.dom t p hp
  have hle : K.le (K.place H.length ⟨p.b, p.off + d * sz, sz, p.tot - d⟩) := KW.le_place (h.unplaced (Nat.le_refl _))
  obtain ⟨cs, T, hb, hs, hr⟩ := L.block
  have old : ∀ s sz' es1, s ≠ H.length → (List.set H t aR.dead ++ [aR.live sz (es.drop d)])[s]? = some (aR.live sz' es1) → s < H.length ∧ s ≠ t ∧ H[s]? = some (aR.live sz' es1) := fun s sz' es1 n a => by
    have hlt : s < H.length := by
      have := (List.getElem?_eq_some_iff.1 a).1
      simp at this; omega
    rw [List.getElem?_append_left (by simpa using hlt)] at a
    have hst : s ≠ t := fun e => by rw [e, List.getElem?_set_self ht] at a; cases a
    rw [List.getElem?_set_ne (fun e => hst e.symm)] at a
    exact ⟨hlt, hst, a⟩
  have new : ∀ sz' es1, (List.set H t aR.dead ++ [aR.live sz (es.drop d)])[H.length]? = some (aR.live sz' es1) → sz' = sz ∧ es1 = es.drop d := fun sz' es1 a => by
    rw [List.getElem?_append_right (by simp)] at a
    simp at a; exact ⟨a.1.symm, a.2.symm⟩
  refine ⟨fun s q a => ?_, fun s q sz' es1 a b => ?_, fun s s' q q' sz1 es1 sz2 es2 n a b a' b' => ?_, h.fz, h.loops.step hle (fun _ _ a _ => a) (fun b r a => a) (fun s q _ _ _ _ a b => ?_), h.io⟩
  rotate_right
  · have hlt : s < H.length := by
      have h1 := (List.getElem?_eq_some_iff.1 b).1
      have h2 : s ≠ H.length := fun e => by
        rw [e, List.getElem?_append_right (by simp)] at b
        simp at b
      simp at h1; omega
    rw [List.getElem?_append_left (by simpa using hlt), List.getElem?_set] at b
    rw [KW.place_other _ (Nat.ne_of_lt hlt)] at a
    split at b
    · first | (split at b <;> cases b) | cases b
    · exact ⟨a, b⟩
  · by_cases e : s = H.length
    · simp [e]
    · rw [KW.place_other _ e] at a
      have := h.dom s q a
      simp; omega
  · by_cases e : s = H.length
    · rw [e] at a b
      rw [KW.place_self] at a; cases a
      obtain ⟨e1, e2⟩ := new _ _ b
      subst e1; subst e2
      refine ⟨rfl, by have := L.len; simp; omega, L.free, fun x hx => L.fit x (List.mem_of_mem_drop hx), cs, T, hb, ?_, fun i k x y c e => ?_⟩
      · have e3 : d * sz' + (p.tot - d) * sz' = p.tot * sz' := by rw [← Nat.add_mul]; congr 1; omega
        show p.off + d * sz' + (p.tot - d) * sz' ≤ cs.size
        omega
      · rw [List.getElem?_drop] at c
        have := (hr (d + i) k x y c e).mono hle
        rw [Nat.add_mul] at this
        rw [show p.off + d * sz' + (i * sz' + k) = p.off + (d * sz' + i * sz' + k) by omega]
        exact this
    · rw [KW.place_other _ e] at a
      obtain ⟨_, _, b1⟩ := old _ _ _ e b
      exact (h.live s q sz' es1 a b1).mono hle (h.live s q sz' es1 a b1).free
  · by_cases e : s = H.length
    · have e' : s' ≠ H.length := fun c => n (e.trans c.symm)
      rw [e, KW.place_self] at a; cases a
      rw [KW.place_other _ e'] at a'
      obtain ⟨_, n', b1⟩ := old _ _ _ e' b'
      exact fun c => h.inj s' t q' p _ _ _ _ n' a' b1 hp hl c.symm
    · rw [KW.place_other _ e] at a
      obtain ⟨_, n1, b1⟩ := old _ _ _ e b
      by_cases e' : s' = H.length
      · rw [e', KW.place_self] at a'; cases a'
        exact h.inj s t q p _ _ _ _ n1 a b1 hp hl
      · rw [KW.place_other _ e'] at a'
        obtain ⟨_, n2, b2⟩ := old _ _ _ e' b'
        exact h.inj s s' q q' _ _ _ _ n a b1 a' b2
theorem Rel.extMoved {K : KW} {w : World} {H : AH} (h : Rel K w H) {t : Nat} {p : bK} (hp : K.pl t = some p) (o o' : aR) (q : bK) : Ext K H (K.place H.length q) (List.set H t o ++ [o']) :=
  ⟨KW.le_place (h.unplaced (Nat.le_refl _)), by simp, fun s a b => ⟨by rw [KW.place_other _ (Nat.ne_of_lt a)]; exact b, by
    rw [List.getElem?_append_left (by simpa using a), List.getElem?_set_ne]
    intro e; rw [e, b] at hp; cases hp⟩⟩
theorem Rel.frozen {K : KW} {w : World} {H : AH} (h : Rel K w H) {t sz : Nat} {es : List AV} {p : bK} (hp : K.pl t = some p) (hl : H[t]? = some (aR.live sz es)) :
    ∃ o, w.heap[p.b]? = some o ∧ Rel (K.freeze p.b o) w (List.set H t aR.dead) ∧ Ext K H (K.freeze p.b o) (List.set H t aR.dead) := by
  have L := h.live t p sz es hp hl
  obtain ⟨cs, T, hb, hs, hr⟩ := L.block
  have hle : K.le (K.freeze p.b (.cells cs T (0, 0))) := KW.le_freeze L.free
  have h' := h.kill t
  have old : ∀ s sz' es1, (List.set H t aR.dead)[s]? = some (aR.live sz' es1) → s ≠ t ∧ H[s]? = some (aR.live sz' es1) := fun s sz' es1 a => by
    have hst : s ≠ t := fun e => by rw [e, List.getElem?_set_self (h.dom t p hp)] at a; cases a
    rw [List.getElem?_set_ne (fun e => hst e.symm)] at a
    exact ⟨hst, a⟩
  refine ⟨_, hb, ⟨h'.dom, fun s q sz' es1 a b => ?_, h'.inj, fun b o a => ?_, h'.loops.step hle (fun b r a c => ?_) (fun b r a => a) (fun _ _ _ _ _ _ a b => ⟨a, b⟩), h'.io⟩, ⟨hle, by simp, (Ext.set hp .dead).abs⟩⟩
  rotate_right
  · have hne : b ≠ p.b := fun e => by rw [e, hb] at c; cases c
    show (if b = p.b then some _ else K.fz b) = none
    rw [if_neg hne]; exact a
  · obtain ⟨n, b1⟩ := old _ _ _ b
    refine (h.live s q sz' es1 a b1).mono hle ?_
    have := h.inj s t q p _ _ _ _ n a b1 hp hl
    simp [KW.freeze, this, (h.live s q sz' es1 a b1).free]
  · have a' : (if b = p.b then some (Obj.cells cs T (0, 0)) else K.fz b) = some o := a
    split at a'
    · rename_i e; cases a'; rw [e]; exact hb
    · exact h.fz b o a'
end Go.Eng
end
section
set_option linter.unusedVariables false
set_option linter.unusedSimpArgs false
namespace Go.Eng
open Go
inductive X where
  | t (n : Nat)
  | v (a : AV)
  deriving Inhabited
def ev (f : AF) : X → AV
  | .t n => f n
  | .v a => a
inductive AI where
  | mov (x : X)
  | pick (c a b : X)
  | bin (op : BinOp) (x y : X)
  | eqn (c : Nat) (neg : Bool) (x : X)
  | nilt (neg : Bool) (x : X)
  | eqb (neg : Bool) (x y : X)
  | eqa (neg : Bool) (ks : List Nat) (x y : X)
  | un (op : UnOp) (x : X)
  | conv (k : IntKind) (x : X)
  | box (sz : Nat) (x : X)
  | alloc (sz : Nat) (z : AV)
  | build (z : List AV) (parts : List (Nat × Nat × X))
  | bsl (sz len : Nat) (z : AV) (parts : List (Nat × X))
  | bslz (sz len : Nat) (z : AV) (parts : List (Nat × X))
  | load (ag : Bool) (sz : Nat) (x : X)
  | store (sz : Nat) (a x : X)
  | faddr (off : Nat) (x : X)
  | field (ag : Bool) (sz off : Nat) (x : X)
  | iaddr (sz : Nat) (x i : X)
  | sidx (x i : X)
  | slice (sz : Nat) (x : X) (lo hi mx : Option X)
  | sslice (x : X) (lo hi : Option X)
  | ext (x : X) (i : Nat)
  | nilc (x : X)
  | mkf (f : FuncId) (first captured : List X)
  | mki (t : TypeId) (x : X)
  | len (x : X)
  | slen (x : X)
  | mx (x : X) (xs : List X)
  | mn (x : X) (xs : List X)
  | app (sz bytes : Nat) (s x : X)
  | mks (sz bytes : Nat) (z : AV) (l c : X)
  | cap (x : X)
  | appz (sz bytes : Nat) (z : AV) (s x : X)
  | clr (sz : Nat) (z : AV) (x : X)
  | bad
  | call (f : FuncId) (xs : List X)
  | callv (x : X) (xs : List X)
  deriving Inhabited
def EV (g : (w : Nat) → BitVec w → BitVec w → BitVec w) (k : IntKind) (a b : Int) : Int := k.wrap ((g k.bits (BitVec.ofInt k.bits a) (BitVec.ofInt k.bits b)).toNat : Int)
def cK (op : BinOp) (x y : AV) : Option AV :=
  match x, y with
  | .int k a, .int k' b =>
    match op with
    | .shl => if b < 0 then none else some (.int k (k.wrap (a * 2 ^ (min b.toNat k.bits))))
    | .shr => if b < 0 then none else some (.int k (a.fdiv (2 ^ (min b.toNat k.bits))))
    | op => if k ≠ k' then none else
      match op with
      | .add => some (.int k (k.wrap (a + b)))
      | .sub => some (.int k (k.wrap (a - b)))
      | .mul => some (.int k (k.wrap (a * b)))
      | .quo => if b = 0 then none else some (.int k (k.wrap (a.tdiv b)))
      | .rem => if b = 0 then none else some (.int k (a.tmod b))
      | .eql => some (.bool (a == b))
      | .neq => some (.bool (a != b))
      | .lss => some (.bool (a < b))
      | .leq => some (.bool (a ≤ b))
      | .gtr => some (.bool (a > b))
      | .geq => some (.bool (a ≥ b))
      | .and => some (.int k (EV (fun _ x y => x &&& y) k a b))
      | .or => some (.int k (EV (fun _ x y => x ||| y) k a b))
      | .xor => some (.int k (EV (fun _ x y => x ^^^ y) k a b))
      | .andNot => some (.int k (EV (fun _ x y => x &&& ~~~y) k a b))
      | _ => none
  | .str a, .str b =>
    match op with
    | .eql => some (.bool (a.toList == b.toList))
    | .neq => some (.bool !(a.toList == b.toList))
    | .lss => some (.bool (Op.bytesLess a.toList b.toList))
    | .leq => some (.bool (Op.bytesLess a.toList b.toList || a.toList == b.toList))
    | .gtr => some (.bool !(Op.bytesLess a.toList b.toList || a.toList == b.toList))
    | .geq => some (.bool !(Op.bytesLess a.toList b.toList))
    | _ => none
  | _, _ => none
def TB : AV → Option Bool
  | .nilp => some true
  | .ptr .. | .lptr .. => some false
  | _ => none
def yF : AV → Option Bool
  | .nils => some true
  | .list _ (_ :: _) _ => some false
  | .ref _ _ _ n _ _ => if 0 < n then some false else none
  | _ => none
def TC : AV → Option Bool
  | .nilf => some true
  | .fn .. => some false
  | _ => none
def IQ (c : Nat) (x : AV) : Option Bool :=
  match c with
  | 0 => TB x
  | 1 => yF x
  | _ => TC x
def aun (op : UnOp) (x : AV) : Option AV :=
  match op, x with
  | .neg, .int k n => some (.int k (k.wrap (0 - n)))
  | .not, .bool b => some (.bool !b)
  | _, _ => none
def part (ag : Bool) (sz k : Nat) (e : AV) : Option AV :=
  if ag then (if k + sz ≤ (cells e).length then some (.agg (((cells e).drop k).take sz)) else none) else (cells e)[k]?
def obj? (H : AH) (t : Nat) : Option (Nat × List AV) :=
  match H[t]? with
  | some (.live sz es) => some (sz, es)
  | _ => none
def cG (ag : Bool) (sz : Nat) (p : AV) (H : AH) : Option AV :=
  match p with
  | .ptr t i k => (obj? H t).bind fun o => (o.2[i]?).bind fun e => part ag sz k e
  | .lptr _ l i k => (l[i]?).bind fun e => part ag sz k e
  | _ => none
def putl : List AV → Nat → List AV → List AV
  | cs, _, [] => cs
  | cs, k, x :: xs => putl (cs.set k x) (k + 1) xs
def kK (e : AV) (k : Nat) (xs : List AV) : AV :=
  match e with
  | .agg cs => .agg (putl cs k xs)
  | v => xs.getD 0 v
def fI (xs : List AV) : Bool := xs.all dH
def dS (sz : Nat) (p x : AV) (H : AH) : Option AH :=
  match p with
  | .ptr t i k => (obj? H t).bind fun o => (o.2[i]?).bind fun e =>
      if (cells x).length = sz ∧ k + sz ≤ (cells e).length ∧ fI (cells x) = true then some (H.set t (.live o.1 (o.2.set i (kK e k (cells x))))) else none
  | _ => none
def mL (off : Nat) (p : AV) : Option AV :=
  match p with
  | .ptr t i k => some (.ptr t i (k + off))
  | .lptr sz l i k => some (.lptr sz l i (k + off))
  | _ => none
def uL (ag : Bool) (sz off : Nat) (x : AV) : Option AV :=
  match x with
  | .agg cs => part ag sz off (.agg cs)
  | _ => none
def nat? (x : AV) : Option Nat :=
  match x with
  | .int _ n => if 0 ≤ n then some n.toNat else none
  | _ => none
def aF (sz : Nat) (x i : AV) : Option AV :=
  (nat? i).bind fun j =>
  match x with
  | .list sz' l _ => if sz' = sz ∧ j < l.length then some (.lptr sz l j 0) else none
  | .ref sz' t off n _ _ => if sz' = sz ∧ j < n then some (.ptr t (off + j) 0) else none
  | _ => none
def yG (x i : AV) : Option AV :=
  match x with
  | .str s => (nat? i).bind fun j => (s[j]?).map fun b => .int .u8 b.toNat
  | _ => none
def jR (f : AF) (x : Option X) (y d : Nat) : Option Nat :=
  match x with
  | none => some d
  | some x => (nat? (ev f x)).bind fun n => if n ≤ y then some n else none
def dT (f : AF) (sz : Nat) (x : AV) (lo hi mx : Option X) : Option AV :=
  match x with
  | .nils => (jR f mx 0 0).bind fun m => (jR f hi m 0).bind fun h => (jR f lo h 0).bind fun l => some .nils
  | .list sz' es ex => if sz' ≠ sz then none else
      (jR f mx es.length es.length).bind fun m => (jR f hi m es.length).bind fun h => (jR f lo h 0).bind fun l =>
        if h ≤ m then some (.list sz ((es.take h).drop l) (if mx.isSome then m == h else ex && h == es.length)) else none
  | .ref sz' t off n c ex => if sz' ≠ sz then none else
      (jR f mx c c).bind fun m => (jR f hi m n).bind fun h => (jR f lo h 0).bind fun l =>
        if h ≤ m then some (.ref sz t (off + l) (h - l) (m - l) (mx.isSome || ex)) else none
  | _ => none
def cZ : AV → Option Nat
  | .nils => some 0
  | .list _ l _ => some l.length
  | .ref _ _ _ n _ _ => some n
  | _ => none
def yH (x y : AV) : Option AV :=
  match x, y with
  | .int k a, .int _ b => some (.int k (if b > a then b else a))
  | _, _ => none
def yI (x y : AV) : Option AV :=
  match x, y with
  | .int k a, .int _ b => some (.int k (if b < a then b else a))
  | _, _ => none
def elems (sz : Nat) (x : AV) (H : AH) : Option (List AV) :=
  match x with
  | .nils => some []
  | .list sz' l _ => if sz' = sz then some l else none
  | .ref sz' t off n c _ => (obj? H t).bind fun o => if (sz' = sz ∧ o.1 = sz) ∧ off + n ≤ o.2.length ∧ n ≤ c then some ((o.2.drop off).take n) else none
  | _ => none
def fresh (H : AH) (sz : Nat) (es : List AV) (ex : Bool) : AV × AH := (.ref sz H.length 0 es.length es.length ex, H ++ [.live sz es])
def mM (sz bytes : Nat) (s x : AV) (H : AH) : Option (AV × AH) :=
  (elems sz x H).bind fun xs => (elems sz s H).bind fun ss =>
    if xs = [] then some (s, H) else
    if (ss.length + xs.length) * bytes ≤ 140737488355328 then
      match s with
      | .nils => some (fresh H sz xs false)
      | .list _ l ex => if ex then some (fresh H sz (l ++ xs) false) else none
      | .ref _ t off n c ex =>
        if n + xs.length ≤ c then
          (obj? H t).bind fun o => if off + n + xs.length ≤ o.2.length then
            some (.ref sz t off (n + xs.length) c ex, H.set t (.live sz (o.2.take (off + n) ++ xs ++ o.2.drop (off + n + xs.length)))) else none
        else if ex then some (fresh H sz (ss ++ xs) false)
        else some (fresh (H.set t .dead) sz (ss ++ xs) false)
      | _ => none
    else none
def cQ (len : Nat) (z : AV) : List AV := List.replicate len z
def putp (f : AF) : List AV → List (Nat × X) → List AV
  | es, [] => es
  | es, (i, x) :: r => putp f (es.set i (ev f x)) r
def fillc (f : AF) : List AV → List (Nat × Nat × X) → Option (List AV)
  | cs, [] => some cs
  | cs, (off, sz, x) :: r => if okc (ev f x) = true ∧ (cells (ev f x)).length = sz ∧ off + sz ≤ cs.length then fillc f (putl cs off (cells (ev f x))) r else none
def mA (g : AV → AV → Option AV) : AV → List AV → Option AV
  | x, [] => some x
  | x, y :: r => (g x y).bind fun z => mA g z r
def TD (k : Nat) (x y : AV) : Option Bool :=
  match k, x, y with
  | 0, .int k a, .int k' b => if k = k' then some (a == b) else none
  | 1, .bool a, .bool b => some (a == b)
  | 2, .str a, .str b => some (a.toList == b.toList)
  | _, _, _ => none
def JZ : List Nat → List AV → List AV → Option Bool
  | [], _, _ => some true
  | k :: ks, x :: xs, y :: ys => (TD k x y).bind fun b => if b then JZ ks xs ys else some false
  | _, _, _ => none
def SN : AV → Option Nat
  | .nils => some 0
  | .list _ l ex => if ex then some l.length else none
  | .ref _ _ _ _ c ex => if ex then some c else none
  | _ => none
def OM (sz : Nat) (z : AV) (x : AV) (H : AH) : Option AH :=
  match x with
  | .nils => some H
  | .list _ [] _ => some H
  | .ref sz' t off n c _ => if n = 0 then some H else if sz' = sz then (obj? H t).bind fun o => if o.1 = sz ∧ n ≤ c ∧ off + n ≤ o.2.length then some (H.set t (.live sz (o.2.take off ++ List.replicate n z ++ o.2.drop (off + n)))) else none else none
  | _ => none
def aH (i : AI) (f : AF) (H : AH) : Option (AV × AH) :=
  match i with
  | .mov x => some (ev f x, H)
  | .pick c a b => match ev f c with | .bool t => some (if t then ev f a else ev f b, H) | _ => none
  | .bin op x y => (cK op (ev f x) (ev f y)).map (·, H)
  | .eqn c neg x => (IQ c (ev f x)).map fun b => (.bool (b != neg), H)
  | .nilt neg x => (yF (ev f x)).map fun b => (.bool (b != neg), H)
  | .eqb neg x y => match ev f x, ev f y with | .bool a, .bool b => some (.bool ((a == b) != neg), H) | _, _ => none
  | .eqa neg ks x y => match ev f x, ev f y with | .agg xs, .agg ys => (JZ ks xs ys).map fun b => (.bool (b != neg), H) | _, _ => none
  | .un op x => (aun op (ev f x)).map (·, H)
  | .conv k x => match ev f x with | .int _ n => some (.int k (k.wrap n), H) | _ => none
  | .box sz x => if (cells (ev f x)).length = sz ∧ fI (cells (ev f x)) = true then some (.ptr H.length 0 0, H ++ [.live sz [ev f x]]) else none
  | .alloc sz z => some (.ptr H.length 0 0, H ++ [.live sz [z]])
  | .build z ps => (fillc f z ps).map fun cs => (.agg cs, H)
  | .bsl sz len z ps => if ps.all fun p => decide (p.1 < len) && ((cells (ev f p.2)).length == sz && fI (cells (ev f p.2))) then
      some (fresh H sz (putp f (cQ len z) ps) true) else none
  | .bslz sz len z ps => if ps.all fun p => decide (p.1 < len) && ((cells (ev f p.2)).length == sz && fI (cells (ev f p.2))) then
      some (.list sz (putp f (cQ len z) ps) false, H ++ [.dead]) else none
  | .load ag sz x => (cG ag sz (ev f x) H).map (·, H)
  | .store sz a x => (dS sz (ev f a) (ev f x) H).map (.undef, ·)
  | .faddr off x => (mL off (ev f x)).map (·, H)
  | .field ag sz off x => (uL ag sz off (ev f x)).map (·, H)
  | .iaddr sz x i => (aF sz (ev f x) (ev f i)).map (·, H)
  | .sidx x i => (yG (ev f x) (ev f i)).map (·, H)
  | .slice sz x lo hi mx => (dT f sz (ev f x) lo hi mx).map (·, H)
  | .sslice x lo hi => match ev f x with | .str s => (jR f hi s.size s.size).bind fun h => (jR f lo h 0).map fun l => (.str (s.extract l h), H) | _ => none
  | .ext x i => match ev f x with | .tup vs => (vs[i]?).map (·, H) | _ => none
  | .nilc x => match ev f x with | .ptr t i k => some (.ptr t i k, H) | .lptr sz l i k => some (.lptr sz l i k, H) | .fn g a b => some (.fn g a b, H) | _ => none
  | .mkf g a b => some (.fn g (a.map (ev f)) (b.map (ev f)), H)
  | .mki t x => some (.ifc t (ev f x), H)
  | .len x => (cZ (ev f x)).map fun (m : Nat) => (AV.int .i64 (m : Int), H)
  | .slen x => match ev f x with | .str s => some (AV.int .i64 (s.size : Int), H) | _ => none
  | .mx x xs => (mA yH (ev f x) (xs.map (ev f))).map (·, H)
  | .mn x xs => (mA yI (ev f x) (xs.map (ev f))).map (·, H)
  | .app sz bytes s x => mM sz bytes (ev f s) (ev f x) H
  | .mks sz bytes z l c => (nat? (ev f l)).bind fun n => (nat? (ev f c)).bind fun m => if n = m ∧ n * sz ≤ 16777216 ∧ n * bytes ≤ 140737488355328 ∧ n ≤ 140737488355328 then some (fresh H sz (cQ n z) true) else none
  | .cap x => (SN (ev f x)).map fun (m : Nat) => (AV.int .i64 (m : Int), H)
  | .appz sz bytes z s x => (nat? (ev f x)).bind fun n => if n * bytes ≤ 140737488355328 ∧ n ≤ 140737488355328 then (match ev f s with | .nils => some (if n = 0 then (.nils, H) else fresh H sz (cQ n z) false) | _ => none) else none
  | .clr sz z x => (OM sz z (ev f x) H).map (.tup [], ·)
  | .call .. | .callv .. | .bad => none
def emp : AV → Bool
  | .list _ [] _ => true
  | .ref _ _ _ n _ _ => n == 0
  | _ => false
def fJ : AI → Bool
  | .nilt .. => true
  | _ => false
end Go.Eng
end
section
set_option linter.unusedVariables false
set_option linter.unusedSimpArgs false
namespace Go.Eng
open Go
theorem Rel.looplt {K : KW} {w : World} {H : AH} (h : Rel K w H) {t : Nat} {p : bK} {f : AF} {lp : gG} {st : LoopState} {pd : Option AE} (a : K.pl t = some p) (b : H[t]? = some (aR.loop f lp st pd)) : p.b < w.heap.size := by
  obtain ⟨_, _, h1, _⟩ := (h.loops.loop t p f lp st pd a b).block
  exact (Array.getElem?_eq_some_iff.1 h1).1
theorem Rel.sizeFz {K : KW} {w : World} {H : AH} (h : Rel K w H) : K.fz w.heap.size = none := by
  cases e : K.fz w.heap.size with
  | none => rfl
  | some o => exact absurd (h.fzlt e) (Nat.lt_irrefl _)
theorem fX {w : World} {o : Obj} {b : Nat} (hb : b < w.heap.size) : (w.alloc o).heap[b]? = w.heap[b]? := by
  show (w.heap.push _)[b]? = w.heap[b]?
  rw [Array.getElem?_push, if_neg (Nat.ne_of_lt hb)]
theorem gH {w : World} {o : Obj} : (w.alloc o).heap[w.heap.size]? = some o := by
  show (w.heap.push _)[w.heap.size]? = some o
  simp
theorem Rel.allocLoop {K : KW} {w : World} {H : AH} (h : Rel K w H) {f : AF} {lp : gG} {tmps : Array Value} (d : Nat) (hn : tmps.size = lp.n) (hr : ∀ i, i < lp.n → RelV K (f i) (tmps.getD i Go.undef)) :
    Rel (K.place H.length ⟨w.heap.size, 0, 0, 0⟩) (w.alloc (.loop { state := .ready, pending := none, fn := lp.fn, tmps := tmps, params := lp.params, assign := lp.assign, body := lp.body, defers := d })) (H ++ [aR.loop f lp .ready none]) := by
  have hp : K.pl H.length = none := h.unplaced (Nat.le_refl _)
  have hle := KW.le_place (p := ⟨w.heap.size, 0, 0, 0⟩) hp
  have hw : ∀ b, b < w.heap.size → (w.alloc (.loop { state := .ready, pending := none, fn := lp.fn, tmps := tmps, params := lp.params, assign := lp.assign, body := lp.body, defers := d })).heap[b]? = w.heap[b]? := fun b hb => fX hb
  have old : ∀ (s : Nat) (p : bK) (o : aR), s ≠ H.length → (K.place H.length ⟨w.heap.size, 0, 0, 0⟩).pl s = some p → (H ++ [aR.loop f lp .ready none])[s]? = some o → K.pl s = some p ∧ H[s]? = some o := fun s p o n a b => by
    rw [KW.place_other _ n] at a
    exact ⟨a, by rwa [List.getElem?_append_left (h.dom s p a)] at b⟩
  have new : ∀ o, (H ++ [aR.loop f lp .ready none])[H.length]? = some o → o = aR.loop f lp .ready none := fun o b => by
    rw [List.getElem?_append_right (Nat.le_refl _), Nat.sub_self] at b
    exact (Option.some.inj b).symm
  refine ⟨fun s p a => ?_, fun s p sz es a b => ?_, fun s s' p p' sz es sz' es' n a b a' b' => ?_, fun b o a => (hw b (h.fzlt a)).trans (h.fz b o a), ⟨fun s p f' lp' st pd a b => ?_, fun s s' p p' f1 lp1 st1 pd1 f2 lp2 st2 pd2 n a b a' b' => ?_⟩, h.io⟩
  · by_cases e : s = H.length
    · simp [e]
    · rw [KW.place_other _ e] at a
      have := h.dom s p a
      simp; omega
  · by_cases e : s = H.length
    · rw [e] at b; cases new _ b
    · obtain ⟨c, c'⟩ := old _ _ _ e a b
      exact ((h.live s p sz es c c').mono hle (h.live s p sz es c c').free).world (hw _ (h.blt c c'))
  · by_cases e : s = H.length
    · rw [e] at b; cases new _ b
    · by_cases e' : s' = H.length
      · rw [e'] at b'; cases new _ b'
      · obtain ⟨c, d⟩ := old _ _ _ e a b
        obtain ⟨c', d'⟩ := old _ _ _ e' a' b'
        exact h.inj _ _ _ _ _ _ _ _ n c d c' d'
  · by_cases e : s = H.length
    · rw [e] at a b
      cases new _ b
      rw [KW.place_self] at a
      cases a
      exact ⟨h.sizeFz, tmps, d, gH, hn, fun i hi => (hr i hi).mono hle⟩
    · obtain ⟨c, c'⟩ := old _ _ _ e a b
      exact (h.loops.loop _ _ _ _ _ _ c c').step hle (fun _ _ x _ => x) (fun b r x => (hw b (Array.getElem?_eq_some_iff.1 x).1).trans x)
  · by_cases e : s = H.length
    · have e' : s' ≠ H.length := fun c => n (e.trans c.symm)
      rw [e, KW.place_self] at a; cases a
      obtain ⟨c, c'⟩ := old _ _ _ e' a' b'
      exact Nat.ne_of_gt (h.looplt c c')
    · obtain ⟨c, c'⟩ := old _ _ _ e a b
      by_cases e' : s' = H.length
      · rw [e', KW.place_self] at a'; cases a'
        exact Nat.ne_of_lt (h.looplt c c')
      · obtain ⟨d, d'⟩ := old _ _ _ e' a' b'
        exact h.loops.inj _ _ _ _ _ _ _ _ _ _ _ _ n c c' d d'
theorem Rel.setLoop {K : KW} {w w' : World} {H : AH} (h : Rel K w H) {t : Nat} {p : bK} {f : AF} {lp : gG} {st : LoopState} {pd : Option AE} (hp : K.pl t = some p) (hl : H[t]? = some (aR.loop f lp st pd)) {o : aR}
    (ho : o = .dead ∨ ∃ st' pd', o = .loop f lp st' pd' ∧ ∃ tmps d, w'.heap[p.b]? = some (Obj.loop { state := st', pending := pd'.map AE.code, fn := lp.fn, tmps := tmps, params := lp.params, assign := lp.assign, body := lp.body, defers := d }) ∧ tmps.size = lp.n ∧ ∀ i, i < lp.n → RelV K (f i) (tmps.getD i Go.undef))
    (hw : ∀ b, b ≠ p.b → w'.heap[b]? = w.heap[b]?) (hi : ioW w' = ioW w) : Rel K w' (List.set H t o) := by
  have L := h.loops.loop _ _ _ _ _ _ hp hl
  obtain ⟨_, _, h1, _⟩ := L.block
  have ht := h.dom t p hp
  have other : ∀ s, s ≠ t → (List.set H t o)[s]? = H[s]? := fun s n => List.getElem?_set_ne (Ne.symm n)
  have self : (List.set H t o)[t]? = some o := List.getElem?_set_self ht
  have olive : ∀ sz es, o ≠ .live sz es := fun sz es e => by
    rcases ho with rfl | ⟨_, _, rfl, _⟩ <;> cases e
  have lv : ∀ s sz es, (List.set H t o)[s]? = some (aR.live sz es) → s ≠ t ∧ H[s]? = some (aR.live sz es) := fun s sz es a => by
    have n : s ≠ t := fun e => by rw [e, self] at a; exact olive _ _ (Option.some.inj a)
    exact ⟨n, by rwa [other s n] at a⟩
  refine ⟨fun s q a => by rw [List.length_set]; exact h.dom s q a, fun s q sz es a b => ?_, fun s s' q q' sz es sz' es' n a b a' b' => h.inj _ _ _ _ _ _ _ _ n a (lv _ _ _ b).2 a' (lv _ _ _ b').2, fun b o' a => ?_, ⟨fun s q f' lp' st' pd' a b => ?_, fun s s' q q' f1 lp1 st1 pd1 f2 lp2 st2 pd2 n a b a' b' => ?_⟩, hi.trans h.io⟩
  · obtain ⟨n, b1⟩ := lv _ _ _ b
    have L' := h.live s q sz es a b1
    refine L'.world (hw _ fun e => ?_)
    obtain ⟨_, _, c1, _⟩ := L'.block
    rw [e, h1] at c1; cases c1
  · exact (hw b fun e => by rw [e, L.free] at a; cases a).trans (h.fz b o' a)
  · by_cases e : s = t
    · rw [e] at a b
      rw [self] at b
      rw [hp] at a; cases a
      rcases ho with rfl | ⟨st2, pd2, rfl, tm, d, g⟩
      · cases b
      · cases b; exact ⟨L.free, tm, d, g⟩
    · rw [other s e] at b
      have L' := h.loops.loop _ _ _ _ _ _ a b
      obtain ⟨tm, d, g1, g2, g3⟩ := L'.block
      exact ⟨L'.free, tm, d, (hw _ (h.loops.inj _ _ _ _ _ _ _ _ _ _ _ _ e a b hp hl)).trans g1, g2, g3⟩
  · have was : ∀ s q f lp' st' pd', K.pl s = some q → (List.set H t o)[s]? = some (aR.loop f lp' st' pd') → ∃ f lp st pd, H[s]? = some (aR.loop f lp st pd) := fun s q f lp' st' pd' a b => by
      by_cases e : s = t
      · rw [e]; exact ⟨_, _, _, _, hl⟩
      · rw [other s e] at b; exact ⟨_, _, _, _, b⟩
    obtain ⟨_, _, _, _, c⟩ := was _ _ _ _ _ _ a b
    obtain ⟨_, _, _, _, c'⟩ := was _ _ _ _ _ _ a' b'
    exact h.loops.inj _ _ _ _ _ _ _ _ _ _ _ _ n a c a' c'
theorem Rel.allocFz {K : KW} {w : World} {H : AH} (h : Rel K w H) (o : Obj) (ho : ∀ r, o ≠ .loop r) : Rel (K.freeze w.heap.size o) (w.alloc o) H := by
  have hle := KW.le_freeze (o := o) h.sizeFz
  have ne : ∀ b, b < w.heap.size → (K.freeze w.heap.size o).fz b = K.fz b := fun b hb => by
    show (if b = w.heap.size then some o else K.fz b) = K.fz b
    rw [if_neg (Nat.ne_of_lt hb)]
  refine ⟨h.dom, fun s p sz es a b => ?_, h.inj, fun b o' a => ?_, h.loops.step hle (fun b r a c => ?_) (fun b r a => (fX (Array.getElem?_eq_some_iff.1 a).1).trans a) (fun _ _ _ _ _ _ a b => ⟨a, b⟩), h.io⟩
  · have L := h.live s p sz es a b
    have hlt := h.blt a b
    exact (L.mono hle ((ne _ hlt).trans L.free)).world (fX hlt)
  · have a' : (if b = w.heap.size then some o else K.fz b) = some o' := a
    split at a'
    · rename_i e; cases a'; rw [e]; exact gH
    · exact (fX (h.fzlt a')).trans (h.fz b o' a')
  · exact (ne _ (Array.getElem?_eq_some_iff.1 c).1).trans a
def KW.drop (K : KW) (b : Nat) : KW := { K with fz := fun x => if x = b then none else K.fz x }
theorem RelV.drop {K : KW} {b : Nat} {o : Obj} (hb : K.fz b = some o) (ho : rV o = false) {x : AV} {v : Value} (r : RelV K x v) : RelV (K.drop b) x v :=
  RelV.mono' (K := K) (K' := K.drop b) (fun _ _ e => e) (fun b' o' e c => by
    show (if b' = b then none else K.fz b') = some o'
    rw [if_neg (fun e' => by rw [e', hb] at e; cases e; rw [ho] at c; cases c)]
    exact e) r
theorem Rel.drop {K : KW} {w w' : World} {H : AH} (h : Rel K w H) {b : Nat} {o : Obj} (hb : K.fz b = some o) (ho : rV o = false) (hw : ∀ b', b' ≠ b → w'.heap[b']? = w.heap[b']?) (hi : ioW w' = ioW w) : Rel (K.drop b) w' H := by
  refine ⟨h.dom, fun s p sz es a c => ?_, h.inj, fun b' o' a => ?_, ⟨fun s p f lp st pd a c => ?_, h.loops.inj⟩, hi.trans h.io⟩
  · have L := h.live s p sz es a c
    have hne : p.b ≠ b := fun e => by have := L.free; rw [e, hb] at this; cases this
    obtain ⟨cs, T, h1, h2, h3⟩ := L.block
    refine ⟨L.psz, L.len, ?_, L.fit, cs, T, (hw _ hne).trans h1, h2, fun i k x y d e => (h3 i k x y d e).drop hb ho⟩
    show (if p.b = b then none else K.fz p.b) = none
    rw [if_neg hne]; exact L.free
  · have a' : (if b' = b then none else K.fz b') = some o' := a
    split at a'
    · cases a'
    · rename_i e; exact (hw _ e).trans (h.fz _ _ a')
  · have L := h.loops.loop _ _ _ _ _ _ a c
    have hne : p.b ≠ b := fun e => by have := L.free; rw [e, hb] at this; cases this
    obtain ⟨tmps, d, h1, h2, h3⟩ := L.block
    refine ⟨?_, tmps, d, (hw _ hne).trans h1, h2, fun i hi => (h3 i hi).drop hb ho⟩
    show (if p.b = b then none else K.fz p.b) = none
    rw [if_neg hne]; exact L.free
def KW.rebase (K : KW) (n : Nat → Option Obj) : KW := { K with old := n }
theorem RelV.rebase {K : KW} {x : AV} {v : Value} (r : RelV K x v) (n : Nat → Option Obj) : RelV (K.rebase n) x v := RelV.mono' (K := K) (K' := K.rebase n) (fun _ _ e => e) (fun _ _ e _ => e) r
theorem Rel.rebase {K : KW} {w : World} {H : AH} (h : Rel K w H) (n : Nat → Option Obj) : Rel (K.rebase n) w H :=
  ⟨h.dom, fun s p sz es a b => by
    have L := h.live s p sz es a b
    obtain ⟨cs, T, h1, h2, h3⟩ := L.block
    exact ⟨L.psz, L.len, L.free, L.fit, cs, T, h1, h2, fun i k x y c d => (h3 i k x y c d).rebase n⟩, h.inj, h.fz,
   ⟨fun s p f lp st pd a b => by
    have L := h.loops.loop _ _ _ _ _ _ a b
    obtain ⟨tmps, d, h1, h2, h3⟩ := L.block
    exact ⟨L.free, tmps, d, h1, h2, fun i hi => (h3 i hi).rebase n⟩, h.loops.inj⟩, h.io⟩
theorem RelL.rebase {K : KW} {xs : List AV} {vs : List Value} (r : RelL K xs vs) (n : Nat → Option Obj) : RelL (K.rebase n) xs vs := ⟨r.1, fun i x v a b => (r.2 i x v a b).rebase n⟩
theorem Ext.freeze {K : KW} {H : AH} {b : Nat} {o : Obj} (h : K.fz b = none) : Ext K H (K.freeze b o) H := ⟨KW.le_freeze h, Nat.le_refl _, fun t a e => ⟨e, rfl⟩⟩
end Go.Eng
end
section
set_option linter.unusedVariables false
set_option linter.unusedSimpArgs false
namespace Go.Eng
open Go
def EW : Value → Option AV
  | .bool b => some (.bool b)
  | .int k n => some (.int k n)
  | .string s => some (.str s)
  | .pointer none => some .nilp
  | .slice none 0 0 => some .nils
  | .nilFunc => some .nilf
  | .nilIface => some .nili
  | _ => none
def EX : List Value → Option (List AV)
  | [] => some []
  | v :: r => (EW v).bind fun x => (EX r).map (x :: ·)
def uM : Value → Option AV
  | .agg cs => (EX cs.toList).map .agg
  | v => EW v
theorem pT {K : KW} {v : Value} {x : AV} (h : EW v = some x) : RelV K x v ∧ dH x = true := by
  unfold EW at h
  split at h <;> first | (cases h; exact ⟨by constructor, rfl⟩) | cases h
theorem pU {K : KW} : ∀ {vs : List Value} {xs : List AV}, EX vs = some xs → RelL K xs vs ∧ ∀ x ∈ xs, dH x = true
  | [], xs, h => by cases h; exact ⟨RelL.nil K, fun _ h => by cases h⟩
  | v :: r, xs, h => by
    simp only [EX, Option.bind_eq_some_iff, Option.map_eq_some_iff] at h
    obtain ⟨x, h1, ys, h2, rfl⟩ := h
    obtain ⟨a, b⟩ := pT (K := K) h1
    obtain ⟨c, d⟩ := pU (K := K) h2
    exact ⟨RelL.cons a c, fun y hy => by cases hy with | head => exact b | tail _ hy => exact d y hy⟩
theorem eK {K : KW} {v : Value} {x : AV} (h : uM v = some x) : RelV K x v ∧ ∀ y ∈ cells x, dH y = true := by
  unfold uM at h
  split at h
  · rename_i cs
    simp only [Option.map_eq_some_iff] at h
    obtain ⟨xs, h1, rfl⟩ := h
    obtain ⟨a, b⟩ := pU (K := K) h1
    obtain ⟨l, r⟩ := RelL.toD a
    exact ⟨.agg l r, b⟩
  · obtain ⟨a, b⟩ := pT (K := K) h
    refine ⟨a, fun y hy => ?_⟩
    cases x <;> simp [cells] at hy <;> first | (subst hy; exact b) | simp [dH] at b
def aM (n : Nat) : Operand → Option X
  | .tmp t => if t < n then some (.t t) else none
  | .const v => (uM v).map .v
  | .func f => some (.v (.fn f [] []))
  | .global _ => none
structure nF (K : KW) (ds : List Deferred) : Prop where
  mark : ∀ d ∈ ds, ∃ b, d = { target := .collected b, args := #[] } ∧ K.old b = none ∧ K.fz b = some (.deferred (some []))
  nodup : ds.Nodup
  old : ∀ b o, K.old b = some o → K.fz b = some o
theorem nF.nil {K : KW} (h : ∀ b o, K.old b = some o → K.fz b = some o) : nF K [] := ⟨fun d h => (by cases h), List.nodup_nil, h⟩
theorem nF.mono {K K' : KW} {ds : List Deferred} (h : nF K ds) (g : K.le K') : nF K' ds := ⟨fun d hd => by
  obtain ⟨b, h1, h2, h3⟩ := h.mark d hd
  exact ⟨b, h1, by rw [g.old]; exact h2, g.fz _ _ h3⟩, h.nodup, fun b o e => g.fz _ _ (h.old b o (by rw [← g.old]; exact e))⟩
structure gE (n : Nat) (K : KW) (f : AF) (a : Act) : Prop where
  size : a.tmps.size = n
  rel : ∀ i, i < n → RelV K (f i) (a.tmps.getD i Go.undef)
  defers : nF K a.defers
theorem gE.mono {n : Nat} {K K' : KW} {f : AF} {a : Act} (h : gE n K f a) (g : K.le K') : gE n K' f a := ⟨h.size, fun i hi => (h.rel i hi).mono g, h.defers.mono g⟩
theorem aJ {n : Nat} {K : KW} {f : AF} {a : Act} (hf : gE n K f a) {o : Operand} {x : X} (h : aM n o = some x) : RelV K (ev f x) (a.eval o) := by
  cases o with
  | tmp t =>
    simp only [aM] at h
    split at h
    · cases h; exact hf.rel t (by assumption)
    · cases h
  | const v =>
    simp only [aM, Option.map_eq_some_iff] at h
    obtain ⟨y, h1, rfl⟩ := h
    exact (eK h1).1
  | global g => cases h
  | func g => cases h; exact .fn rfl (fun i x h => by simp at h) rfl (fun i x h => by simp at h)
def dX (n : Nat) : List Operand → Option (List X)
  | [] => some []
  | o :: r => (aM n o).bind fun x => (dX n r).map (x :: ·)
theorem cN {n : Nat} {K : KW} {f : AF} {a : Act} (hf : gE n K f a) : ∀ {os : List Operand} {xs : List X}, dX n os = some xs → RelL K (xs.map (ev f)) (os.map a.eval)
  | [], xs, h => by cases h; exact RelL.nil K
  | o :: r, xs, h => by
    simp only [dX, Option.bind_eq_some_iff, Option.map_eq_some_iff] at h
    obtain ⟨x, h1, ys, h2, rfl⟩ := h
    exact RelL.cons (aJ hf h1) (cN hf h2)
def dA (n : Nat) : Option Operand → Option (Option X)
  | none => some none
  | some o => (aM n o).map some
def agg? (P : Program) (t : TypeId) : Option Bool :=
  match P.underlying t with
  | some (.struct _) | some (.array _ _) => some true
  | some _ => some false
  | none => none
def size? (P : Program) (t : TypeId) : Option Nat := (P.info? t).map (·.size)
def fieldsOf (P : Program) (t : TypeId) : Option (Array Field) :=
  match P.underlying t with
  | some (.struct fs) => some fs
  | _ => none
def elemOf? (P : Program) (t : TypeId) : Option TypeId :=
  match P.underlying t with
  | some (.slice e) => some e
  | _ => none
def zero? (P : Program) (t : TypeId) : Option AV := ((P.info? t).bind (·.zero)).bind uM
def fK (P : Program) (n : Nat) (fs : Array Field) : List (Nat × Operand) → Option (List (Nat × Nat × X))
  | [] => some []
  | (i, o) :: r => (fs[i]?).bind fun f => (size? P f.type).bind fun s => (aM n o).bind fun x => (fK P n fs r).map ((f.offset, s, x) :: ·)
def pV (n : Nat) : List (Nat × Operand) → Option (List (Nat × X))
  | [] => some []
  | (i, o) :: r => (aM n o).bind fun x => (pV n r).map ((i, x) :: ·)
def IR : Operand → Bool
  | .const (.pointer none) => true
  | _ => false
def yJ : Operand → Bool
  | .const (.slice none 0 0) => true
  | _ => false
def IU : Operand → Bool
  | .const .nilFunc => true
  | _ => false
def hO (c : Nat) (x : Operand) : Bool :=
  match c with
  | 0 => IR x
  | 1 => yJ x
  | _ => IU x
def gP (P : Program) (t : TypeId) : Option Nat :=
  match P.underlying t with
  | some (.pointer _) => some 0
  | some (.slice _) => some 1
  | some (.func ..) => some 2
  | _ => none
def uN (P : Program) : List Field → Nat → Option (List Nat)
  | [], _ => some []
  | f :: fs, i => if f.name ≠ "_" ∧ f.offset = i then
      (match P.underlying f.type with
      | some (.int _) => some 0
      | some .bool => some 1
      | some .string => some 2
      | _ => none).bind fun k => (uN P fs (i + 1)).map (k :: ·)
    else none
def flat? (P : Program) (t : TypeId) : Option (List Nat) :=
  if P.stoodInHeld t = false ∧ P.eqGuardType P.depth t = false then (fieldsOf P t).bind fun fs => uN P fs.toList 0 else none
def ON : BinOp → Bool
  | .eql | .neq => false
  | _ => true
def jS (c : Nat) (neg : Bool) (x : X) : AI := if c = 1 then .nilt neg x else .eqn c neg x
def rY (P : Program) (n : Nat) (op : BinOp) (t : TypeId) (x y : Operand) : Option AI :=
  if ON op then (aM n x).bind fun a => (aM n y).map fun b => .bin op a b else
  match P.underlying t with
  | some .bool => (aM n x).bind fun a => (aM n y).map fun b => .eqb (op == .neq) a b
  | some (.int _) | some .string => (aM n x).bind fun a => (aM n y).map fun b => .bin op a b
  | some (.struct _) => (flat? P t).bind fun ks => (aM n x).bind fun a => (aM n y).map fun b => .eqa (op == .neq) ks a b
  | _ => (gP P t).bind fun c => if hO c y then (aM n x).map (jS c (op == .neq)) else if hO c x then (aM n y).map (jS c (op == .neq)) else none
def nG (P : Program) (n : Nat) (c : Call) : Option AI :=
  match c.callee with
  | .value (.func g) => (dX n c.args.toList).map (.call g)
  | .value x => (aM n x).bind fun a => (dX n c.args.toList).map (.callv a)
  | .builtin .len => match c.args.toList with
    | [x] => match (c.argTypes[0]?).bind P.underlying with
      | some .string => (aM n x).map .slen
      | some (.slice _) => (aM n x).map .len
      | _ => none
    | _ => none
  | .builtin .max => match c.args.toList with
    | x :: r => (aM n x).bind fun a => (dX n r).map (.mx a)
    | _ => none
  | .builtin .min => match c.args.toList with
    | x :: r => (aM n x).bind fun a => (dX n r).map (.mn a)
    | _ => none
  | .builtin .append => match c.args.toList, c.argTypes.toList with
    | [s, x], [ts, tx] => match P.underlying tx with
      | some (.int _) => (elemOf? P ts).bind fun e => (P.info? e).bind fun i => (i.zero.bind uM).bind fun z =>
        if (cells z).length = i.size ∧ (0 < i.bytes ∧ 0 < i.size) then (aM n s).bind fun a => (aM n x).map fun b => .appz i.size i.bytes z a b else none
      | _ => (elemOf? P ts).bind fun e => (elemOf? P tx).bind fun _ => (P.info? e).bind fun i => (i.zero.bind uM).bind fun z =>
        if (cells z).length = i.size ∧ 0 < i.bytes then (aM n s).bind fun a => (aM n x).map fun b => .app i.size i.bytes a b else none
    | _, _ => none
  | .builtin .cap => match c.args.toList, c.argTypes.toList with
    | [x], [t] => (elemOf? P t).bind fun _ => (aM n x).map .cap
    | _, _ => none
  | .builtin .clear => match c.args.toList, c.argTypes.toList with
    | [x], [t] => (elemOf? P t).bind fun e => (P.info? e).bind fun i => (i.zero.bind uM).bind fun z =>
        if i.size = 1 ∧ dH z = true then (aM n x).map (.clr 1 z) else none
    | _, _ => none
  | _ => none
def kL (P : Program) (n : Nat) (o : Oper) : Option AI :=
  match o.op with
  | .move x | .assign x => (aM n x).map .mov
  | .pick c a b => (aM n c).bind fun c => (aM n a).bind fun a => (aM n b).map fun b => .pick c a b
  | .alloc e => (size? P e).bind fun s => (zero? P e).bind fun z => if (cells z).length = s then some (.alloc s z) else none
  | .box e x => (aM n x).bind fun a => (size? P e).map fun s => .box s a
  | .build t ps => (fieldsOf P t).bind fun fs => (zero? P t).bind fun z => if fs.toList.all (fun fd => (size? P fd.type).isSome) then (fK P n fs ps.toList).map fun qs => .build (cells z) qs else none
  | .buildSlice t len ps => (elemOf? P t).bind fun e => (P.info? e).bind fun i => (i.zero.bind uM).bind fun z =>
      if (cells z).length = i.size ∧ 0 < i.size ∧ len * i.size ≤ 16777216 then (pV n ps.toList).map fun qs => .bsl i.size len z qs else none
  | .load t a => (aM n a).bind fun x => (agg? P t).bind fun g => (size? P t).map fun s => .load g s x
  | .store t a x => (aM n a).bind fun p => (aM n x).bind fun y => (size? P t).map fun s => .store s p y
  | .fieldAddr s x k => (fieldsOf P s).bind fun fs => (fs[k]?).bind fun f => (size? P f.type).bind fun z => if z = 0 then none else (aM n x).map (.faddr f.offset)
  | .field s x k => (fieldsOf P s).bind fun fs => (fs[k]?).bind fun f => (size? P f.type).bind fun z => (agg? P f.type).bind fun g => (aM n x).map (.field g z f.offset)
  | .indexAddr t x i => (elemOf? P t).bind fun e => (size? P e).bind fun s => (aM n x).bind fun a => (aM n i).map (.iaddr s a)
  | .index t x i => match P.underlying t with
    | some .string => (aM n x).bind fun a => (aM n i).map (.sidx a)
    | _ => none
  | .slice t x lo hi mx => match P.underlying t with
    | some (.slice e) => (size? P e).bind fun s => (aM n x).bind fun a => (dA n lo).bind fun l => (dA n hi).bind fun h => (dA n mx).bind fun m =>
        if m.isSome && h.isNone then none else some (.slice s a l h m)
    | some .string => (aM n x).bind fun a => (dA n lo).bind fun l => (dA n hi).bind fun h => if mx.isSome then none else some (.sslice a l h)
    | _ => none
  | .makeSlice t l c => (elemOf? P t).bind fun e => (P.info? e).bind fun i => (i.zero.bind uM).bind fun z =>
      if (cells z).length = i.size ∧ (0 < i.size ∧ 0 < i.bytes) then (aM n l).bind fun a => (aM n c).map fun b => .mks i.size i.bytes z a b else none
  | .extract x i => (aM n x).map (.ext · i)
  | .nilCheck x => (aM n x).map .nilc
  | .makeFunc (.func g) a b => (dX n a.toList).bind fun as0 => (dX n b.toList).map (.mkf g as0)
  | .makeInterface t x => match P.underlying t with
    | some (.interface _) | none => none
    | some _ => (aM n x).map (.mki t)
  | .unOp op _ x => (aM n x).map (.un op)
  | .convert s d x => match P.underlying s, P.underlying d with
    | some (.int _), some (.int k) => (aM n x).map (.conv k)
    | _, _ => none
  | .binOp op t x y _ => rY P n op t x y
  | .call c => nG P n c
  | _ => none
def compOp' (P : Program) (n : Nat) (o : Oper) : AI := (kL P n o).getD .bad
end Go.Eng
end
section
set_option linter.unusedVariables false
set_option linter.unusedSimpArgs false
namespace Go.Eng
open Go
def dN (P : Program) (o : Oper) (a : Act) (w : World) (v : Value) (w' : World) : Prop := (execOp a.eval o).run P w = .ok (.value v) w'
def cH (P : Program) (n : Nat) (o : Oper) (i : AI) : Prop :=
  ∀ K w H f a v H', gE n K f a → Rel K w H → aH i f H = some (v, H') → H' = H ∧ ∃ cv, dN P o a w cv w ∧ RelV K v cv
theorem kM {w : World} {b k : Nat} {cs : Array Value} {T : TypeId} {fr : Nat × Nat} (h : w.heap[b]? = some (.cells cs T fr)) (hk : k < cs.size) : w.cell? ⟨b, k, none⟩ = some (cs.getD k Go.undef) := by
  simp [World.cell?, h, Array.getD_eq_getD_getElem?, hk]
theorem size?_some {P : Program} {t : TypeId} {s : Nat} (h : size? P t = some s) : ∃ i, P.info? t = some i ∧ i.size = s := by
  simpa [size?, Option.map_eq_some_iff] using h
theorem run_size? {P : Program} {w : World} {t : TypeId} {s : Nat} (h : size? P t = some s) : (sizeOf t).run P w = .ok s w := by
  obtain ⟨i, h1, rfl⟩ := size?_some h
  simp [sizeOf, typeInfo, h1]
theorem run_agg? {P : Program} {w : World} {t : TypeId} {b : Bool} (h : agg? P t = some b) : (isAgg t).run P w = .ok b w := by
  unfold agg? at h
  split at h
  all_goals first | (rename_i e; cases h; simp [isAgg, run_underlying e]) | (rename_i h1 h2; cases h; simp [isAgg, run_underlying h2]) | cases h
theorem bQ {P : Program} {t : TypeId} {fs : Array Field} (h : fieldsOf P t = some fs) : P.underlying t = some (.struct fs) := by
  unfold fieldsOf at h
  split at h
  · rename_i e; cases h; exact e
  · cases h
theorem aV {P : Program} {t e : TypeId} (h : elemOf? P t = some e) : P.underlying t = some (.slice e) := by
  unfold elemOf? at h
  split at h
  · rename_i e; cases h; exact e
  · cases h
theorem pW {P : Program} {n : Nat} {o : Oper} {x : Operand} (ho : o.op = .move x ∨ o.op = .assign x) {i : AI} (hc : (aM n x).map AI.mov = some i) : cH P n o i := by
  simp only [Option.map_eq_some_iff] at hc
  obtain ⟨y, h1, rfl⟩ := hc
  intro K w H f a v H' hf hr he
  cases he
  refine ⟨rfl, a.eval x, ?_, aJ hf h1⟩
  rcases ho with ho | ho <;> simp [dN, execOp, ho]
theorem vU {P : Program} {n : Nat} {o : Oper} {c x y : Operand} (ho : o.op = .pick c x y) {c' x' y' : X} (h1 : aM n c = some c') (h2 : aM n x = some x') (h3 : aM n y = some y') : cH P n o (.pick c' x' y') := by
  intro K w H f a v H' hf hr he
  have r1 := aJ hf h1
  have r2 := aJ hf h2
  have r3 := aJ hf h3
  simp only [aH] at he
  split at he
  · rename_i t e
    rw [e] at r1
    generalize hcv : a.eval c = cv at r1
    cases r1
    cases he
    refine ⟨rfl, if t then a.eval x else a.eval y, by simp [dN, execOp, ho, hcv, asBool], by cases t <;> simp [r2, r3]⟩
  · cases he
theorem yK {P : Program} {n : Nat} {o : Oper} {x : Operand} {k : Nat} (ho : o.op = .extract x k) {x' : X} (h1 : aM n x = some x') : cH P n o (.ext x' k) := by
  intro K w H f a v H' hf hr he
  have r1 := aJ hf h1
  simp only [aH] at he
  split at he
  · rename_i vs e
    rw [e] at r1
    generalize hcv : a.eval x = cv at r1
    cases r1 with
    | tup hl hr' =>
      rename_i ds
      simp only [Option.map_eq_some_iff] at he
      obtain ⟨u, h2, h3⟩ := he
      cases h3
      have hk := (List.getElem?_eq_some_iff.1 h2).1
      refine ⟨rfl, ds.getD k Go.undef, ?_, hr' k _ h2⟩
      have hk' : k < ds.size := by omega
      simp [dN, execOp, ho, hcv, Instr.extract, hk', Array.getD_eq_getD_getElem?]
  · cases he
theorem vV {P : Program} {n : Nat} {o : Oper} {x : Operand} (ho : o.op = .nilCheck x) {x' : X} (h1 : aM n x = some x') : cH P n o (.nilc x') := by
  intro K w H f a v H' hf hr he
  have r1 := aJ hf h1
  simp only [aH] at he
  generalize hcv : a.eval x = cv at r1
  split at he <;> first | cases he; done | (rename_i e; rw [e] at r1; cases he; refine ⟨rfl, cv, ?_, r1⟩; cases r1 <;> simp [dN, execOp, ho, hcv])
theorem yL {P : Program} {n : Nat} {o : Oper} {g : FuncId} {x y : Array Operand} (ho : o.op = .makeFunc (.func g) x y) {x' y' : List X} (h1 : dX n x.toList = some x') (h2 : dX n y.toList = some y') : cH P n o (.mkf g x' y') := by
  intro K w H f a v H' hf hr he
  have r1 := cN hf h1
  have r2 := cN hf h2
  cases he
  refine ⟨rfl, .func (.func g) (x.map a.eval) (y.map a.eval), by simp [dN, execOp, ho, Instr.makeFunc], ?_⟩
  have e1 : (x.map a.eval).toList = x.toList.map a.eval := by simp
  have e2 : (y.map a.eval).toList = y.toList.map a.eval := by simp
  rw [← e1] at r1
  rw [← e2] at r2
  obtain ⟨a1, a2⟩ := RelL.toD r1
  obtain ⟨b1, b2⟩ := RelL.toD r2
  exact .fn a1 a2 b1 b2
theorem yM {P : Program} {n : Nat} {o : Oper} {t : TypeId} {x : Operand} (ho : o.op = .makeInterface t x) {d : TypeDesc} (hd : P.underlying t = some d) (hn : ∀ ms, d ≠ .interface ms) {x' : X} (h1 : aM n x = some x') : cH P n o (.mki t x') := by
  intro K w H f a v H' hf hr he
  cases he
  refine ⟨rfl, .iface t (a.eval x), ?_, .ifc (aJ hf h1)⟩
  simp only [dN, execOp, ho, Instr.makeInterface, Sem.run_bind, run_underlying hd, Result.andThen_ok]
  cases d <;> first | rfl | exact absurd rfl (hn _)
theorem vW {P : Program} {n : Nat} {o : Oper} {s d : TypeId} {ks k : IntKind} {x : Operand} (ho : o.op = .convert s d x) (hs : P.underlying s = some (.int ks)) (hd : P.underlying d = some (.int k)) {x' : X} (h1 : aM n x = some x') : cH P n o (.conv k x') := by
  intro K w H f a v H' hf hr he
  have r1 := aJ hf h1
  simp only [aH] at he
  split at he
  · rename_i e
    rw [e] at r1
    generalize hcv : a.eval x = cv at r1
    cases r1
    cases he
    exact ⟨rfl, _, by simp [dN, execOp, ho, hcv, convert, run_underlying hs, run_underlying hd, Conv.intToInt], .int _ _⟩
  · cases he
theorem EY {P : Program} {n : Nat} {o : Oper} {op : UnOp} {t : TypeId} {x : Operand} (ho : o.op = .unOp op t x) {x' : X} (h1 : aM n x = some x') : cH P n o (.un op x') := by
  intro K w H f a v H' hf hr he
  have r1 := aJ hf h1
  simp only [aH, Option.map_eq_some_iff] at he
  obtain ⟨u, h2, h3⟩ := he
  cases h3
  refine ⟨rfl, ?_⟩
  unfold aun at h2
  generalize hcv : a.eval x = cv at r1
  split at h2
  · rename_i e
    rw [e] at r1
    cases r1; cases h2
    exact ⟨_, by simp [dN, execOp, ho, hcv, Op.unary, Op.intArith], .int _ _⟩
  · rename_i e
    rw [e] at r1
    cases r1; cases h2
    exact ⟨_, by simp [dN, execOp, ho, hcv, Op.unary], .bool _⟩
  · cases h2
end Go.Eng
end
section
set_option linter.unusedVariables false
set_option linter.unusedSimpArgs false
namespace Go.Eng
open Go
theorem OO {P : Program} {K : KW} {w : World} {op : BinOp} {t : TypeId} {x y : Operand} {p q : AV} {cp cq : Value} {v : AV}
    (r1 : RelV K p cp) (r2 : RelV K q cq) (h : cK op p q = some v) : ∃ cv, (do eqGuard op t x y cp cq; binOp op t cp cq : Sem Value).run P w = .ok cv w ∧ RelV K v cv := by
  unfold cK at h
  split at h
  · rename_i k a k' b
    cases r1; cases r2
    split at h
    · split at h
      · cases h
      · rename_i hn
        cases h
        exact ⟨_, by simp [eqGuard_shl, binOp, Op.shift, hn], .int _ _⟩
    · split at h
      · cases h
      · rename_i hn
        cases h
        exact ⟨_, by simp [eqGuard_shr, binOp, Op.shift, hn], .int _ _⟩
    · split at h
      · cases h
      · rename_i h1 h2 hk
        have hk' : k = k' := Classical.byContradiction hk
        subst hk'
        split at h
        all_goals first
          | (cases h; refine ⟨_, ?_, .int _ _⟩; simp [eqGuard_at_int, binOp, Op.intArith, Op.intCmp]; done)
          | (cases h; refine ⟨_, ?_, .bool _⟩; simp [eqGuard_at_int, binOp, Op.intArith, Op.intCmp]; done)
          | (cases h; refine ⟨_, ?_, .int _ _⟩; simp [eqGuard_at_int, binOp]; rfl)
          | (split at h; · cases h
             rename_i hn; cases h; exact ⟨_, by simp [eqGuard_at_int, binOp, Op.intDiv, hn], .int _ _⟩)
          | cases h
  · rename_i a b
    cases r1; cases r2
    split at h
    all_goals first
      | (cases h; exact ⟨_, by simp [eqGuard_at_string, binOp, Op.stringOp], .bool _⟩)
      | cases h
  · cases h
theorem kN {P : Program} {n : Nat} {o : Oper} {op : BinOp} {t yt : TypeId} {x y : Operand} (ho : o.op = .binOp op t x y yt) {x' y' : X} (h1 : aM n x = some x') (h2 : aM n y = some y') : cH P n o (.bin op x' y') := by
  intro K w H f a v H' hf hr he
  simp only [aH, Option.map_eq_some_iff] at he
  obtain ⟨u, h3, h4⟩ := he
  cases h4
  obtain ⟨cv, e, r⟩ := OO (P := P) (w := w) (t := t) (x := x) (y := y) (aJ hf h1) (aJ hf h2) h3
  exact ⟨rfl, cv, by simp only [Sem.run_bind] at e; simp only [dN, execOp, ho, Sem.run_bind, e, Result.andThen_ok, Sem.run_pure], r⟩
theorem yN {P : Program} {n : Nat} {o : Oper} {op : BinOp} {t yt : TypeId} {x y : Operand} (hop : op = .eql ∨ op = .neq) (ht : P.underlying t = some .bool) (ho : o.op = .binOp op t x y yt) {x' y' : X} (h1 : aM n x = some x') (h2 : aM n y = some y') : cH P n o (.eqb (op == .neq) x' y') := by
  intro K w H f a v H' hf hr he
  have r1 := aJ hf h1
  have r2 := aJ hf h2
  simp only [aH] at he
  split at he
  · rename_i p q e1 e2
    rw [e1] at r1; rw [e2] at r2
    generalize hcx : a.eval x = cx at r1
    generalize hcy : a.eval y = cy at r2
    cases r1; cases r2; cases he
    refine ⟨rfl, .bool ((p == q) != (op == .neq)), ?_, .bool _⟩
    rcases hop with rfl | rfl
    · simp [dN, execOp, ho, hcx, hcy, eqGuard_at_bool, binOp, Op.equal, Op.maxDepth, run_equalIn_bool' w _ t p q ht]
      rw [show (BinOp.eql == BinOp.neq) = false from rfl]; simp
    · simp [dN, execOp, ho, hcx, hcy, eqGuard_at_bool, binOp, Op.equal, Op.maxDepth, run_equalIn_bool' w _ t p q ht]
  · cases he
theorem pX {P : Program} {K : KW} {w : World} (d : Nat) {xs ys : List AV} {cx cy : Array Value} (h1 : ∀ i x, xs[i]? = some x → RelV K x (cx.getD i Go.undef)) (h2 : ∀ i x, ys[i]? = some x → RelV K x (cy.getD i Go.undef)) (l1 : xs.length = cx.size) (l2 : ys.length = cy.size) :
    ∀ (fs : List Field) (i : Nat) (ks : List Nat) (b : Bool), uN P fs i = some ks → JZ ks (xs.drop i) (ys.drop i) = some b → (Op.eqFields (d + 1) cx cy fs).run P w = .ok b w := by
  intro fs
  induction fs with
  | nil =>
    intro i ks b h he
    cases h; cases he
    simp [Op.eqFields]
  | cons f fs ih =>
    intro i ks b h he
    simp only [uN] at h
    split at h
    · rename_i hn
      simp only [Option.bind_eq_some_iff, Option.map_eq_some_iff] at h
      obtain ⟨k, hk, ks', hks, rfl⟩ := h
      cases hx : xs.drop i with
      | nil => rw [hx] at he; cases hy : ys.drop i <;> rw [hy] at he <;> cases he
      | cons x xt =>
        cases hy : ys.drop i with
        | nil => rw [hx, hy] at he; cases he
        | cons y yt =>
          rw [hx, hy] at he
          simp only [JZ, Option.bind_eq_some_iff] at he
          obtain ⟨b1, e1, e2⟩ := he
          have gx : xs[i]? = some x := by
            have := congrArg (·[0]?) hx
            simpa using this
          have gy : ys[i]? = some y := by
            have := congrArg (·[0]?) hy
            simpa using this
          have hix : i < cx.size := by have := (List.getElem?_eq_some_iff.1 gx).1; omega
          have hiy : i < cy.size := by have := (List.getElem?_eq_some_iff.1 gy).1; omega
          have tx : xs.drop (i + 1) = xt := by rw [← List.drop_drop, hx]; rfl
          have ty : ys.drop (i + 1) = yt := by rw [← List.drop_drop, hy]; rfl
          have r1 := h1 i x gx
          have r2 := h2 i y gy
          have ag : (isAgg f.type).run P w = .ok false w := by
            split at hk <;> first | (rename_i hu; simp [isAgg, run_underlying hu]) | cases hk
          have p1 : (_root_.Go.part f.type cx f.offset).run P w = .ok (cx.getD i Go.undef) w := by
            simp only [_root_.Go.part, Sem.run_bind, ag, Result.andThen_ok, Bool.false_eq_true, if_false, hn.2]
            simp [Array.getD_eq_getD_getElem?, hix]
          have p2 : (_root_.Go.part f.type cy f.offset).run P w = .ok (cy.getD i Go.undef) w := by
            simp only [_root_.Go.part, Sem.run_bind, ag, Result.andThen_ok, Bool.false_eq_true, if_false, hn.2]
            simp [Array.getD_eq_getD_getElem?, hiy]
          have p3 : (Op.equalIn (d + 1) f.type (cx.getD i Go.undef) (cy.getD i Go.undef)).run P w = .ok b1 w := by
            generalize cx.getD i Go.undef = vx at r1
            generalize cy.getD i Go.undef = vy at r2
            unfold TD at e1
            split at e1
            · split at e1
              · rename_i hkk; cases e1; subst hkk; cases r1; cases r2
                split at hk <;> first | (rename_i hu; exact run_equalIn_int w _ _ _ _ _ _ hu) | cases hk
              · cases e1
            · cases e1; cases r1; cases r2
              split at hk <;> first | (rename_i hu; exact run_equalIn_bool' w _ _ _ _ hu) | cases hk
            · cases e1; cases r1; cases r2
              split at hk <;> first | (rename_i hu; exact run_equalIn_string w _ _ _ _ hu) | cases hk
            · cases e1
          simp only [Op.eqFields, if_pos hn.1, Sem.run_bind, p1, p2, p3, Result.andThen_ok]
          cases b1 with
          | false => simp at e2; subst e2; simp
          | true =>
            simp only [if_true] at e2
            simp only [Bool.not_true, Bool.false_eq_true, if_false]
            exact ih (i + 1) ks' b hks (by rw [tx, ty]; exact e2)
    · cases h
theorem yO {P : Program} {n : Nat} {o : Oper} {op : BinOp} {t yt : TypeId} {x y : Operand} (hop : op = .eql ∨ op = .neq) {ks : List Nat} (ht : flat? P t = some ks) (ho : o.op = .binOp op t x y yt) {x' y' : X} (h1 : aM n x = some x') (h2 : aM n y = some y') : cH P n o (.eqa (op == .neq) ks x' y') := by
  intro K w H f a v H' hf hr he
  have r1 := aJ hf h1
  have r2 := aJ hf h2
  unfold flat? at ht
  split at ht
  · rename_i hh
    simp only [Option.bind_eq_some_iff] at ht
    obtain ⟨fs, hfs, hfl⟩ := ht
    have hu := bQ hfs
    have hfo : P.fieldsOf t = fs := by simp [Program.fieldsOf, hu]
    simp only [aH] at he
    split at he
    · rename_i p q e1 e2
      rw [e1] at r1; rw [e2] at r2
      generalize hcx : a.eval x = cx at r1
      generalize hcy : a.eval y = cy at r2
      cases r1 with
      | agg l1 g1 =>
        rename_i cx
        cases r2 with
        | agg l2 g2 =>
          rename_i cy
          simp only [Option.map_eq_some_iff] at he
          obtain ⟨b, e3, e4⟩ := he
          cases e4
          have hq := pX (P := P) (w := w) 9998 g1 g2 l1 l2 fs.toList 0 ks b hfl (by simpa using e3)
          have hs := run_equalIn_struct (P := P) w 9999 t cx cy (by rw [hfo]; exact hu) hh.1
          rw [hfo, hq] at hs
          have hg := fun op => run_eqGuard_agg (P := P) w op t x y cx cy hh.2
          refine ⟨rfl, .bool (b != (op == .neq)), ?_, .bool _⟩
          rcases hop with rfl | rfl
          · have := run_eql_struct (P := P) w t cx cy
            rw [hs] at this
            simp only [dN, execOp, ho, hcx, hcy, Sem.run_bind, hg, this, Result.andThen_ok, Sem.run_pure]
            rw [show (BinOp.eql == BinOp.neq) = false from rfl]; simp
          · have := run_neq_struct (P := P) w t cx cy
            rw [hs] at this
            simp only [dN, execOp, ho, hcx, hcy, Sem.run_bind, hg, this, Result.andThen_ok, Sem.run_pure]
            rw [show (BinOp.neq == BinOp.neq) = true from rfl]; simp
    · cases he
  · cases ht
theorem jZ (t : TypeId) (x y : Value) (hx : (∃ p, x = .pointer p) ∨ (∃ a b c, x = .slice a b c) ∨ x = .nilFunc ∨ ∃ f a b, x = .func f a b) (hy : (∃ p, y = .pointer p) ∨ (∃ a b c, y = .slice a b c) ∨ y = .nilFunc ∨ ∃ f a b, y = .func f a b) :
    (∀ (op : BinOp) (u v : Operand), eqGuard op t u v x y = pure ()) ∧ binOp .eql t x y = (do pure (.bool (← Op.equal t x y))) ∧ binOp .neq t x y = (do pure (.bool (!(← Op.equal t x y)))) := by
  rcases hx with ⟨p, rfl⟩ | ⟨a, b, c, rfl⟩ | rfl | ⟨f, a, b, rfl⟩ <;> rcases hy with ⟨q, rfl⟩ | ⟨a', b', c', rfl⟩ | rfl | ⟨f', a', b', rfl⟩ <;>
    exact ⟨fun op u v => by cases op <;> rfl, rfl, rfl⟩
theorem hY {P : Program} {w : World} {t e : TypeId} (he : P.underlying t = some (.pointer e)) (p : Option Addr) : (Op.equal t (.pointer p) (.pointer none)).run P w = .ok p.isNone w ∧ (Op.equal t (.pointer none) (.pointer p)).run P w = .ok p.isNone w := by
  constructor <;> unfold Op.equal Op.maxDepth <;> rw [Op.equalIn] <;> simp only [Sem.run_bind, run_underlying he, Result.andThen_ok] <;> cases p <;> rfl
theorem cS {P : Program} {w : World} {t e : TypeId} (he : P.underlying t = some (.slice e)) (p : Option Addr) (n c : Nat) : (Op.equal t (.slice p n c) (.slice none 0 0)).run P w = .ok p.isNone w ∧ (Op.equal t (.slice none 0 0) (.slice p n c)).run P w = .ok p.isNone w := by
  constructor <;> unfold Op.equal Op.maxDepth <;> rw [Op.equalIn] <;> simp only [Sem.run_bind, run_underlying he, Result.andThen_ok] <;> cases p <;> rfl
theorem dI {P : Program} {w : World} {t : TypeId} {x y : Array TypeId} {z : Bool} (he : P.underlying t = some (.func x y z)) (f : Fn) (a b : Array Value) : (Op.equal t (.func f a b) .nilFunc).run P w = .ok false w ∧ (Op.equal t .nilFunc (.func f a b)).run P w = .ok false w ∧ (Op.equal t .nilFunc .nilFunc).run P w = .ok true w := by
  refine ⟨?_, ?_, ?_⟩ <;> unfold Op.equal Op.maxDepth <;> rw [Op.equalIn] <;> simp only [Sem.run_bind, run_underlying he, Result.andThen_ok] <;> rfl
theorem pY {P : Program} {K : KW} {w : World} {t : TypeId} {c : Nat} {p : AV} {cp cn : Value} {b : Bool} (hk : gP P t = some c) (r : RelV K p cp) (h : IQ c p = some b) {z : Operand} {a : Act} (hz : hO c z = true) (hcn : a.eval z = cn) :
    (Op.equal t cp cn).run P w = .ok b w ∧ (Op.equal t cn cp).run P w = .ok b w ∧ ((∃ p, cp = .pointer p) ∨ (∃ a b c, cp = .slice a b c) ∨ cp = .nilFunc ∨ ∃ f a b, cp = .func f a b) ∧ ((∃ p, cn = .pointer p) ∨ (∃ a b c, cn = .slice a b c) ∨ cn = .nilFunc ∨ ∃ f a b, cn = .func f a b) := by
  unfold gP at hk
  split at hk
  · rename_i e he
    cases hk
    simp only [hO, IQ] at hz h
    unfold IR at hz
    split at hz
    · simp only [Act.eval] at hcn; subst hcn
      unfold TB at h
      split at h <;> first | cases h; done | skip
      all_goals
        cases r
        cases h
        exact ⟨(hY he _).1, (hY he _).2, .inl ⟨_, rfl⟩, .inl ⟨_, rfl⟩⟩
    · cases hz
  · rename_i e he
    cases hk
    simp only [hO, IQ] at hz h
    unfold yJ at hz
    split at hz
    · simp only [Act.eval] at hcn; subst hcn
      have key : ∀ (A : Option Addr) (n c : Nat), A.isNone = b → cp = .slice A n c → (Op.equal t cp (.slice none 0 0)).run P w = .ok b w ∧ (Op.equal t (.slice none 0 0) cp).run P w = .ok b w ∧ ((∃ p, cp = .pointer p) ∨ (∃ a b c, cp = .slice a b c) ∨ cp = .nilFunc ∨ ∃ f a b, cp = .func f a b) ∧ ((∃ p, Value.slice none 0 0 = .pointer p) ∨ (∃ a b c, Value.slice none 0 0 = .slice a b c) ∨ Value.slice none 0 0 = .nilFunc ∨ ∃ f a b, Value.slice none 0 0 = .func f a b) := fun A n c e1 e2 => by
        subst e2; subst e1
        exact ⟨(cS he _ _ _).1, (cS he _ _ _).2, .inr (.inl ⟨_, _, _, rfl⟩), .inr (.inl ⟨_, _, _, rfl⟩)⟩
      unfold yF at h
      split at h <;> first | cases h; done | skip
      · cases r; cases h; exact key _ _ _ rfl rfl
      · cases r; cases h; exact key _ _ _ rfl rfl
      · split at h
        · cases h
          cases r with
          | ref hp hz hn hc hx ha =>
            obtain ⟨e1, _⟩ := ha (by omega)
            exact key _ _ _ (by rw [e1]; rfl) rfl
        · cases h
    · cases hz
  · rename_i e1 e2 e3 he
    cases hk
    simp only [hO, IQ] at hz h
    unfold IU at hz
    split at hz
    · simp only [Act.eval] at hcn; subst hcn
      unfold TC at h
      split at h <;> first | cases h; done | skip
      · cases r; cases h; exact ⟨(dI he (.func 0) #[] #[]).2.2, (dI he (.func 0) #[] #[]).2.2, .inr (.inr (.inl rfl)), .inr (.inr (.inl rfl))⟩
      · cases r; cases h; exact ⟨(dI he _ _ _).1, (dI he _ _ _).2.1, .inr (.inr (.inr ⟨_, _, _, rfl⟩)), .inr (.inr (.inl rfl))⟩
    · cases hz
  · cases hk
theorem yP {P : Program} {n c : Nat} {o : Oper} {op : BinOp} {t yt : TypeId} {x y z : Operand} (hop : op = .eql ∨ op = .neq) (ht : gP P t = some c)
    (ho : o.op = .binOp op t x y yt) (hz : (hO c y = true ∧ z = x) ∨ (hO c x = true ∧ z = y)) {x' : X} (h1 : aM n z = some x') : cH P n o (.eqn c (op == .neq) x') := by
  intro K w H f a v H' hf hr he
  have r1 := aJ hf h1
  simp only [aH, Option.map_eq_some_iff] at he
  obtain ⟨b, h3, h4⟩ := he
  cases h4
  rcases hz with ⟨hz, rfl⟩ | ⟨hz, rfl⟩
  · obtain ⟨q1, q2, q3, q4⟩ := pY (w := w) ht r1 h3 (a := a) hz rfl
    obtain ⟨g1, g2, g3⟩ := jZ t _ _ q3 q4
    refine ⟨rfl, .bool (b != (op == .neq)), ?_, .bool _⟩
    rcases hop with rfl | rfl
    · simp only [dN, execOp, ho, g1, g2, Sem.run_bind, Sem.run_pure, Result.andThen_ok, q1]
      rw [show (BinOp.eql == BinOp.neq) = false from rfl]; simp
    · simp only [dN, execOp, ho, g1, g3, Sem.run_bind, Sem.run_pure, Result.andThen_ok, q1]
      rw [show (BinOp.neq == BinOp.neq) = true from rfl]; simp
  · obtain ⟨q1, q2, q3, q4⟩ := pY (w := w) ht r1 h3 (a := a) hz rfl
    obtain ⟨g1, g2, g3⟩ := jZ t _ _ q4 q3
    refine ⟨rfl, .bool (b != (op == .neq)), ?_, .bool _⟩
    rcases hop with rfl | rfl
    · simp only [dN, execOp, ho, g1, g2, Sem.run_bind, Sem.run_pure, Result.andThen_ok, q2]
      rw [show (BinOp.eql == BinOp.neq) = false from rfl]; simp
    · simp only [dN, execOp, ho, g1, g3, Sem.run_bind, Sem.run_pure, Result.andThen_ok, q2]
      rw [show (BinOp.neq == BinOp.neq) = true from rfl]; simp
def KA (P : Program) (n : Nat) (o : Oper) (i : AI) : Prop := ∀ K w f a neg x, i = .nilt neg x → gE n K f a → emp (ev f x) = true → ∃ b, dN P o a w (.bool b) w
theorem IV {P : Program} {n c : Nat} {o : Oper} {op : BinOp} {t yt : TypeId} {x y z : Operand} (hop : op = .eql ∨ op = .neq) (ht : gP P t = some c)
    (ho : o.op = .binOp op t x y yt) (hz : (hO c y = true ∧ z = x) ∨ (hO c x = true ∧ z = y)) {x' : X} (h1 : aM n z = some x') : KA P n o (jS c (op == .neq) x') := by
  intro K w f a neg x2 he hf hemp
  unfold jS at he
  split at he
  case isFalse => cases he
  rename_i hc1
  subst hc1
  cases he
  have r := aJ hf h1
  have hu : ∃ e, P.underlying t = some (.slice e) := by
    unfold gP at ht
    split at ht
    · cases ht
    · exact ⟨_, by assumption⟩
    · cases ht
    · cases ht
  obtain ⟨e, hu⟩ := hu
  have hA : ∃ A cap, a.eval z = .slice A 0 cap := by
    unfold emp at hemp
    split at hemp
    · rename_i hq
      rw [hq] at r
      generalize a.eval z = v at r
      cases r with
      | list0 he => exact ⟨_, _, rfl⟩
      | list hb hl => simp at hl; subst hl; exact ⟨_, _, rfl⟩
    · rename_i hq
      rw [hq] at r
      simp at hemp
      subst hemp
      generalize a.eval z = v at r
      cases r
      exact ⟨_, _, rfl⟩
    · cases hemp
  obtain ⟨A, cap, hA⟩ := hA
  have nils : ∀ u, hO 1 u = true → a.eval u = .slice none 0 0 := fun u hu => by
    simp only [hO] at hu
    unfold yJ at hu
    split at hu
    · rfl
    · cases hu
  rcases hz with ⟨hz, rfl⟩ | ⟨hz, rfl⟩
  · have hy := nils y hz
    obtain ⟨g1, g2, g3⟩ := jZ t (a.eval z) (a.eval y) (.inr (.inl ⟨_, _, _, hA⟩)) (.inr (.inl ⟨_, _, _, hy⟩))
    have q1 := (cS (w := w) hu A 0 cap).1
    refine ⟨A.isNone != (op == .neq), ?_⟩
    rcases hop with rfl | rfl
    · simp only [dN, execOp, ho, g1, g2, Sem.run_bind, Sem.run_pure, Result.andThen_ok]
      rw [hA, hy, q1, show (BinOp.eql == BinOp.neq) = false from rfl]; simp
    · simp only [dN, execOp, ho, g1, g3, Sem.run_bind, Sem.run_pure, Result.andThen_ok]
      rw [hA, hy, q1, show (BinOp.neq == BinOp.neq) = true from rfl]; simp
  · have hy := nils x hz
    obtain ⟨g1, g2, g3⟩ := jZ t (a.eval x) (a.eval z) (.inr (.inl ⟨_, _, _, hy⟩)) (.inr (.inl ⟨_, _, _, hA⟩))
    have q1 := (cS (w := w) hu A 0 cap).2
    refine ⟨A.isNone != (op == .neq), ?_⟩
    rcases hop with rfl | rfl
    · simp only [dN, execOp, ho, g1, g2, Sem.run_bind, Sem.run_pure, Result.andThen_ok]
      rw [hA, hy, q1, show (BinOp.eql == BinOp.neq) = false from rfl]; simp
    · simp only [dN, execOp, ho, g1, g3, Sem.run_bind, Sem.run_pure, Result.andThen_ok]
      rw [hA, hy, q1, show (BinOp.neq == BinOp.neq) = true from rfl]; simp
theorem kO {P : Program} {n c : Nat} {o : Oper} {op : BinOp} {t yt : TypeId} {x y z : Operand} (hop : op = .eql ∨ op = .neq) (ht : gP P t = some c)
    (ho : o.op = .binOp op t x y yt) (hz : (hO c y = true ∧ z = x) ∨ (hO c x = true ∧ z = y)) {x' : X} (h1 : aM n z = some x') : cH P n o (jS c (op == .neq) x') := by
  have := yP hop ht ho hz h1
  unfold jS
  split
  · rename_i hc; subst hc; exact this
  · exact this
end Go.Eng
end
section
set_option linter.unusedVariables false
set_option linter.unusedSimpArgs false
namespace Go.Eng
open Go
theorem obj?_some {H : AH} {t sz : Nat} {es : List AV} (h : obj? H t = some (sz, es)) : H[t]? = some (aR.live sz es) := by
  unfold obj? at h
  split at h
  · rename_i e; cases h; exact e
  · cases h
def NZ (K : KW) (w : World) (ad : Addr) (e : AV) (k : Nat) : Prop :=
  ∃ cs T fr o, w.heap[ad.block]? = some (.cells cs T fr) ∧ ad = ⟨ad.block, o + k, none⟩ ∧ o + (cells e).length ≤ cs.size ∧ ∀ j y, (cells e)[j]? = some y → RelV K y (cs.getD (o + j) Go.undef)
theorem bC {i n sz : Nat} (h : i < n) : i * sz + sz ≤ n * sz := by
  have : (i + 1) * sz ≤ n * sz := Nat.mul_le_mul_right sz h
  rwa [Nat.add_mul, Nat.one_mul] at this
theorem uO {K : KW} {w : World} {H : AH} (hr : Rel K w H) {t i k sz : Nat} {es : List AV} {e : AV} {v : Value} (r : RelV K (.ptr t i k) v) (ho : obj? H t = some (sz, es)) (he : es[i]? = some e) :
    ∃ ad, v = .pointer (some ad) ∧ NZ K w ad e k ∧ (cells e).length = sz ∧ ∀ y ∈ cells e, dH y = true := by
  cases r with
  | ptr hp =>
    rename_i p
    have L := hr.live t p sz es hp (obj?_some ho)
    obtain ⟨cs, T, hb, hs, hc⟩ := L.block
    have hi := (List.getElem?_eq_some_iff.1 he).1
    obtain ⟨f1, f2⟩ := L.fit e (List.mem_of_getElem? he)
    refine ⟨p.at i k, rfl, ⟨cs, T, (0, 0), p.off + i * sz, hb, by simp [bK.at, L.psz, Nat.add_assoc], ?_, fun j y hj => ?_⟩, f1, f2⟩
    · have := bC (sz := sz) (Nat.lt_of_lt_of_le hi L.len)
      rw [f1]; omega
    · have := hc i j e y he hj
      rwa [← Nat.add_assoc] at this
theorem pZ {K : KW} {w : World} {H : AH} (hr : Rel K w H) {i k sz : Nat} {l : List AV} {e : AV} {v : Value} (r : RelV K (.lptr sz l i k) v) (he : l[i]? = some e) :
    ∃ ad, v = .pointer (some ad) ∧ NZ K w ad e k ∧ (cells e).length = sz ∧ ∀ y ∈ cells e, dH y = true := by
  cases r with
  | lptr hb hn hs hc =>
    rename_i b off cs T fr
    have hi := (List.getElem?_eq_some_iff.1 he).1
    obtain ⟨f1, f2⟩ := hs e (List.mem_of_getElem? he)
    refine ⟨_, rfl, ⟨cs, T, fr, off + i * sz, hr.fz b _ hb, by simp [Nat.add_assoc], ?_, fun j y hj => ?_⟩, f1, f2⟩
    · have := bC (sz := sz) hi
      rw [f1]; omega
    · have := hc i j e y he hj
      rwa [← Nat.add_assoc] at this
theorem gQ {P : Program} {K : KW} {w : World} {t : TypeId} {ag : Bool} {sz : Nat} {ad : Addr} {e v : AV} {k : Nat} (hg : agg? P t = some ag) (hs : size? P t = some sz) (hl : NZ K w ad e k) (hp : part ag sz k e = some v) :
    ∃ cv, (loadVar t ad).run P w = .ok cv w ∧ RelV K v cv := by
  obtain ⟨cs, T, fr, o, hb, ha, hn, hc⟩ := hl
  unfold part at hp
  cases ag with
  | false =>
    simp only [Bool.false_eq_true, if_false] at hp
    have hk := (List.getElem?_eq_some_iff.1 hp).1
    refine ⟨cs.getD (o + k) Go.undef, ?_, hc k v hp⟩
    have hcell := kM (w := w) hb (k := o + k) (by omega)
    simp only [loadVar, Sem.run_bind, run_agg? hg, Result.andThen_ok, Bool.false_eq_true, if_false]
    rw [ha, run_load, hcell]
  | true =>
    simp only [if_true] at hp
    split at hp
    · rename_i hle
      cases hp
      let L : List Value := (List.range sz).map fun j => cs.getD (o + k + j) Go.undef
      have hL : L.length = sz := by simp [L]
      have hrun := run_loadCells_list (P := P) w ad L (fun j u hj => by
        have hj' := (List.getElem?_eq_some_iff.1 hj).1
        rw [hL] at hj'
        have e1 : u = cs.getD (o + k + j) Go.undef := by
          simp only [L, List.getElem?_map, List.getElem?_range hj', Option.map_some] at hj
          exact (Option.some.inj hj).symm
        rw [e1, ha]
        rw [Addr.add_lit]
        exact kM hb (by omega))
      rw [hL] at hrun
      refine ⟨.agg L.toArray, ?_, .agg (by simp [hL]; omega) fun i x hx => ?_⟩
      · simp only [loadVar, Sem.run_bind, run_agg? hg, Result.andThen_ok, if_true, run_size? hs, hrun, Sem.run_pure]
      · rw [List.getElem?_take] at hx
        split at hx
        · rename_i hi
          rw [List.getElem?_drop] at hx
          have := hc _ _ hx
          have e2 : L.toArray.getD i Go.undef = cs.getD (o + (k + i)) Go.undef := by
            simp [L, Array.getD_eq_getD_getElem?, hi, Nat.add_assoc]
          rw [e2]; exact this
        · cases hx
    · cases hp
theorem vX {P : Program} {n : Nat} {o : Oper} {t : TypeId} {x : Operand} (ho : o.op = .load t x) {x' : X} (h1 : aM n x = some x') {ag : Bool} (hg : agg? P t = some ag) {sz : Nat} (hs : size? P t = some sz) : cH P n o (.load ag sz x') := by
  intro K w H f a v H' hf hr he
  have r1 := aJ hf h1
  simp only [aH, Option.map_eq_some_iff] at he
  obtain ⟨u, h2, h3⟩ := he
  cases h3
  have key : ∀ e k, (∃ ad, a.eval x = .pointer (some ad) ∧ NZ K w ad e k ∧ (cells e).length = sz ∧ True) ∨ (∃ ad, a.eval x = .pointer (some ad) ∧ NZ K w ad e k) → part ag sz k e = some v → ∃ cv, dN P o a w cv w ∧ RelV K v cv := fun e k h hp => by
    have : ∃ ad, a.eval x = .pointer (some ad) ∧ NZ K w ad e k := by rcases h with ⟨ad, a1, a2, _⟩ | h; exact ⟨ad, a1, a2⟩; exact h
    obtain ⟨ad, a1, a2⟩ := this
    obtain ⟨cv, a3, a4⟩ := gQ (P := P) hg hs a2 hp
    exact ⟨cv, by simp [dN, execOp, ho, a1, Instr.loadAt, Instr.sureAddr, a3], a4⟩
  refine ⟨rfl, ?_⟩
  generalize hq : ev f x' = q at *
  unfold cG at h2
  split at h2
  · simp only [Option.bind_eq_some_iff] at h2
    obtain ⟨⟨sz', es⟩, g1, e, g2, g3⟩ := h2
    obtain ⟨ad, a1, a2, _⟩ := uO hr r1 g1 g2
    exact key e _ (.inr ⟨ad, a1, a2⟩) g3
  · simp only [Option.bind_eq_some_iff] at h2
    obtain ⟨e, g2, g3⟩ := h2
    obtain ⟨ad, a1, a2, _⟩ := pZ hr r1 g2
    exact key e _ (.inr ⟨ad, a1, a2⟩) g3
  · cases h2
theorem rZ {P : Program} {n : Nat} {o : Oper} {s : TypeId} {x : Operand} {k : Nat} (ho : o.op = .fieldAddr s x k) {fs : Array Field} (hfs : fieldsOf P s = some fs) {fd : Field} (hk : fs[k]? = some fd) {z : Nat} (hz : size? P fd.type = some z) (hz0 : z ≠ 0) {x' : X} (h1 : aM n x = some x') : cH P n o (.faddr fd.offset x') := by
  intro K w H f a v H' hf hr he
  have r1 := aJ hf h1
  simp only [aH, Option.map_eq_some_iff] at he
  obtain ⟨u, h2, h3⟩ := he
  cases h3
  refine ⟨rfl, ?_⟩
  generalize ev f x' = q at *
  have run : ∀ ad : Addr, a.eval x = .pointer (some ad) → dN P o a w (.pointer (some (ad.add fd.offset))) w := fun ad e => by
    simp [dN, execOp, ho, e, Instr.fieldAt, run_underlying (bQ hfs), hk, Instr.sureAddr, fieldPlace, run_size? hz, hz0]
  have hadd : ∀ b q, Addr.add ⟨b, q, none⟩ fd.offset = ⟨b, q + fd.offset, none⟩ := fun b q => Addr.add_lit b q _
  unfold mL at h2
  generalize hcv : a.eval x = cv at r1
  split at h2
  · cases h2
    cases r1 with
    | ptr hp =>
      refine ⟨_, run _ hcv, ?_⟩
      rw [show (bK.at _ _ _).add fd.offset = _ from hadd _ _, Nat.add_assoc, Nat.add_assoc]
      exact .ptr hp
  · cases h2
    cases r1 with
    | lptr hb hn hs hc =>
      refine ⟨_, run _ hcv, ?_⟩
      rw [hadd, Nat.add_assoc, Nat.add_assoc]
      exact .lptr hb hn hs hc
  · cases h2
theorem EZ (cs : List AV) (sz k : Nat) : part true sz k (.agg cs) = if k + sz ≤ cs.length then some (.agg ((cs.drop k).take sz)) else none := rfl
theorem yQ (e : AV) (sz k : Nat) : part false sz k e = (cells e)[k]? := rfl
theorem sA {P : Program} {n : Nat} {o : Oper} {s : TypeId} {x : Operand} {k : Nat} (ho : o.op = .field s x k) {fs : Array Field} (hfs : fieldsOf P s = some fs) {fd : Field} (hk : fs[k]? = some fd) {z : Nat} (hz : size? P fd.type = some z) {ag : Bool} (hg : agg? P fd.type = some ag) {x' : X} (h1 : aM n x = some x') : cH P n o (.field ag z fd.offset x') := by
  intro K w H f a v H' hf hr he
  have r1 := aJ hf h1
  simp only [aH, Option.map_eq_some_iff] at he
  obtain ⟨u, h2, h3⟩ := he
  cases h3
  refine ⟨rfl, ?_⟩
  generalize ev f x' = q at *
  generalize hcv : a.eval x = cv at r1
  unfold uL at h2
  split at h2
  · rename_i cs
    cases r1 with
    | agg hl hr' =>
      rename_i ds
      cases ag with
      | false =>
        rw [yQ] at h2
        simp only [cells] at h2
        have hlt := (List.getElem?_eq_some_iff.1 h2).1
        refine ⟨ds.getD fd.offset Go.undef, ?_, hr' _ _ h2⟩
        have hlt' : fd.offset < ds.size := by omega
        simp [dN, execOp, ho, hcv, Instr.field, run_underlying (bQ hfs), hk, asAgg, Go.part, run_agg? hg, hlt', Array.getD_eq_getD_getElem?]
      | true =>
        rw [EZ] at h2
        by_cases hle : fd.offset + z ≤ cs.length
        · rw [if_pos hle] at h2
          cases h2
          refine ⟨.agg (ds.extract fd.offset (fd.offset + z)), ?_, .agg (by simp; omega) fun i y hy => ?_⟩
          · simp [dN, execOp, ho, hcv, Instr.field, run_underlying (bQ hfs), hk, asAgg, Go.part, run_agg? hg, run_size? hz]
          · rw [List.getElem?_take] at hy
            split at hy
            · rename_i hi
              rw [List.getElem?_drop] at hy
              have := hr' _ _ hy
              have e2 : (ds.extract fd.offset (fd.offset + z)).getD i Go.undef = ds.getD (fd.offset + i) Go.undef := by
                have h3 : fd.offset + i < ds.size := by omega
                rw [Array.getD_eq_getD_getElem?, Array.getD_eq_getD_getElem?, Array.getElem?_extract, if_pos (by omega)]
              rw [e2]; exact this
            · cases hy
        · rw [if_neg hle] at h2; cases h2
  · cases h2
end Go.Eng
end
section
set_option linter.unusedVariables false
set_option linter.unusedSimpArgs false
namespace Go.Eng
open Go
theorem nat?_rel {K : KW} {x : AV} {v : Value} {j : Nat} (r : RelV K x v) (h : nat? x = some j) : ∃ k z, v = .int k z ∧ 0 ≤ z ∧ z.toNat = j := by
  unfold nat? at h
  split at h
  · split at h
    · cases h; cases r; exact ⟨_, _, rfl, by assumption, rfl⟩
    · cases h
  · cases h
theorem sB {P : Program} {n : Nat} {o : Oper} {t e : TypeId} {x i : Operand} (ho : o.op = .indexAddr t x i) (he : elemOf? P t = some e) {sz : Nat} (hs : size? P e = some sz) {x' i' : X} (h1 : aM n x = some x') (h2 : aM n i = some i') : cH P n o (.iaddr sz x' i') := by
  intro K w H f a v H' hf hr hx
  have r1 := aJ hf h1
  have r2 := aJ hf h2
  simp only [aH, Option.map_eq_some_iff] at hx
  obtain ⟨u, h3, h4⟩ := hx
  cases h4
  refine ⟨rfl, ?_⟩
  unfold aF at h3
  simp only [Option.bind_eq_some_iff] at h3
  obtain ⟨j, g1, g2⟩ := h3
  obtain ⟨k, z, g3, g4, g5⟩ := nat?_rel r2 g1
  generalize ev f x' = q at *
  generalize hcv : a.eval x = cv at r1
  have run : ∀ (A : Addr) (m c : Nat), cv = .slice (some A) m c → j < m → dN P o a w (.pointer (some (A.add (j * sz)))) w := fun A m c e1 e2 => by
    have e3 : z < (m : Int) := by omega
    subst e1
    simp [dN, execOp, ho, hcv, g3, Instr.indexAt, asIntOf, run_underlying (aV he), g4, e3, run_size? hs, g5]
  split at g2
  · rename_i sz' l ex
    by_cases hc : sz' = sz ∧ j < l.length
    · rw [if_pos hc] at g2
      cases g2
      obtain ⟨rfl, hj⟩ := hc
      cases r1 with
      | list0 => simp at hj
      | list hb hl hc' he' hn hs' hr' =>
        refine ⟨_, run _ _ _ rfl (by omega), ?_⟩
        rw [Addr.add_lit, ← Nat.add_zero (j * sz')]
        exact .lptr hb (by rw [hl]; exact hn) hs' hr'
    · rw [if_neg hc] at g2; cases g2
  · rename_i sz' t' off m c ex
    by_cases hc : sz' = sz ∧ j < m
    · rw [if_pos hc] at g2
      cases g2
      obtain ⟨rfl, hj⟩ := hc
      cases r1 with
      | ref hp hz hn hc' he' ha =>
        rename_i p A cap
        obtain ⟨e1, e2⟩ := ha (by omega)
        refine ⟨_, run (p.at off 0) _ _ (by rw [e1]) hj, ?_⟩
        unfold bK.at
        rw [Addr.add_lit]
        have := RelV.ptr (K := K) (i := off + j) (k := 0) hp
        unfold bK.at at this
        rw [hz, Nat.add_mul] at this
        rw [hz, show p.off + (off * sz' + 0) + j * sz' = p.off + (off * sz' + j * sz' + 0) by omega]
        exact this
    · rw [if_neg hc] at g2; cases g2
  · cases g2
theorem vZ {P : Program} {n : Nat} {o : Oper} {t : TypeId} {x i : Operand} (ho : o.op = .index t x i) (hu : P.underlying t = some .string) {x' i' : X} (h1 : aM n x = some x') (h2 : aM n i = some i') : cH P n o (.sidx x' i') := by
  intro K w H f a v H' hf hr hx
  have r1 := aJ hf h1
  have r2 := aJ hf h2
  simp only [aH, Option.map_eq_some_iff] at hx
  obtain ⟨u, h3, h4⟩ := hx
  cases h4
  refine ⟨rfl, ?_⟩
  unfold yG at h3
  split at h3
  · rename_i s e
    rw [e] at r1
    simp only [Option.bind_eq_some_iff, Option.map_eq_some_iff] at h3
    obtain ⟨j, g1, b, g2, g6⟩ := h3
    obtain ⟨k, z, g3, g4, g5⟩ := nat?_rel r2 g1
    generalize hcv : a.eval x = cv at r1
    cases r1
    subst g6
    refine ⟨.int .u8 b.toNat, ?_, .int _ _⟩
    subst g5
    simp [dN, execOp, ho, hcv, g3, Instr.index, asIntOf, run_underlying hu, g4, g2]
  · cases h3
theorem yR {P : Program} {n : Nat} {o : Oper} {c : Call} {x : Operand} {t e : TypeId} (ho : o.op = .call c) (hb : c.callee = .builtin .len) (hx : c.args.toList = [x]) (ht : c.argTypes[0]? = some t) (hd : P.underlying t = some (.slice e)) {x' : X} (h1 : aM n x = some x') : cH P n o (.len x') := by
  intro K w H f a v H' hf hr he
  have r1 := aJ hf h1
  simp only [aH, Option.map_eq_some_iff] at he
  obtain ⟨u, h2, h3⟩ := he
  cases h3
  refine ⟨rfl, .int .i64 u, ?_, .int _ _⟩
  have ha : c.args = #[x] := Array.toList_inj.1 (by simpa using hx)
  generalize ev f x' = q at *
  generalize hcv : a.eval x = cv at r1
  have key : ∀ A cap, cv = .slice A u cap → dN P o a w (.int .i64 u) w := fun A cap e => by
    subst e
    simp [dN, execOp, ho, resolve, hb, ha, hcv, invoke, builtin, Builtin.len_, ht, run_underlying hd, goInt]
  unfold cZ at h2
  split at h2 <;> first | cases h2; done | skip
  · cases h2; cases r1; exact key _ _ rfl
  · cases h2
    cases r1 with
    | list0 => exact key _ _ rfl
    | list hb' hl => subst hl; exact key _ _ rfl
  · cases h2; cases r1; exact key _ _ rfl
theorem wA {P : Program} {n : Nat} {o : Oper} {c : Call} {x : Operand} {t : TypeId} (ho : o.op = .call c) (hb : c.callee = .builtin .len) (hx : c.args.toList = [x]) (ht : c.argTypes[0]? = some t) (hd : P.underlying t = some .string) {x' : X} (h1 : aM n x = some x') : cH P n o (.slen x') := by
  intro K w H f a v H' hf hr he
  have r1 := aJ hf h1
  simp only [aH] at he
  have ha : c.args = #[x] := Array.toList_inj.1 (by simpa using hx)
  generalize ev f x' = q at *
  generalize hcv : a.eval x = cv at r1
  split at he
  · cases he; cases r1
    refine ⟨rfl, _, ?_, .int _ _⟩
    simp [dN, execOp, ho, resolve, hb, ha, hcv, invoke, builtin, Builtin.len_, ht, run_underlying hd, goInt]
  · cases he
theorem IW {P : Program} {K : KW} {w : World} : ∀ (xs : List AV) (vs : List Value) (x u : AV) (v : Value), RelV K x v → RelL K xs vs → mA yH x xs = some u → ∃ cv, (vs.foldlM Builtin.max2 v).run P w = .ok cv w ∧ RelV K u cv
  | [], vs, x, u, v, r, rl, h => by
    have := rl.1
    cases vs with
    | nil => cases h; exact ⟨v, rfl, r⟩
    | cons _ _ => cases this
  | y :: ys, vs, x, u, v, r, rl, h => by
    cases vs with
    | nil => have := rl.1; cases this
    | cons z zs =>
      simp only [mA, Option.bind_eq_some_iff] at h
      obtain ⟨m, h1, h2⟩ := h
      have r2 : RelV K y z := rl.2 0 y z rfl rfl
      have rl2 : RelL K ys zs := ⟨by have := rl.1; simpa using this, fun i a b c d => rl.2 (i + 1) a b (by simpa using c) (by simpa using d)⟩
      unfold yH at h1
      split at h1
      · cases h1; cases r; cases r2
        obtain ⟨cv, e1, e2⟩ := IW ys zs _ u _ (RelV.int _ _) rl2 h2
        exact ⟨cv, by rw [List.foldlM_cons]; simp only [Builtin.max2, Sem.run_bind, Sem.run_pure, Result.andThen_ok]; exact e1, e2⟩
      · cases h1
theorem IX {P : Program} {K : KW} {w : World} : ∀ (xs : List AV) (vs : List Value) (x u : AV) (v : Value), RelV K x v → RelL K xs vs → mA yI x xs = some u → ∃ cv, (vs.foldlM Builtin.min2 v).run P w = .ok cv w ∧ RelV K u cv
  | [], vs, x, u, v, r, rl, h => by
    have := rl.1
    cases vs with
    | nil => cases h; exact ⟨v, rfl, r⟩
    | cons _ _ => cases this
  | y :: ys, vs, x, u, v, r, rl, h => by
    cases vs with
    | nil => have := rl.1; cases this
    | cons z zs =>
      simp only [mA, Option.bind_eq_some_iff] at h
      obtain ⟨m, h1, h2⟩ := h
      have r2 : RelV K y z := rl.2 0 y z rfl rfl
      have rl2 : RelL K ys zs := ⟨by have := rl.1; simpa using this, fun i a b c d => rl.2 (i + 1) a b (by simpa using c) (by simpa using d)⟩
      unfold yI at h1
      split at h1
      · cases h1; cases r; cases r2
        obtain ⟨cv, e1, e2⟩ := IX ys zs _ u _ (RelV.int _ _) rl2 h2
        exact ⟨cv, by rw [List.foldlM_cons]; simp only [Builtin.min2, Sem.run_bind, Sem.run_pure, Result.andThen_ok]; exact e1, e2⟩
      · cases h1
theorem FA {P : Program} {n : Nat} {o : Oper} {c : Call} {x : Operand} {r : List Operand} (ho : o.op = .call c) (hb : c.callee = .builtin .max) (hx : c.args.toList = x :: r) {x' : X} (h1 : aM n x = some x') {xs : List X} (h2 : dX n r = some xs) : cH P n o (.mx x' xs) := by
  intro K w H f a v H' hf hr he
  simp only [aH, Option.map_eq_some_iff] at he
  obtain ⟨u, h3, h4⟩ := he
  cases h4
  obtain ⟨cv, e1, e2⟩ := IW (P := P) (w := w) _ _ _ _ _ (aJ hf h1) (cN hf h2) h3
  have ha : c.args = (x :: r).toArray := Array.toList_inj.1 (by simpa using hx)
  exact ⟨rfl, cv, by simp [dN, execOp, ho, resolve, hb, ha, invoke, builtin, Builtin.max_, e1], e2⟩
theorem FB {P : Program} {n : Nat} {o : Oper} {c : Call} {x : Operand} {r : List Operand} (ho : o.op = .call c) (hb : c.callee = .builtin .min) (hx : c.args.toList = x :: r) {x' : X} (h1 : aM n x = some x') {xs : List X} (h2 : dX n r = some xs) : cH P n o (.mn x' xs) := by
  intro K w H f a v H' hf hr he
  simp only [aH, Option.map_eq_some_iff] at he
  obtain ⟨u, h3, h4⟩ := he
  cases h4
  obtain ⟨cv, e1, e2⟩ := IX (P := P) (w := w) _ _ _ _ _ (aJ hf h1) (cN hf h2) h3
  have ha : c.args = (x :: r).toArray := Array.toList_inj.1 (by simpa using hx)
  exact ⟨rfl, cv, by simp [dN, execOp, ho, resolve, hb, ha, invoke, builtin, Builtin.min_, e1], e2⟩
end Go.Eng
end
section
set_option linter.unusedVariables false
set_option linter.unusedSimpArgs false
namespace Go.Eng
open Go
theorem eL {n : Nat} {K : KW} {f : AF} {a : Act} (hf : gE n K f a) {o : Operand} {x : X} (h : aM n o = some x) {y d m : Nat} (hb : jR f (some x) y d = some m) : ∃ k z, a.eval o = .int k z ∧ 0 ≤ z ∧ z.toNat = m ∧ m ≤ y := by
  simp only [jR, Option.bind_eq_some_iff] at hb
  obtain ⟨j, h1, h2⟩ := hb
  obtain ⟨k, z, e1, e2, e3⟩ := nat?_rel (aJ hf h) h1
  split at h2
  · cases h2; exact ⟨k, z, e1, e2, e3, by assumption⟩
  · cases h2
theorem dY {P : Program} {w : World} {k : IntKind} {z : Int} {m y : Nat} {code : BoundsCode} (h0 : 0 ≤ z) (h1 : z.toNat = m) (h2 : m ≤ y) : (Instr.sliceBound (.int k z) y code).run P w = .ok m w := by
  rw [run_sliceBound w k z y code h0 (by omega), h1]
theorem dC {n : Nat} {o : Option Operand} (h : dA n o = some none) : o = none := by
  cases o with
  | none => rfl
  | some x => simp [dA] at h
theorem cA {n : Nat} {o : Option Operand} {x : X} (h : dA n o = some (some x)) : ∃ y, o = some y ∧ aM n y = some x := by
  cases o with
  | none => simp [dA] at h
  | some y => exact ⟨y, rfl, by simpa [dA] using h⟩
theorem hZ {P : Program} {w : World} {n : Nat} {K : KW} {f : AF} {a : Act} (hf : gE n K f a) {lo hi mx : Option Operand} {lo' hi' mx' : Option X} (h1 : dA n lo = some lo') (h2 : dA n hi = some hi') (h3 : dA n mx = some mx') (hm : (mx'.isSome && hi'.isNone) = false)
    {b : Bool} {len cap c m h l : Nat} (hc : c ≤ cap) (e1 : jR f mx' c c = some m) (e2 : jR f hi' m len = some h) (e3 : jR f lo' h 0 = some l) :
    (Instr.sliceBounds b len cap (lo.map a.eval) (hi.map a.eval) (mx.map a.eval)).run P w = .ok (l, h, if mx'.isSome then m else cap) w ∧ m ≤ (if mx'.isSome then m else cap) ∧ (mx'.isSome = true → m ≤ c) ∧ (mx'.isSome = false → m = c) ∧ l ≤ h := by
  have low : ∀ (code : BoundsCode), (match lo.map a.eval with | some v => Instr.sliceBound v h code | none => pure 0 : Sem Nat).run P w = .ok l w ∧ l ≤ h := fun code => by
    cases lo' with
    | none => cases dC h1; cases e3; exact ⟨rfl, Nat.zero_le _⟩
    | some x =>
      obtain ⟨y, rfl, hy⟩ := cA h1
      obtain ⟨k, z, q1, q2, q3, q4⟩ := eL hf hy e3
      simp only [Option.map_some, q1]
      exact ⟨dY q2 q3 q4, q4⟩
  cases mx' with
  | none =>
    cases dC h3
    cases e1
    cases hi' with
    | none =>
      cases dC h2
      cases e2
      refine ⟨?_, by simpa using hc, by simp, by simp, (low .sliceB).2⟩
      have e2 : len = len := rfl
      cases lo' with
      | none => cases dC h1; cases e3; simp [Instr.sliceBounds]
      | some xl =>
        obtain ⟨yl, rfl, hyl⟩ := cA h1
        obtain ⟨kl, zl, u1, u2, u3, u4⟩ := eL hf hyl e3
        have hbl : ∀ code, (Instr.sliceBound (a.eval yl) len code).run P w = .ok l w := fun code => by rw [u1]; exact dY u2 u3 u4
        simp [Instr.sliceBounds, hbl]
    | some x =>
      obtain ⟨y, rfl, hy⟩ := cA h2
      obtain ⟨k, z, q1, q2, q3, q4⟩ := eL hf hy e2
      refine ⟨?_, by simpa using hc, by simp, by simp, (low .sliceB).2⟩
      have hb : ∀ code, (Instr.sliceBound (a.eval y) cap code).run P w = .ok h w := fun code => by rw [q1]; exact dY q2 q3 (by omega)
      cases lo' with
      | none => cases dC h1; cases e3; simp [Instr.sliceBounds, hb]
      | some xl =>
        obtain ⟨yl, rfl, hyl⟩ := cA h1
        obtain ⟨kl, zl, u1, u2, u3, u4⟩ := eL hf hyl e3
        have hbl : ∀ code, (Instr.sliceBound (a.eval yl) h code).run P w = .ok l w := fun code => by rw [u1]; exact dY u2 u3 u4
        simp [Instr.sliceBounds, hbl, hb]
  | some xm =>
    obtain ⟨ym, rfl, hym⟩ := cA h3
    obtain ⟨km, zm, p1, p2, p3, p4⟩ := eL hf hym e1
    cases hi' with
    | none => simp at hm
    | some x =>
      obtain ⟨y, rfl, hy⟩ := cA h2
      obtain ⟨k, z, q1, q2, q3, q4⟩ := eL hf hy e2
      refine ⟨?_, by simp, fun _ => p4, by simp, (low .slice3C).2⟩
      have hb : ∀ code, (Instr.sliceBound (a.eval y) m code).run P w = .ok h w := fun code => by rw [q1]; exact dY q2 q3 (by omega)
      have hbm : ∀ code, (Instr.sliceBound (a.eval ym) cap code).run P w = .ok m w := fun code => by rw [p1]; exact dY p2 p3 (by omega)
      cases lo' with
      | none => cases dC h1; cases e3; simp [Instr.sliceBounds, hb, hbm]
      | some xl =>
        obtain ⟨yl, rfl, hyl⟩ := cA h1
        obtain ⟨kl, zl, u1, u2, u3, u4⟩ := eL hf hyl e3
        have hbl : ∀ code, (Instr.sliceBound (a.eval yl) h code).run P w = .ok l w := fun code => by rw [u1]; exact dY u2 u3 u4
        simp [Instr.sliceBounds, hbl, hb, hbm]
theorem sC {P : Program} {n : Nat} {o : Oper} {t e : TypeId} {x : Operand} {lo hi mx : Option Operand} (ho : o.op = .slice t x lo hi mx) (he : P.underlying t = some (.slice e)) {sz : Nat} (hs : size? P e = some sz) {x' : X} {lo' hi' mx' : Option X} (h0 : aM n x = some x') (h1 : dA n lo = some lo') (h2 : dA n hi = some hi') (h3 : dA n mx = some mx') (hm : (mx'.isSome && hi'.isNone) = false) :
    cH P n o (.slice sz x' lo' hi' mx') := by
  intro K w H f a v H' hf hr hx
  have r1 := aJ hf h0
  simp only [aH, Option.map_eq_some_iff] at hx
  obtain ⟨u, h4, h5⟩ := hx
  cases h5
  refine ⟨rfl, ?_⟩
  generalize ev f x' = q at *
  generalize hcv : a.eval x = cv at r1
  have run : ∀ A len cap l h m, cv = .slice A len cap → (Instr.sliceBounds true len cap (lo.map a.eval) (hi.map a.eval) (mx.map a.eval)).run P w = .ok (l, h, m) w → dN P o a w (.slice (if m = l then A else A.map (·.add (l * sz))) (h - l) (m - l)) w := fun A len cap l h m e1 e2 => by
    subst e1
    simp [dN, execOp, ho, hcv, Instr.sliceAt, Instr.slice, run_underlying he, e2, run_size? hs]
  unfold dT at h4
  split at h4
  · simp only [Option.bind_eq_some_iff] at h4
    obtain ⟨m, g1, h, g2, l, g3, g4⟩ := h4
    cases g4
    cases r1
    obtain ⟨b1, b2, b3, b4, b5⟩ := hZ (P := P) (w := w) (b := true) hf h1 h2 h3 hm (Nat.le_refl 0) g1 g2 g3
    have hm0 : m = 0 := by cases hq : mx'.isSome with | true => have := b3 hq; omega | false => exact b4 hq
    have hh0 : h = 0 := by
      have : h ≤ m ∨ hi' = none := by
        cases hi' with
        | none => exact .inr rfl
        | some y =>
          obtain ⟨z, rfl, hz⟩ := cA h2
          obtain ⟨_, _, _, _, _, q4⟩ := eL hf hz g2
          exact .inl q4
      rcases this with h' | h'
      · omega
      · rw [h'] at g2; cases g2; rfl
    have := run _ _ _ _ _ _ rfl b1
    refine ⟨_, this, ?_⟩
    have e0 : l = 0 := by omega
    subst e0; subst hh0; subst hm0
    cases mx'.isSome <;> exact .nils
  · rename_i sz' es ex
    by_cases hz : sz' ≠ sz
    · rw [if_pos hz] at h4; cases h4
    rw [if_neg hz] at h4
    have hz' : sz' = sz := Classical.byContradiction hz
    subst hz'
    simp only [Option.bind_eq_some_iff] at h4
    obtain ⟨m, g1, h, g2, l, g3, g4⟩ := h4
    by_cases hhm : h ≤ m
    case neg => rw [if_neg hhm] at g4; cases g4
    rw [if_pos hhm] at g4
    cases g4
    have fin : ∀ (A : Option Addr) (len cap : Nat) , cv = .slice A len cap → es.length = len → len ≤ cap → (ex = true → cap = len) → (len ≠ 0 → ∃ b off cs T fr, A = some ⟨b, off, none⟩ ∧ K.fz b = some (.cells cs T fr) ∧ off + len * sz' ≤ cs.size ∧ (∀ x ∈ es, fits sz' x) ∧ ∀ i k x y, es[i]? = some x → (cells x)[k]? = some y → RelV K y (cs.getD (off + (i * sz' + k)) Go.undef)) → ∃ cv, dN P o a w cv w ∧ RelV K (.list sz' ((es.take h).drop l) (if mx'.isSome then m == h else ex && h == es.length)) cv := fun A len cap e1 e2 e3 e4 e5 => by
      obtain ⟨b1, b2, b3, b4, b5⟩ := hZ (P := P) (w := w) (b := true) hf h1 h2 h3 hm (c := es.length) (len := len) (cap := cap) (by omega) g1 (by rw [← e2]; exact g2) g3
      have hml : m ≤ len := by cases hq : mx'.isSome with | true => have := b3 hq; omega | false => have := b4 hq; omega
      have hlen : ((es.take h).drop l).length = h - l := by simp; omega
      have hex : (if mx'.isSome then m == h else ex && h == es.length) = true → (if mx'.isSome then m else cap) = h := by
        cases mx'.isSome with
        | true => simp
        | false => simp; intro p q; have := e4 p; omega
      refine ⟨_, run _ _ _ _ _ _ e1 b1, ?_⟩
      generalize (if mx'.isSome then m == h else ex && h == es.length) = X at hex ⊢
      generalize hM : (if mx'.isSome then m else cap) = M at *
      by_cases hl : h = l
      · have : (es.take h).drop l = [] := List.eq_nil_of_length_eq_zero (by omega)
        rw [this, hl, Nat.sub_self]
        exact .list0 fun p => by have := hex p; omega
      · obtain ⟨b, off, cs, T, fr, a1, a2, a3, a4, a5⟩ := e5 (by omega)
        subst a1
        rw [if_neg (by omega), Option.map_some, Addr.add_lit]
        have hM : h ≤ M := by omega
        refine RelV.list (n := h - l) (cap := M - l) a2 hlen (Nat.sub_le_sub_right hM l) (fun p => by rw [hex p]) ?_ (fun x hx => a4 x (List.mem_of_mem_take (List.mem_of_mem_drop hx))) (fun i k x y hx hy => ?_)
        · have h6 : l * sz' + (h - l) * sz' ≤ len * sz' := by rw [← Nat.add_mul]; exact Nat.mul_le_mul_right _ (by omega)
          omega
        · rw [List.getElem?_drop, List.getElem?_take] at hx
          split at hx
          · have := a5 _ _ _ _ hx hy
            rw [Nat.add_mul] at this
            rw [show off + l * sz' + (i * sz' + k) = off + (l * sz' + i * sz' + k) by omega]
            exact this
          · cases hx
    cases r1 with
    | list0 he' => exact fin _ _ _ rfl rfl (by omega) (fun p => he' p) (fun p => absurd rfl p)
    | list hb hl hc' he' hn hs' hr' => exact fin _ _ _ rfl hl hc' he' fun _ => ⟨_, _, _, _, _, rfl, hb, hn, hs', hr'⟩
  · rename_i sz' t' off len c ex
    by_cases hz : sz' ≠ sz
    · rw [if_pos hz] at h4; cases h4
    rw [if_neg hz] at h4
    have hz' : sz' = sz := Classical.byContradiction hz
    subst hz'
    simp only [Option.bind_eq_some_iff] at h4
    obtain ⟨m, g1, h, g2, l, g3, g4⟩ := h4
    by_cases hhm : h ≤ m
    case neg => rw [if_neg hhm] at g4; cases g4
    rw [if_pos hhm] at g4
    cases g4
    cases r1 with
    | ref hp hpz hn hc he' ha =>
      rename_i p A cap
      obtain ⟨b1, b2, b3, b4, b5⟩ := hZ (P := P) (w := w) (b := true) hf h1 h2 h3 hm hc g1 g2 g3
      refine ⟨_, run _ _ _ _ _ _ rfl b1, ?_⟩
      have hM : (if mx'.isSome then m else cap) ≤ cap := by
        cases hq : mx'.isSome with
        | true => have := b3 hq; simp; omega
        | false => simp
      have hX : (mx'.isSome || ex) = true → (if mx'.isSome then m else cap) = m := by
        cases hq : mx'.isSome with
        | true => simp
        | false => simp; intro q; have := he' q; have := b4 hq; omega
      generalize (mx'.isSome || ex) = X at hX ⊢
      generalize hMM : (if mx'.isSome then m else cap) = M at *
      refine .ref hp hpz (by omega) (by omega) (fun q => by have := hX q; omega) (fun q => ?_)
      obtain ⟨a1, a2⟩ := ha (by omega)
      refine ⟨?_, by omega⟩
      rw [if_neg (by omega), a1, Option.map_some]
      unfold bK.at
      rw [Addr.add_lit, hpz, Nat.add_mul]
      congr 2; omega
  · cases h4
theorem qA {P : Program} {n : Nat} {o : Oper} {t : TypeId} {x : Operand} {lo hi mx : Option Operand} (ho : o.op = .slice t x lo hi mx) (hu : P.underlying t = some .string) (hmx : mx.isSome = false) {x' : X} {lo' hi' : Option X} (h0 : aM n x = some x') (h1 : dA n lo = some lo') (h2 : dA n hi = some hi') :
    cH P n o (.sslice x' lo' hi') := by
  intro K w H f a v H' hf hr hx
  have r1 := aJ hf h0
  simp only [aH] at hx
  generalize ev f x' = q at *
  generalize hcv : a.eval x = cv at r1
  split at hx
  · simp only [Option.bind_eq_some_iff, Option.map_eq_some_iff] at hx
    obtain ⟨h, g2, l, g3, g4⟩ := hx
    cases g4
    cases r1
    rename_i s
    have hmx' : mx = none := by cases mx <;> simp at hmx ⊢
    subst hmx'
    obtain ⟨b1, b2, b3, b4, b5⟩ := hZ (P := P) (w := w) (b := false) (mx := none) (mx' := none) (c := s.size) (cap := s.size) (m := s.size) hf h1 h2 rfl rfl (Nat.le_refl _) rfl g2 g3
    refine ⟨rfl, _, ?_, .str _⟩
    simp only [Option.map_none] at b1
    simp [dN, execOp, ho, hcv, Instr.sliceAt, Instr.slice, run_underlying hu, b1]
  · cases hx
end Go.Eng
end
section
set_option linter.unusedVariables false
set_option linter.unusedSimpArgs false
namespace Go.Eng
open Go
theorem RelL.putl {K : KW} : ∀ (ys : List AV) (us : List Value) (cs : List AV) (ds : Array Value) (off : Nat), RelL K ys us → RelL K cs ds.toList →
    RelL K (Eng.putl cs off ys) ((us.zipIdx).foldl (fun (c : Array Value) (p : Value × Nat) => c.setIfInBounds (off + p.2) p.1) ds).toList
  | [], us, cs, ds, off, h, g => by
    have := h.1
    cases us with
    | nil => exact g
    | cons _ _ => cases this
  | y :: ys, us, cs, ds, off, h, g => by
    cases us with
    | nil => have := h.1; cases this
    | cons u us =>
      have r : RelV K y u := h.2 0 y u rfl rfl
      have rl : RelL K ys us := ⟨by have := h.1; simpa using this, fun i a b c d => h.2 (i + 1) a b (by simpa using c) (by simpa using d)⟩
      have g' : RelL K (cs.set off y) (ds.setIfInBounds off u).toList := by
        have := g.set off r
        rwa [Array.toList_setIfInBounds]
      have := RelL.putl ys us (cs.set off y) (ds.setIfInBounds off u) (off + 1) rl g'
      simp only [Eng.putl]
      rw [List.zipIdx_cons, List.foldl_cons]
      have e : (us.zipIdx (0 + 1)).foldl (fun (c : Array Value) (p : Value × Nat) => c.setIfInBounds (off + p.2) p.1) (ds.setIfInBounds (off + 0) u) = (us.zipIdx).foldl (fun (c : Array Value) (p : Value × Nat) => c.setIfInBounds (off + 1 + p.2) p.1) (ds.setIfInBounds off u) := by
        rw [List.zipIdx_succ, List.foldl_map]
        congr 1
        funext c p
        rw [show off + (p.2 + 1) = off + 1 + p.2 by omega]
      rw [e]
      exact this
theorem kP : ∀ (xs cs : List AV) (k : Nat), (putl cs k xs).length = cs.length
  | [], cs, k => rfl
  | x :: xs, cs, k => by simp only [putl]; rw [kP xs]; simp
theorem yS {P : Program} {K : KW} {n : Nat} {f : AF} {a : Act} (hf : gE n K f a) {fs : Array Field} {places : Array (Nat × Nat)} (hpl : ∀ (i : Nat) (fd : Field) (s : Nat), fs[i]? = some fd → size? P fd.type = some s → places[i]? = some (fd.offset, s)) :
    ∀ (ps : List (Nat × Operand)) (qs : List (Nat × Nat × X)) (cs cs' : List AV) (ds : Array Value), fK P n fs ps = some qs → RelL K cs ds.toList → fillc f cs qs = some cs' →
      ∃ ds', Instr.fill (places[·]?) ds (ps.map fun p => (p.1, a.eval p.2)) = some ds' ∧ RelL K cs' ds'.toList
  | [], qs, cs, cs', ds, h, r, e => by cases h; cases e; exact ⟨ds, rfl, r⟩
  | (i, o) :: ps, qs, cs, cs', ds, h, r, e => by
    simp only [fK, Option.bind_eq_some_iff, Option.map_eq_some_iff] at h
    obtain ⟨fd, h1, s, h2, x, h3, qs', h4, rfl⟩ := h
    simp only [fillc] at e
    split at e
    · rename_i hc
      obtain ⟨c1, c2, c3⟩ := hc
      have rx := (aJ hf h3).cells c1
      have rp := RelL.putl _ _ cs ds fd.offset rx r
      obtain ⟨ds', e1, e2⟩ := yS hf hpl ps qs' _ _ _ h4 rp e
      refine ⟨ds', ?_, e2⟩
      have l1 := rx.1
      have l2 := r.1
      have k1 : (a.eval o).cells.size = s := by rw [← c2, l1, Array.length_toList]
      have k2 : fd.offset + (a.eval o).cells.size ≤ ds.size := by rw [k1]; have := Array.length_toList (xs := ds); omega
      simp only [List.map_cons, Instr.fill, hpl i fd s h1 h2, k1, ne_eq, not_true_eq_false, false_or]
      have k3 : fd.offset + s ≤ ds.size := by rw [← k1]; exact k2
      rw [if_neg (by simp; omega)]
      rw [← e1]
      congr 1
      rw [← Array.foldl_toList, Array.toList_zipIdx]
    · cases e
theorem mN {P : Program} {w : World} : ∀ (fs : List Field), (∀ fd ∈ fs, (size? P fd.type).isSome = true) → ((fs.mapM fun f => (do pure (f.offset, ← sizeOf f.type) : Sem (Nat × Nat)))).run P w = .ok (fs.map fun fd => (fd.offset, (size? P fd.type).getD 0)) w
  | [], _ => rfl
  | fd :: fs, h => by
    obtain ⟨s, hs⟩ := Option.isSome_iff_exists.1 (h fd (by simp))
    rw [List.mapM_cons]
    simp only [Sem.run_bind, run_size? hs, Result.andThen_ok, Sem.run_pure, mN fs (fun g hg => h g (by simp [hg])), List.map_cons, hs, Option.getD_some]
theorem sD {P : Program} {n : Nat} {o : Oper} {t : TypeId} {ps : Array (Nat × Operand)} (ho : o.op = .build t ps) {fs : Array Field} (hfs : fieldsOf P t = some fs) {z : AV} (hz : zero? P t = some z) {qs : List (Nat × Nat × X)} (hq : fK P n fs ps.toList = some qs) (hall : fs.toList.all (fun fd => (size? P fd.type).isSome) = true) : cH P n o (.build (cells z) qs) := by
  intro K w H f a v H' hf hr he
  simp only [aH, Option.map_eq_some_iff] at he
  obtain ⟨cs', h1, h2⟩ := he
  cases h2
  refine ⟨rfl, ?_⟩
  simp only [zero?, Option.bind_eq_some_iff] at hz
  obtain ⟨zv, ⟨i, hi1, hi2⟩, hz2⟩ := hz
  obtain ⟨rz, sz⟩ := eK (K := K) hz2
  have rc := rz.cells (fH sz)
  have hall' : ∀ fd ∈ fs.toList, (size? P fd.type).isSome = true := List.all_eq_true.1 hall
  have hpl : ∀ (i : Nat) (fd : Field) (s : Nat), fs[i]? = some fd → size? P fd.type = some s → ((fs.toList.map fun fd => (fd.offset, (size? P fd.type).getD 0)).toArray)[i]? = some (fd.offset, s) := fun i fd s e1 e2 => by
    simp [e1, e2]
  obtain ⟨ds', e1, e2⟩ := yS hf hpl _ _ _ _ _ hq rc h1
  obtain ⟨l, r⟩ := RelL.toD e2
  refine ⟨.agg ds', ?_, .agg l r⟩
  have hp := mN (P := P) (w := w) fs.toList hall'
  have hzero : (zeroValue t).run P w = .ok zv w := by simp [zeroValue, typeInfo, hi1, hi2]
  have hmap : (ps.map fun p => (p.1, a.eval p.2)).toList = ps.toList.map fun p => (p.1, a.eval p.2) := by simp
  simp only [dN, execOp, ho, Instr.build, Sem.run_bind, hzero, Result.andThen_ok, run_underlying (bQ hfs), Array.mapM_eq_mapM_toList, Sem.run_map, hp]
  rw [hmap, e1]
  rfl
end Go.Eng
end
section
set_option linter.unusedVariables false
set_option linter.unusedSimpArgs false
namespace Go.Eng
open Go
def sE (P : Program) (n : Nat) (o : Oper) (i : AI) : Prop :=
  ∀ f H v H', aH i f H = some (v, H') → ∃ (sz : Nat) (es : List AV) (g : Nat → AV), H' = H ++ [aR.live sz es] ∧ v = g H.length ∧
    ∀ K w a Hc t, gE n K f a → Rel K w Hc → t < Hc.length → K.pl t = none → Hc[t]? = some (aR.live sz es) →
      ∃ cv w' p, dN P o a w cv w' ∧ Rel (K.place t p) w' Hc ∧ RelV (K.place t p) (g t) cv
theorem iA {xs : List AV} (h : fI xs = true) : ∀ y ∈ xs, dH y = true := List.all_eq_true.1 h
theorem fY {K : KW} {x y : AV} {v : Value} {k : Nat} (r : RelV K x v) (h : okc x = true) (hy : (cells x)[k]? = some y) : RelV K y (v.cells.getD k Go.undef) := (RelL.toD (r.cells h)).2 k y hy
theorem dD {K : KW} {x : AV} {v : Value} (r : RelV K x v) (h : okc x = true) : v.cells.size = (cells x).length := (RelL.toD (r.cells h)).1.symm
theorem yT {P : Program} {n : Nat} {o : Oper} {e : TypeId} {x : Operand} (ho : o.op = .box e x) {x' : X} (h1 : aM n x = some x') {sz : Nat} (hs : size? P e = some sz) : sE P n o (.box sz x') := by
  intro f H v H' he
  simp only [aH] at he
  split at he
  · rename_i hc
    cases he
    refine ⟨sz, [ev f x'], fun t => .ptr t 0 0, rfl, rfl, fun K w a Hc t hf hr ht hp hl => ?_⟩
    have r1 := aJ hf h1
    have hok : okc (ev f x') = true := fH (iA hc.2)
    have hfit : fits sz (ev f x') := ⟨hc.1, iA hc.2⟩
    have hR := hr.placed ht hp hl (fun y hy => by simp at hy; subst hy; exact hfit) (a.eval x).cells e 1 (by simp) (by rw [dD r1 hok, hc.1]; omega) (fun i k y z hy hz => by
      cases i with
      | zero => simp at hy; subst hy; simpa using fY r1 hok hz
      | succ i => simp at hy)
    refine ⟨.pointer (some ⟨w.heap.size, 0, none⟩), _, _, ?_, hR, ?_⟩
    · simp only [dN, execOp, ho, Instr.box, newVar, newRow, Sem.run_bind, run_newObj, Result.andThen_ok, Sem.run_pure]
      rfl
    · have := RelV.ptr (K := K.place t ⟨w.heap.size, 0, sz, 1⟩) (i := 0) (k := 0) (KW.place_self K t _)
      simpa [bK.at] using this
  · cases he
theorem sF {P : Program} {n : Nat} {o : Oper} {e : TypeId} (ho : o.op = .alloc e) {sz : Nat} (hs : size? P e = some sz) {z : AV} (hz : zero? P e = some z) (hzs : (cells z).length = sz) : sE P n o (.alloc sz z) := by
  intro f H v H' he
  cases he
  refine ⟨sz, [z], fun t => .ptr t 0 0, rfl, rfl, fun K w a Hc t hf hr ht hp hl => ?_⟩
  simp only [zero?, Option.bind_eq_some_iff] at hz
  obtain ⟨zv, ⟨i, hi1, hi2⟩, hz2⟩ := hz
  obtain ⟨rz, hsc⟩ := eK (K := K) hz2
  have hok := fH hsc
  have hR := hr.placed ht hp hl (fun y hy => by simp at hy; subst hy; exact ⟨hzs, hsc⟩) zv.cells e 1 (by simp) (by rw [dD rz hok, hzs]; omega) (fun i k y z hy hz => by
    cases i with
    | zero => simp at hy; subst hy; simpa using fY rz hok hz
    | succ i => simp at hy)
  refine ⟨.pointer (some ⟨w.heap.size, 0, none⟩), _, _, ?_, hR, ?_⟩
  · have hzero : (zeroValue e).run P w = .ok zv w := by simp [zeroValue, typeInfo, hi1, hi2]
    simp only [dN, execOp, ho, Instr.alloc, newVar, newRow, Sem.run_bind, hzero, run_newObj, Result.andThen_ok, Sem.run_pure]
    rfl
  · have := RelV.ptr (K := K.place t ⟨w.heap.size, 0, sz, 1⟩) (i := 0) (k := 0) (KW.place_self K t _)
    simpa [bK.at] using this
theorem yU (us : List Value) : ∀ (off : Nat) (ds : Array Value), off + us.length ≤ ds.size →
    ((us.zipIdx).foldl (fun (c : Array Value) (p : Value × Nat) => c.setIfInBounds (off + p.2) p.1) ds).size = ds.size ∧ ∀ q, ((us.zipIdx).foldl (fun (c : Array Value) (p : Value × Nat) => c.setIfInBounds (off + p.2) p.1) ds).getD q Go.undef = if off ≤ q ∧ q < off + us.length then us.getD (q - off) Go.undef else ds.getD q Go.undef := by
  induction us with
  | nil => intro off ds h; refine ⟨rfl, fun q => ?_⟩; rw [if_neg (by simp)]; rfl
  | cons u us ih =>
    intro off ds h
    simp at h
    have e : ((u :: us).zipIdx).foldl (fun (c : Array Value) (p : Value × Nat) => c.setIfInBounds (off + p.2) p.1) ds = (us.zipIdx).foldl (fun (c : Array Value) (p : Value × Nat) => c.setIfInBounds (off + 1 + p.2) p.1) (ds.setIfInBounds off u) := by
      rw [List.zipIdx_cons, List.foldl_cons, List.zipIdx_succ, List.foldl_map]
      simp only [Nat.add_zero]
      congr 1
      funext c p
      rw [show off + (p.2 + 1) = off + 1 + p.2 by omega]
    rw [e]
    obtain ⟨h1, h2⟩ := ih (off + 1) (ds.setIfInBounds off u) (by simp; omega)
    refine ⟨by rw [h1]; simp, fun q => ?_⟩
    rw [h2 q]
    by_cases c1 : off + 1 ≤ q ∧ q < off + 1 + us.length
    · rw [if_pos c1, if_pos (by simp; omega)]
      rw [show q - off = (q - (off + 1)) + 1 by omega]
      simp
    · rw [if_neg c1]
      by_cases c2 : q = off
      · subst c2
        rw [if_pos (by simp)]
        have hq : q < ds.size := by omega
        simp [Array.getD_eq_getD_getElem?, Array.getElem?_setIfInBounds, hq]
      · rw [if_neg (by simp; omega)]
        simp [Array.getD_eq_getD_getElem?, Array.getElem?_setIfInBounds, Ne.symm c2]
structure wD (K : KW) (sz : Nat) (es : List AV) (ds : Array Value) : Prop where
  size : ds.size = es.length * sz
  fit : ∀ x ∈ es, fits sz x
  rel : ∀ i k x y, es[i]? = some x → (cells x)[k]? = some y → RelV K y (ds.getD (i * sz + k) Go.undef)
theorem wD.set {K : KW} {sz : Nat} {es : List AV} {ds : Array Value} (h : wD K sz es ds) {i : Nat} (hi : i < es.length) {x : AV} {v : Value} (r : RelV K x v) (hx : fits sz x) :
    wD K sz (es.set i x) ((v.cells.toList.zipIdx).foldl (fun (c : Array Value) (p : Value × Nat) => c.setIfInBounds (i * sz + p.2) p.1) ds) := by
  have hok := fH hx.2
  have hsz : v.cells.toList.length = sz := by rw [Array.length_toList, dD r hok, hx.1]
  have hb : i * sz + v.cells.toList.length ≤ ds.size := by rw [hsz, h.size]; exact bC hi
  obtain ⟨h1, h2⟩ := yU v.cells.toList (i * sz) ds hb
  refine ⟨by rw [h1, h.size]; simp, fun y hy => ?_, fun j k y z hy hz => ?_⟩
  · rcases List.mem_or_eq_of_mem_set hy with h3 | rfl
    · exact h.fit y h3
    · exact hx
  · rw [h2, hsz]
    rw [List.getElem?_set] at hy
    by_cases e : i = j
    · subst e
      rw [if_pos rfl, if_pos hi] at hy
      cases hy
      have hk : k < sz := by have := (List.getElem?_eq_some_iff.1 hz).1; rw [hx.1] at this; exact this
      rw [if_pos (by omega)]
      have := fY r hok hz
      rw [show i * sz + k - i * sz = k by omega]
      have e2 : v.cells.toList.getD k Go.undef = v.cells.getD k Go.undef := by
        simp [Array.getD_eq_getD_getElem?, List.getD_eq_getElem?_getD]
      rw [e2]; exact this
    · rw [if_neg e] at hy
      have hk : k < sz := by have := (List.getElem?_eq_some_iff.1 hz).1; rw [(h.fit y (List.mem_of_getElem? hy)).1] at this; exact this
      rw [if_neg ?_]
      · exact h.rel j k y z hy hz
      · intro ⟨c1, c2⟩
        rcases Nat.lt_or_gt_of_ne e with l | l
        · have := bC (sz := sz) l; omega
        · have := bC (sz := sz) l; omega
theorem qB {K : KW} {n : Nat} {f : AF} {a : Act} (hf : gE n K f a) {sz len : Nat} :
    ∀ (ps : List (Nat × Operand)) (qs : List (Nat × X)) (es : List AV) (ds : Array Value), pV n ps = some qs → es.length = len → wD K sz es ds →
      (qs.all fun p => decide (p.1 < len) && ((cells (ev f p.2)).length == sz && fI (cells (ev f p.2)))) = true →
      ∃ ds', Instr.fill (fun i => some (i * sz, sz)) ds (ps.map fun p => (p.1, a.eval p.2)) = some ds' ∧ wD K sz (putp f es qs) ds' ∧ (putp f es qs).length = len
  | [], qs, es, ds, h, hl, r, _ => by cases h; exact ⟨ds, rfl, r, hl⟩
  | (i, o) :: ps, qs, es, ds, h, hl, r, hq => by
    simp only [pV, Option.bind_eq_some_iff, Option.map_eq_some_iff] at h
    obtain ⟨x, h1, qs', h2, rfl⟩ := h
    simp only [List.all_cons, Bool.and_eq_true, decide_eq_true_eq, beq_iff_eq] at hq
    obtain ⟨⟨q1, q2, q3⟩, q4⟩ := hq
    have hx : fits sz (ev f x) := ⟨q2, iA q3⟩
    have rx := aJ hf h1
    have r' := r.set (i := i) (by rw [hl]; exact q1) rx hx
    obtain ⟨ds', e1, e2, e3⟩ := qB hf ps qs' (es.set i (ev f x)) _ h2 (by simpa using hl) r' (by simpa using q4)
    refine ⟨ds', ?_, e2, e3⟩
    have k1 : (a.eval o).cells.size = sz := by rw [dD rx (fH hx.2), q2]
    have k2 : i * sz + sz ≤ ds.size := by rw [r.size]; exact bC (by rw [hl]; exact q1)
    simp only [List.map_cons, Instr.fill, k1, ne_eq, not_true_eq_false, false_or]
    rw [if_neg (by simp; omega), ← e1]
    congr 1
    rw [← Array.foldl_toList, Array.toList_zipIdx]
theorem kQ {K : KW} {sz len : Nat} {z : AV} {zv : Value} (r : RelV K z zv) (hz : fits sz z) (h0 : 0 < sz) : wD K sz (cQ len z) ((Array.range (len * sz)).map (zv.cells[· % zv.cells.size]!)) := by
  have hok := fH hz.2
  have hsz : zv.cells.size = sz := by rw [dD r hok, hz.1]
  refine ⟨by simp [cQ], fun x hx => ?_, fun i k x y hx hy => ?_⟩
  · simp [cQ] at hx; rw [hx.2]; exact hz
  · have hi := (List.getElem?_eq_some_iff.1 hx).1
    have hx' : x = z := by
      have := List.mem_of_getElem? hx
      simp [cQ] at this; exact this.2
    subst hx'
    have hk : k < sz := by have := (List.getElem?_eq_some_iff.1 hy).1; rw [hz.1] at this; exact this
    have hil : i < len := by simpa [cQ] using hi
    have hb : i * sz + k < len * sz := by have := bC (sz := sz) hil; omega
    have hm : (i * sz + k) % sz = k := by rw [Nat.add_comm, Nat.add_mul_mod_self_right, Nat.mod_eq_of_lt hk]
    have e : ((Array.range (len * sz)).map (zv.cells[· % zv.cells.size]!)).getD (i * sz + k) Go.undef = zv.cells.getD k Go.undef := by
      rw [hsz]
      simp [Array.getD_eq_getD_getElem?, hb, hm, hsz, hk]
    rw [e]
    exact fY r hok hy
theorem yV {P : Program} {n : Nat} {o : Oper} {t e : TypeId} {len : Nat} {ps : Array (Nat × Operand)} (ho : o.op = .buildSlice t len ps) (he : elemOf? P t = some e) {i : TypeInfo} (hi : P.info? e = some i) {z : AV} (hz : i.zero.bind uM = some z) (hzs : (cells z).length = i.size) (h0 : 0 < i.size) (hbig : len * i.size ≤ 16777216) {qs : List (Nat × X)} (hq : pV n ps.toList = some qs) : sE P n o (.bsl i.size len z qs) := by
  intro f H v H' hx
  simp only [aH] at hx
  split at hx
  · rename_i hc
    cases hx
    refine ⟨i.size, putp f (cQ len z) qs, fun t => .ref i.size t 0 (putp f (cQ len z) qs).length (putp f (cQ len z) qs).length true, rfl, rfl, fun K w a Hc t hf hr ht hp hl => ?_⟩
    simp only [Option.bind_eq_some_iff] at hz
    obtain ⟨zv, hz1, hz2⟩ := hz
    obtain ⟨rz, hsc⟩ := eK (K := K) hz2
    have row := kQ (len := len) rz ⟨hzs, hsc⟩ h0
    obtain ⟨ds', e1, e2, e3⟩ := qB hf (len := len) ps.toList qs _ _ hq (by simp [cQ]) row hc
    have hR := hr.placed ht hp hl e2.fit ds' e len (by omega) (by rw [e2.size, e3]; exact Nat.le_refl _) e2.rel
    rw [e3]
    refine ⟨.slice (some ⟨w.heap.size, 0, none⟩) len len, _, _, ?_, hR, ?_⟩
    · have hmap : (ps.map fun p => (p.1, a.eval p.2)).toList = ps.toList.map fun p => (p.1, a.eval p.2) := by simp
      have hsz : (sizeOf e).run P w = .ok i.size w := by simp [sizeOf, typeInfo, hi]
      have hzero : (zeroValue e).run P w = .ok zv w := by simp [zeroValue, typeInfo, hi, hz1]
      simp only [dN, execOp, ho, Instr.buildSlice, Sem.run_bind, run_underlying (aV he), Result.andThen_ok, hsz]
      rw [if_neg (by omega)]
      by_cases c : len * i.size = 0
      · have hcells : (Array.range (len * i.size)).map ((#[] : Array Value)[· % (#[] : Array Value).size]!) = (Array.range (len * i.size)).map (zv.cells[· % zv.cells.size]!) := by
          rw [c, show Array.range 0 = #[] from rfl]; simp
        rw [if_pos c]
        simp only [Sem.run_bind, Sem.run_pure, Result.andThen_ok]
        rw [hcells, hmap, e1]
        simp only [newRow, Sem.run_bind, run_newObj, Result.andThen_ok, Sem.run_pure]
        rfl
      · rw [if_neg c]
        simp only [Sem.run_bind, hzero, Sem.run_pure, Result.andThen_ok]
        rw [hmap, e1]
        simp only [newRow, Sem.run_bind, run_newObj, Result.andThen_ok, Sem.run_pure]
        rfl
    · exact .ref (KW.place_self K t _) rfl (Nat.le_refl _) (Nat.le_refl _) (fun _ => rfl) (fun _ => ⟨by simp [bK.at], (show 0 + len ≤ len by omega)⟩)
  · cases hx
end Go.Eng
end
section
set_option linter.unusedVariables false
set_option linter.unusedSimpArgs false
namespace Go.Eng
open Go
def KB (P : Program) (o : Oper) (a : Act) (w : World) (v : Value) (w' : World) : Prop := (execOp a.eval o).run P w = .ok (.value v) w' ∨ ((execOp a.eval o).run P w = .ok .skip w' ∧ v = Go.undef)
def fL (P : Program) (n : Nat) (o : Oper) (i : AI) : Prop :=
  ∀ K w H f a v H', gE n K f a → Rel K w H → aH i f H = some (v, H') → ∃ cv w' K', KB P o a w cv w' ∧ Ext K H K' H' ∧ Rel K' w' H' ∧ RelV K' v cv
def OA : Array Value → Nat → List Value → Array Value
  | c, _, [] => c
  | c, o, v :: r => OA (c.setIfInBounds o v) (o + 1) r
theorem kR : ∀ (vs : List Value) (c : Array Value) (o : Nat), (OA c o vs).size = c.size
  | [], _, _ => rfl
  | v :: r, c, o => by simp only [OA]; rw [kR r]; simp
theorem kS : ∀ (vs : List Value) (c : Array Value) (o q : Nat), o + vs.length ≤ c.size → (OA c o vs).getD q Go.undef = if o ≤ q ∧ q < o + vs.length then vs.getD (q - o) Go.undef else c.getD q Go.undef
  | [], c, o, q, h => by rw [if_neg (by simp)]; rfl
  | v :: r, c, o, q, h => by
    simp at h
    simp only [OA]
    rw [kS r _ (o + 1) q (by simp; omega)]
    by_cases c1 : o + 1 ≤ q ∧ q < o + 1 + r.length
    · rw [if_pos c1, if_pos (by simp; omega), show q - o = (q - (o + 1)) + 1 by omega]
      simp
    · rw [if_neg c1]
      by_cases c2 : q = o
      · subst c2
        have hq : q < c.size := by omega
        rw [if_pos (by simp)]
        simp [Array.getD_eq_getD_getElem?, Array.getElem?_setIfInBounds, hq]
      · rw [if_neg (by simp; omega)]
        simp [Array.getD_eq_getD_getElem?, Array.getElem?_setIfInBounds, Ne.symm c2]
theorem eU (b : Nat) {T : TypeId} {fr : Nat × Nat} : ∀ (vs : List Value) (o : Nat) (w : World) (cur : Array Value), w.heap[b]? = some (.cells cur T fr) →
    (w.setCells b o vs).heap[b]? = some (.cells (OA cur o vs) T fr) ∧ ∀ b', b' ≠ b → (w.setCells b o vs).heap[b']? = w.heap[b']?
  | [], o, w, cur, h => ⟨h, fun _ _ => rfl⟩
  | v :: r, o, w, cur, h => by
    have h1 : (w.setCell ⟨b, o, none⟩ v).heap[b]? = some (.cells (cur.setIfInBounds o v) T fr) := by
      have hlt := (Array.getElem?_eq_some_iff.1 h).1
      have hv := (Array.getElem?_eq_some_iff.1 h).2
      show (w.heap.modify b _)[b]? = _
      rw [Array.getElem?_modify, if_pos rfl, h]
      simp
    obtain ⟨a1, a2⟩ := eU b r (o + 1) (w.setCell ⟨b, o, none⟩ v) _ h1
    refine ⟨a1, fun b' hb => (a2 b' hb).trans ?_⟩
    show (w.heap.modify b _)[b']? = _
    rw [Array.getElem?_modify, if_neg (Ne.symm hb)]
theorem gR (b : Nat) : ∀ (vs : List Value) (o : Nat) (w : World), ioW (w.setCells b o vs) = ioW w
  | [], _, _ => rfl
  | v :: r, o, w => gR b r (o + 1) (w.setCell ⟨b, o, none⟩ v)
theorem putl_getElem? : ∀ (xs cs : List AV) (k j : Nat), k + xs.length ≤ cs.length → (putl cs k xs)[j]? = if k ≤ j ∧ j < k + xs.length then xs[j - k]? else cs[j]?
  | [], cs, k, j, h => by rw [if_neg (by simp)]; rfl
  | x :: r, cs, k, j, h => by
    simp at h
    simp only [putl]
    rw [putl_getElem? r _ (k + 1) j (by simp; omega)]
    by_cases c1 : k + 1 ≤ j ∧ j < k + 1 + r.length
    · rw [if_pos c1, if_pos (by simp; omega), show j - k = (j - (k + 1)) + 1 by omega]
      simp
    · rw [if_neg c1]
      by_cases c2 : j = k
      · subst c2
        rw [if_pos (by simp), List.getElem?_set, if_pos rfl, if_pos (by omega)]
        simp
      · rw [if_neg (by simp; omega), List.getElem?_set, if_neg (Ne.symm c2)]
theorem mO {e : AV} {k : Nat} {xs : List AV} (hx : ∀ y ∈ xs, dH y = true) (hk : k + xs.length ≤ (cells e).length) (he : okc e = true) : cells (kK e k xs) = putl (cells e) k xs := by
  cases e with
  | agg cs => rfl
  | undef => cases he
  | tup vs => cases he
  | _ =>
    simp only [kK, cells, List.length_cons, List.length_nil] at hk ⊢
    cases xs with
    | nil => simp [putl, cells]
    | cons y ys =>
      have h1 : ys = [] := List.eq_nil_of_length_eq_zero (by simp at hk; omega)
      have h2 : k = 0 := by simp at hk; omega
      subst h1; subst h2
      have := hx y (by simp)
      cases y <;> first | (simp [putl, cells]; done) | cases this
theorem yW {sz : Nat} {e : AV} {k : Nat} {xs : List AV} (hx : ∀ y ∈ xs, dH y = true) (hk : k + xs.length ≤ (cells e).length) (he : fits sz e) : fits sz (kK e k xs) := by
  have hc := mO hx hk (fH he.2)
  refine ⟨by rw [hc, kP]; exact he.1, fun y hy => ?_⟩
  rw [hc] at hy
  obtain ⟨j, hj⟩ := List.getElem?_of_mem hy
  rw [putl_getElem? xs (cells e) k j hk] at hj
  split at hj
  · exact hx y (List.mem_of_getElem? hj)
  · exact he.2 y (List.mem_of_getElem? hj)
theorem qC {P : Program} {n : Nat} {o : Oper} {t : TypeId} {x y : Operand} (ho : o.op = .store t x y) {x' y' : X} (h1 : aM n x = some x') (h2 : aM n y = some y') {sz : Nat} (hs : size? P t = some sz) : fL P n o (.store sz x' y') := by
  intro K w H f a v H' hf hr he
  have r1 := aJ hf h1
  have r2 := aJ hf h2
  simp only [aH, Option.map_eq_some_iff] at he
  obtain ⟨H1, h3, h4⟩ := he
  cases h4
  generalize ev f x' = q at *
  generalize ev f y' = u at *
  unfold dS at h3
  split at h3
  · rename_i t' i k
    simp only [Option.bind_eq_some_iff] at h3
    obtain ⟨⟨osz, es⟩, g1, e, g2, g3⟩ := h3
    dsimp only at g2 g3
    by_cases hc : (cells u).length = sz ∧ k + sz ≤ (cells e).length ∧ fI (cells u) = true
    case neg => rw [if_neg hc] at g3; cases g3
    rw [if_pos hc] at g3
    cases g3
    obtain ⟨c1, c2, c3⟩ := hc
    have hsc := iA c3
    have rc := r2.cells (fH hsc)
    generalize hcx : a.eval x = cx at r1
    cases r1 with
    | ptr hp =>
      rename_i p
      have L := hr.live t' p osz es hp (obj?_some g1)
      obtain ⟨cs, T, hb, hsz, hrd⟩ := L.block
      have hi := (List.getElem?_eq_some_iff.1 g2).1
      have hfe := L.fit e (List.mem_of_getElem? g2)
      have hmul := bC (sz := osz) (Nat.lt_of_lt_of_le hi L.len)
      have hlen : (a.eval y).cells.toList.length = sz := by rw [← rc.1, c1]
      have hin : p.off + (i * osz + k) + (a.eval y).cells.toList.length ≤ cs.size := by rw [hlen]; have := hfe.1; omega
      have hst := run_storeCells_cells (P := P) p.b (p.off + (i * osz + k)) (a.eval y).cells.toList 0 w
        (fun j hj => by simp only [Nat.add_zero]; rw [kM hb (by omega)]; rfl) (fun j hj => by simp [World.frozen?, hb]) (rc.one hsc)
      simp only [Nat.add_zero] at hst
      obtain ⟨u1, u2⟩ := eU p.b (a.eval y).cells.toList (p.off + (i * osz + k)) w cs hb
      refine ⟨Go.undef, w.setCells p.b (p.off + (i * osz + k)) (a.eval y).cells.toList, K, .inr ⟨?_, rfl⟩, Ext.set hp _, ?_, .undef _⟩
      · have hsz' : (a.eval y).cells.size = sz := by rw [← hlen, Array.length_toList]
        have hpsz := L.psz
        simp only [dN, execOp, ho, hcx, Instr.storeAt, Instr.sureAddr, Sem.run_bind, Sem.run_pure, Result.andThen_ok, storeVar, run_size? hs, hsz', bK.at, hpsz]
        simp only [ne_eq, not_true_eq_false, if_false]
        rw [hst]
        rfl
      · refine hr.update hp (obj?_some g1) (fun z hz => ?_) (by simpa using L.len) (gR _ _ _ _) u1 u2 (by rw [kR]; exact hsz) (fun i2 k2 z zz hz hzz => ?_)
        · rcases List.mem_or_eq_of_mem_set hz with hz | rfl
          · exact L.fit z hz
          · exact yW hsc (by rw [c1]; exact c2) hfe
        · rw [kS _ _ _ _ hin, hlen]
          rw [List.getElem?_set] at hz
          by_cases ei : i = i2
          · subst ei
            rw [if_pos rfl, if_pos hi] at hz
            cases hz
            rw [mO hsc (by rw [c1]; exact c2) (fH hfe.2), putl_getElem? _ _ _ _ (by rw [c1]; exact c2), c1] at hzz
            by_cases ck : k ≤ k2 ∧ k2 < k + sz
            · rw [if_pos ck] at hzz
              rw [if_pos (by omega)]
              rw [show p.off + (i * osz + k2) - (p.off + (i * osz + k)) = k2 - k by omega]
              have hj : k2 - k < (a.eval y).cells.toList.length := by omega
              have := rc.2 (k2 - k) zz _ hzz (List.getElem?_eq_getElem hj)
              rw [List.getD_eq_getElem?_getD, List.getElem?_eq_getElem hj]
              exact this
            · rw [if_neg ck] at hzz
              rw [if_neg (by omega)]
              exact hrd _ _ _ _ g2 hzz
          · rw [if_neg ei] at hz
            have hk2 : k2 < osz := by have := (List.getElem?_eq_some_iff.1 hzz).1; rw [(L.fit z (List.mem_of_getElem? hz)).1] at this; exact this
            have hfe1 := hfe.1
            rw [if_neg ?_]
            · exact hrd _ _ _ _ hz hzz
            · intro ⟨d1, d2⟩
              rcases Nat.lt_or_gt_of_ne ei with l | l
              · have := bC (sz := osz) l; omega
              · have := bC (sz := osz) l; omega
  · cases h3
end Go.Eng
end
section
set_option linter.unusedVariables false
set_option linter.unusedSimpArgs false
namespace Go.Eng
open Go
structure jT (K : KW) (sz : Nat) (es : List AV) (vs : List Value) : Prop where
  len : vs.length = es.length * sz
  fit : ∀ x ∈ es, fits sz x
  rel : ∀ i k x y, es[i]? = some x → (cells x)[k]? = some y → RelV K y (vs.getD (i * sz + k) Go.undef)
theorem jT.nil (K : KW) (sz : Nat) : jT K sz [] [] := ⟨by simp, (fun x h => by cases h), (fun i k x y h _ => by simp at h)⟩
theorem jT.one {K : KW} {sz : Nat} {es : List AV} {vs : List Value} (h : jT K sz es vs) : ∀ u ∈ vs, u.oneCell' = true := by
  intro u hu
  obtain ⟨j, hj⟩ := List.getElem?_of_mem hu
  have hlt := (List.getElem?_eq_some_iff.1 hj).1
  rw [h.len] at hlt
  have hz : 0 < sz := by
    cases sz with
    | zero => simp at hlt
    | succ n => omega
  have hi : j / sz < es.length := (Nat.div_lt_iff_lt_mul hz).2 hlt
  have hx : es[j / sz]? = some es[j / sz] := List.getElem?_eq_getElem hi
  have hf := h.fit _ (List.getElem_mem hi)
  have hk : j % sz < (cells es[j / sz]).length := by rw [hf.1]; exact Nat.mod_lt _ hz
  have := h.rel _ _ _ _ hx (List.getElem?_eq_getElem hk)
  rw [show j / sz * sz + j % sz = j by rw [Nat.mul_comm]; exact Nat.div_add_mod j sz, List.getD_eq_getElem?_getD, hj] at this
  exact this.one (hf.2 _ (List.getElem_mem hk))
theorem jT.append {K : KW} {sz : Nat} {es fs : List AV} {vs us : List Value} (h : jT K sz es vs) (g : jT K sz fs us) : jT K sz (es ++ fs) (vs ++ us) := by
  refine ⟨by simp [h.len, g.len, Nat.add_mul], fun x hx => ?_, fun i k x y hx hy => ?_⟩
  · rcases List.mem_append.1 hx with hx | hx
    · exact h.fit x hx
    · exact g.fit x hx
  · by_cases hi : i < es.length
    · rw [List.getElem?_append_left hi] at hx
      have hk : k < sz := by have := (List.getElem?_eq_some_iff.1 hy).1; rw [(h.fit x (List.mem_of_getElem? hx)).1] at this; exact this
      have hb : i * sz + k < vs.length := by rw [h.len]; have := bC (sz := sz) hi; omega
      rw [List.getD_eq_getElem?_getD, List.getElem?_append_left hb, ← List.getD_eq_getElem?_getD]
      exact h.rel i k x y hx hy
    · rw [List.getElem?_append_right (by omega)] at hx
      have hb : vs.length ≤ i * sz + k := by
        rw [h.len]
        have : es.length * sz ≤ i * sz := Nat.mul_le_mul_right sz (by omega)
        omega
      rw [List.getD_eq_getElem?_getD, List.getElem?_append_right hb, ← List.getD_eq_getElem?_getD, h.len]
      have := g.rel _ k x y hx hy
      rw [Nat.sub_mul] at this
      have : es.length * sz ≤ i * sz := Nat.mul_le_mul_right sz (by omega)
      rw [show i * sz + k - es.length * sz = i * sz - es.length * sz + k by omega]
      assumption
theorem jT.mono {K K' : KW} (hk : K.le K') {sz : Nat} {es : List AV} {vs : List Value} (h : jT K sz es vs) : jT K' sz es vs := ⟨h.len, h.fit, fun i k x y a b => (h.rel i k x y a b).mono hk⟩
def span (cs : Array Value) (o m : Nat) : List Value := (List.range m).map fun j => cs.getD (o + j) Go.undef
theorem gS (cs : Array Value) (o m : Nat) : (span cs o m).length = m := by simp [span]
theorem uP {cs : Array Value} {o m j : Nat} (h : j < m) : (span cs o m)[j]? = some (cs.getD (o + j) Go.undef) := by simp [span, h]
theorem jT.span {K : KW} {sz : Nat} {es : List AV} {cs : Array Value} {o n : Nat} (hl : es.length = n) (hf : ∀ x ∈ es, fits sz x) (hr : ∀ i k x y, es[i]? = some x → (cells x)[k]? = some y → RelV K y (cs.getD (o + (i * sz + k)) Go.undef)) : jT K sz es (span cs o (n * sz)) := by
  refine ⟨by rw [gS, hl], hf, fun i k x y hx hy => ?_⟩
  have hi := (List.getElem?_eq_some_iff.1 hx).1
  have hk : k < sz := by have := (List.getElem?_eq_some_iff.1 hy).1; rw [(hf x (List.mem_of_getElem? hx)).1] at this; exact this
  have hb : i * sz + k < n * sz := by have := bC (sz := sz) (show i < n by omega); omega
  rw [List.getD_eq_getElem?_getD, uP hb]
  exact hr i k x y hx hy
theorem qD {P : Program} {K : KW} {w : World} {H : AH} (hr : Rel K w H) {sz : Nat} {x : AV} {v : Value} (r : RelV K x v) {xs : List AV} (h : elems sz x H = some xs) {tx e : TypeId} (ht : P.underlying tx = some (.slice e)) :
    ∃ A n cap news, v = .slice A n cap ∧ n = xs.length ∧ n ≤ cap ∧ Src P sz tx v n news w ∧ jT K sz xs news := by
  have src : ∀ (A : Addr) (n cap : Nat) (cs : Array Value) (T : TypeId) (fr : Nat × Nat) (o : Nat), w.heap[A.block]? = some (.cells cs T fr) → A = ⟨A.block, o, none⟩ → o + n * sz ≤ cs.size → jT K sz xs (span cs o (n * sz)) → n = xs.length → Src P sz tx (.slice (some A) n cap) n (span cs o (n * sz)) w := fun A n cap cs T fr o hb ha hs hR hn => by
    refine Src.ofSlice w ht A n cap _ (by rw [gS]) (fun j u hj => ?_) hR.one
    have hj' := (List.getElem?_eq_some_iff.1 hj).1
    rw [gS] at hj'
    rw [uP hj'] at hj
    cases hj
    rw [ha, Addr.add_lit]
    exact kM hb (by omega)
  have nil : ∀ (A : Option Addr) (cap : Nat), Src P sz tx (.slice A 0 cap) 0 [] w := fun A cap => by
    cases A with
    | none => exact Src.ofNil w ht cap
    | some a => exact Src.ofSlice w ht a 0 cap [] (by simp) (fun j u hj => by simp at hj) (fun u hu => by cases hu)
  unfold elems at h
  split at h
  · cases h; cases r
    exact ⟨_, _, _, [], rfl, rfl, Nat.le_refl _, nil _ _, jT.nil K sz⟩
  · split at h
    · rename_i hz
      subst hz
      cases h
      cases r with
      | list0 => exact ⟨_, _, _, [], rfl, rfl, Nat.zero_le _, nil _ _, jT.nil K _⟩
      | list hb hl hc he hn hs hrd =>
        have hR := jT.span hl hs hrd
        exact ⟨_, _, _, _, rfl, hl.symm, hc, src _ _ _ _ _ _ _ (hr.fz _ _ hb) rfl hn hR hl.symm, hR⟩
    · cases h
  · rename_i sz' t off n c ex
    simp only [Option.bind_eq_some_iff] at h
    obtain ⟨⟨osz, es⟩, h1, h2⟩ := h
    dsimp only at h2
    split at h2
    · rename_i hc
      obtain ⟨⟨e1, e2⟩, hle⟩ := hc
      subst e1; subst e2
      cases h2
      cases r with
      | ref hp hz hn hcap he ha =>
        rename_i p A cap
        have L := hr.live t p _ es hp (obj?_some h1)
        obtain ⟨cs, T, hb, hs, hrd⟩ := L.block
        have hlen : ((es.drop off).take n).length = n := by simp; omega
        by_cases hcz : 0 < cap
        · obtain ⟨a1, a2⟩ := ha hcz
          subst a1
          have hR : jT K osz ((es.drop off).take n) (span cs (p.off + off * osz) (n * osz)) := by
            refine jT.span hlen (fun x hx => L.fit x (List.mem_of_mem_drop (List.mem_of_mem_take hx))) (fun i k x y hx hy => ?_)
            rw [List.getElem?_take] at hx
            split at hx
            · rw [List.getElem?_drop] at hx
              have := hrd _ _ _ _ hx hy
              rw [Nat.add_mul] at this
              rw [show p.off + off * osz + (i * osz + k) = p.off + (off * osz + i * osz + k) by omega]
              exact this
            · cases hx
          refine ⟨_, _, _, _, rfl, hlen.symm, by omega, src _ _ _ _ _ _ _ hb (by simp [bK.at, hz]) ?_ hR hlen.symm, hR⟩
          have : off * osz + n * osz ≤ p.tot * osz := by rw [← Nat.add_mul]; exact Nat.mul_le_mul_right _ (by omega)
          omega
        · have hn0 : n = 0 := by omega
          subst hn0
          refine ⟨_, _, _, [], rfl, by simp, by omega, nil _ _, by simp only [List.take_zero]; exact jT.nil K _⟩
    · cases h2
  · cases h
theorem kU (w : World) (need old : Nat) (e : TypeId) : need ≤ grownCap w need old e := by
  unfold grownCap Question.cut; exact Nat.le_add_right _ _
theorem KC {P : Program} {K : KW} {w : World} {H : AH} (hr : Rel K w H) {t tx ty e : TypeId} {i : TypeInfo} {z : Value} (ht : P.underlying t = some (.slice e)) (hi : P.info? e = some i) (hz : i.zero = some z) (hzs : z.cells.size = i.size) (hb0 : 0 < i.bytes)
    {A : Option Addr} {sLen sCap n : Nat} {olds news : List Value} {ss xs : List AV} {x : Value} (ho : (Builtin.firstCells i.size sLen (.slice A sLen sCap)).run P w.drew = .ok olds.toArray w.drew) (hs : Src P i.size tx x n news w)
    (R1 : jT K i.size ss olds) (R2 : jT K i.size xs news) (e1 : ss.length = sLen) (e2 : xs.length = n) (hg : sCap < sLen + n) (hby : (sLen + n) * i.bytes ≤ 140737488355328) :
    ∃ cv w' p, (Builtin.append_ #[t, tx] ty #[.slice A sLen sCap, x]).run P w = .ok cv w' ∧ Rel (K.place H.length p) w' (H ++ [aR.live i.size (ss ++ xs)]) ∧ RelV (K.place H.length p) (.ref i.size H.length 0 (ss ++ xs).length (ss ++ xs).length false) cv := by
  have hneed : sLen + n ≤ 140737488355328 := by
    have : sLen + n ≤ (sLen + n) * i.bytes := Nat.le_mul_of_pos_right _ hb0
    omega
  have hrun := run_append_grow_src (P := P) w t tx ty e i z ht hi hz A sLen sCap olds ho x n news hs hg (by omega) (growslice_fits hg hby)
  have hcap := kU w (sLen + n) sCap e
  generalize grownCap w (sLen + n) sCap e = C at hrun hcap
  have R := R1.append R2
  have hlen : (ss ++ xs).length = sLen + n := by simp [e1, e2]
  have hsize : ((olds ++ news).toArray ++ Builtin.zeroCells z.cells (C - (sLen + n))).size = C * i.size := by
    simp only [Array.size_append, List.size_toArray, R.len, hlen, Builtin.zeroCells, Array.size_map, Array.size_range, hzs]
    rw [← Nat.add_mul]; congr 1; omega
  have hR := (hr.heap (w' := w.drew) rfl rfl).alloc (sz := i.size) (es := ss ++ xs) R.fit ((olds ++ news).toArray ++ Builtin.zeroCells z.cells (C - (sLen + n))) e C (by omega) (by rw [hsize]; exact Nat.le_refl _) (fun j k u y hu hy => by
    have h1 := R.rel j k u y hu hy
    have hj := (List.getElem?_eq_some_iff.1 hu).1
    have hk : k < i.size := by have := (List.getElem?_eq_some_iff.1 hy).1; rw [(R.fit u (List.mem_of_getElem? hu)).1] at this; exact this
    have hb : j * i.size + k < (olds ++ news).length := by rw [R.len]; have := bC (sz := i.size) hj; omega
    have : ((olds ++ news).toArray ++ Builtin.zeroCells z.cells (C - (sLen + n))).getD (j * i.size + k) Go.undef = (olds ++ news).getD (j * i.size + k) Go.undef := by
      rw [Array.getD_eq_getD_getElem?, Array.getElem?_append_left (by simpa using hb), List.getD_eq_getElem?_getD]
      simp
    rw [this]; exact h1)
  refine ⟨_, _, _, hrun, hR, ?_⟩
  rw [hlen]
  exact .ref (KW.place_self K _ _) rfl (Nat.le_refl _) hcap (fun h => by cases h) (fun _ => ⟨by simp [bK.at], (show 0 + C ≤ C by omega)⟩)
end Go.Eng
end
section
set_option linter.unusedVariables false
set_option linter.unusedSimpArgs false
namespace Go.Eng
open Go
theorem nH {K : KW} {w : World} {H : AH} (hr : Rel K w H) {t sz m : Nat} {p : bK} {es es' xs : List AV} {news : List Value} (hp : K.pl t = some p) (hl : H[t]? = some (aR.live sz es)) (R : jT K sz xs news) (hm : m + xs.length ≤ p.tot) (hlen : es'.length ≤ p.tot)
    (hes : ∀ i x, es'[i]? = some x → (m ≤ i ∧ i < m + xs.length ∧ xs[i - m]? = some x) ∨ ((i < m ∨ m + xs.length ≤ i) ∧ es[i]? = some x)) :
    Rel K (w.setCells p.b (p.off + m * sz) news) (List.set H t (aR.live sz es')) ∧ (∀ j, j < news.length → (w.cell? ⟨p.b, p.off + m * sz + j, none⟩).isSome = true) ∧ (∀ j, j < news.length → w.frozen? ⟨p.b, p.off + m * sz + j, none⟩ = false) := by
  have L := hr.live t p sz es hp hl
  obtain ⟨cs, T, hb, hs, hrd⟩ := L.block
  have hmul : m * sz + xs.length * sz ≤ p.tot * sz := by rw [← Nat.add_mul]; exact Nat.mul_le_mul_right _ hm
  have hin : p.off + m * sz + news.length ≤ cs.size := by rw [R.len]; omega
  obtain ⟨u1, u2⟩ := eU p.b news (p.off + m * sz) w cs hb
  refine ⟨hr.update hp hl (fun x hx => ?_) hlen (gR _ _ _ _) u1 u2 (by rw [kR]; exact hs) (fun i k x y hx hy => ?_), fun j hj => by rw [kM hb (by omega)]; rfl, fun j hj => by simp [World.frozen?, hb]⟩
  · obtain ⟨i, hi⟩ := List.getElem?_of_mem hx
    rcases hes i x hi with ⟨_, _, h⟩ | ⟨_, h⟩
    · exact R.fit x (List.mem_of_getElem? h)
    · exact L.fit x (List.mem_of_getElem? h)
  · rw [kS _ _ _ _ hin, R.len]
    rcases hes i x hx with ⟨c1, c2, h⟩ | ⟨c1, h⟩
    · have hk : k < sz := by have := (List.getElem?_eq_some_iff.1 hy).1; rw [(R.fit x (List.mem_of_getElem? h)).1] at this; exact this
      have e1 : m * sz ≤ i * sz := Nat.mul_le_mul_right _ c1
      have e2 : (i - m) * sz + sz ≤ xs.length * sz := bC (by omega)
      have e3 : (i - m) * sz = i * sz - m * sz := Nat.sub_mul ..
      rw [if_pos (by omega)]
      have := R.rel _ k x y h hy
      rw [show p.off + (i * sz + k) - (p.off + m * sz) = (i - m) * sz + k by omega]
      exact this
    · have hk : k < sz := by have := (List.getElem?_eq_some_iff.1 hy).1; rw [(L.fit x (List.mem_of_getElem? h)).1] at this; exact this
      rw [if_neg ?_]
      · exact hrd i k x y h hy
      · intro ⟨d1, d2⟩
        rcases c1 with c1 | c1
        · have := bC (sz := sz) c1; omega
        · have : (m + xs.length) * sz ≤ i * sz := Nat.mul_le_mul_right _ c1
          rw [Nat.add_mul] at this; omega
theorem uQ (H : AH) (a b : aR) : List.set (H ++ [a]) H.length b = H ++ [b] := by
  rw [List.set_append_right _ _ (Nat.le_refl _), Nat.sub_self]; rfl
theorem wF {P : Program} {n : Nat} {o : Oper} {c : Call} {s x : Operand} {ts tx e e2 : TypeId} (ho : o.op = .call c) (hb : c.callee = .builtin .append) (hargs : c.args.toList = [s, x]) (hty : c.argTypes.toList = [ts, tx])
    (h1 : elemOf? P ts = some e) (h2 : elemOf? P tx = some e2) {i : TypeInfo} (hi : P.info? e = some i) {z : AV} (hz : i.zero.bind uM = some z) (hzs : (cells z).length = i.size) (h0 : 0 < i.bytes) {s' x' : X} (hs : aM n s = some s') (hx : aM n x = some x') :
    fL P n o (.app i.size i.bytes s' x') := by
  intro K w H f a v H' hf hr he
  have r1 := aJ hf hs
  have r2 := aJ hf hx
  simp only [Option.bind_eq_some_iff] at hz
  obtain ⟨zv, hz1, hz2⟩ := hz
  obtain ⟨rz, hsc⟩ := eK (K := K) hz2
  have hzsz : zv.cells.size = i.size := by rw [dD rz (fH hsc), hzs]
  have ha : c.args = #[s, x] := Array.toList_inj.1 (by simpa using hargs)
  have hta : c.argTypes = #[ts, tx] := Array.toList_inj.1 (by simpa using hty)
  have run : ∀ cv w', (Builtin.append_ #[ts, tx] o.type #[a.eval s, a.eval x]).run P w = .ok cv w' → KB P o a w cv w' := fun cv w' h => by
    refine .inl ?_
    simp [execOp, ho, resolve, hb, ha, hta, invoke, builtin, h]
  have ut := aV h1
  have ux := aV h2
  simp only [aH] at he
  generalize ev f s' = sv at *
  generalize ev f x' = xv at *
  unfold mM at he
  simp only [Option.bind_eq_some_iff] at he
  obtain ⟨xs, g1, ss, g2, g3⟩ := he
  obtain ⟨A2, n2, cap2, news, q1, q2, q3, q4, q5⟩ := qD hr r2 g1 ux
  obtain ⟨A1, n1, cap1, olds, p1, p2, p3, p4, p5⟩ := qD hr r1 g2 ut
  rw [q1] at q4 r2
  rw [p1] at p4 r1
  rw [p1, q1] at run
  by_cases hxs : xs = []
  · rw [if_pos hxs] at g3
    cases g3
    subst hxs
    have hn2 : n2 = 0 := by simpa using q2
    subst hn2
    have hnews : news = [] := List.eq_nil_of_length_eq_zero (by simpa using q5.len)
    subst hnews
    exact ⟨_, _, K, run _ _ (run_append_nothing w ts tx o.type e i ut hi A1 n1 cap1 p3 _ q4), Ext.refl K H, hr, r1⟩
  rw [if_neg hxs] at g3
  have hpos : 0 < xs.length := List.length_pos_iff.2 hxs
  by_cases hby : (ss.length + xs.length) * i.bytes ≤ 140737488355328
  case neg => rw [if_neg hby] at g3; cases g3
  rw [if_pos hby] at g3
  rw [← p2, ← q2] at hby
  have grow : ∀ H1, Rel K w H1 → cap1 < n1 + n2 → ∃ cv w' p, KB P o a w cv w' ∧ Rel (K.place H1.length p) w' (H1 ++ [aR.live i.size (ss ++ xs)]) ∧ RelV (K.place H1.length p) (.ref i.size H1.length 0 (ss ++ xs).length (ss ++ xs).length false) cv := fun H1 hr1 hg => by
    obtain ⟨cv, w', p, a1, a2, a3⟩ := KC hr1 ut hi hz1 hzsz h0 p4.cellsD q4 p5 q5 p2.symm q2.symm hg hby
    exact ⟨cv, w', p, run _ _ a1, a2, a3⟩
  have fin : ∀ H1, Rel K w H1 → (∀ p, Ext K H (K.place H1.length p) (H1 ++ [aR.live i.size (ss ++ xs)])) → cap1 < n1 + n2 → (v, H') = fresh H1 i.size (ss ++ xs) false → ∃ cv w' K', KB P o a w cv w' ∧ Ext K H K' H' ∧ Rel K' w' H' ∧ RelV K' v cv := fun H1 hr1 hE hg hv => by
    obtain ⟨cv, w', p, a1, a2, a3⟩ := grow H1 hr1 hg
    unfold fresh at hv
    simp only [Prod.mk.injEq] at hv
    obtain ⟨rfl, rfl⟩ := hv
    exact ⟨cv, w', _, a1, hE p, a2, a3⟩
  split at g3
  · cases r1
    cases g2
    simp only [Option.some.injEq] at g3
    exact fin H hr (fun p => hr.extAlloc _ p) (by omega) g3.symm
  · rename_i sz' l ex
    split at g3
    · rename_i hex
      simp only [Option.some.injEq] at g3
      simp only [elems] at g2
      split at g2
      · cases g2
        have hcap : cap1 = n1 := by
          cases r1 with
          | list0 he' => exact he' hex
          | list hb' hl hc' he' => exact he' hex
        exact fin H hr (fun p => hr.extAlloc _ p) (by omega) g3.symm
      · cases g2
    · cases g3
  · rename_i sz' t off m c' ex
    simp only [elems, Option.bind_eq_some_iff] at g2
    obtain ⟨⟨osz, es⟩, k1, k2⟩ := g2
    dsimp only at k2
    split at k2
    case isFalse => cases k2
    rename_i hc
    obtain ⟨⟨e1, e2⟩, hle⟩ := hc
    have e3 : i.size = osz := e2.symm
    cases k2
    have hl := obj?_some k1
    rw [e2] at hl
    cases r1 with
    | ref hp hpz hn hcap he' ha' =>
      rename_i p
      have L := hr.live t p _ es hp hl
      by_cases hfit : n1 + xs.length ≤ c'
      · rw [if_pos hfit] at g3
        simp only [Option.bind_eq_some_iff] at g3
        obtain ⟨⟨osz', es'⟩, k3, k4⟩ := g3
        rw [k1] at k3
        cases k3
        dsimp only at k4
        split at k4
        case isFalse => cases k4
        rename_i hin
        cases k4
        obtain ⟨b1, b2⟩ := ha' (by omega)
        subst b1
        have hlen : (es.take (off + n1) ++ xs ++ es.drop (off + n1 + xs.length)).length = es.length := by simp; omega
        obtain ⟨c1, c2, c3⟩ := nH (m := off + n1) (es' := es.take (off + n1) ++ xs ++ es.drop (off + n1 + xs.length)) hr hp hl q5 (by have := L.len; omega) (by rw [hlen]; exact L.len) (fun j y hy => by
          by_cases d1 : j < off + n1
          · rw [List.append_assoc, List.getElem?_append_left (by simp; omega), List.getElem?_take, if_pos d1] at hy
            exact .inr ⟨.inl d1, hy⟩
          · rw [List.append_assoc, List.getElem?_append_right (by simp; omega)] at hy
            have hlt : (es.take (off + n1)).length = off + n1 := by simp; omega
            rw [hlt] at hy
            by_cases d2 : j < off + n1 + xs.length
            · rw [List.getElem?_append_left (by omega)] at hy
              exact .inl ⟨by omega, by omega, hy⟩
            · rw [List.getElem?_append_right (by omega), List.getElem?_drop] at hy
              refine .inr ⟨.inr (by omega), ?_⟩
              rw [show off + n1 + xs.length + (j - (off + n1) - xs.length) = j by omega] at hy
              exact hy)
        have hadd : p.off + (off * p.sz + 0) + n1 * i.size = p.off + (off + n1) * i.size := by rw [L.psz, Nat.add_mul]; omega
        have hrun := run_append_room_src (P := P) w ts tx o.type e i ut hi p.b (p.off + (off * p.sz + 0)) n1 cap1 (.slice A2 n2 cap2) n2 news q4 (by omega) (fun j hj => by rw [hadd]; exact c2 j hj) (fun j hj => by rw [hadd]; exact c3 j hj)
        rw [hadd] at hrun
        rw [q2] at hrun run
        refine ⟨_, _, K, run _ _ hrun, Ext.set hp _, c1, ?_⟩
        exact .ref hp L.psz (by omega) hcap he' (fun h => ⟨rfl, b2⟩)
      · rw [if_neg hfit] at g3
        split at g3
        · rename_i hex
          simp only [Option.some.injEq] at g3
          have := he' hex
          exact fin H hr (fun p => hr.extAlloc _ p) (by omega) g3.symm
        · simp only [Option.some.injEq] at g3
          have hk : (List.set H t aR.dead).length = H.length := by simp
          by_cases hg : cap1 < n1 + n2
          · exact fin _ (hr.kill t) (fun q => by rw [hk]; exact hr.extMoved hp _ _ q) hg g3.symm
          · obtain ⟨b1, b2⟩ := ha' (by omega)
            subst b1
            have htot : off ≤ p.tot := by omega
            have hM := hr.moved hp hl off htot
            have hlast : (List.set H t aR.dead ++ [aR.live i.size (es.drop off)])[H.length]? = some (aR.live i.size (es.drop off)) := by
              rw [List.getElem?_append_right (by simp)]; simp
            have hss : ((es.drop off).take n1).length = n1 := by simp; omega
            obtain ⟨c1, c2, c3⟩ := nH (m := n1) (es' := (es.drop off).take n1 ++ xs) hM (KW.place_self K _ _) hlast (q5.mono (KW.le_place (hr.unplaced (Nat.le_refl _)))) (show n1 + xs.length ≤ p.tot - off by omega) (show ((es.drop off).take n1 ++ xs).length ≤ p.tot - off by rw [List.length_append, hss]; omega) (fun j y hy => by
              by_cases d1 : j < n1
              · rw [List.getElem?_append_left (by omega), List.getElem?_take, if_pos d1] at hy
                exact .inr ⟨.inl d1, hy⟩
              · rw [List.getElem?_append_right (by omega), hss] at hy
                have := (List.getElem?_eq_some_iff.1 hy).1
                exact .inl ⟨by omega, by omega, hy⟩)
            have hadd : p.off + (off * p.sz + 0) + n1 * i.size = p.off + off * i.size + n1 * i.size := by rw [L.psz]; omega
            have hrun := run_append_room_src (P := P) w ts tx o.type e i ut hi p.b (p.off + (off * p.sz + 0)) n1 cap1 (.slice A2 n2 cap2) n2 news q4 (by omega) (fun j hj => by rw [hadd]; exact c2 j hj) (fun j hj => by rw [hadd]; exact c3 j hj)
            rw [hadd] at hrun
            unfold fresh at g3
            rw [hk] at g3
            simp only [Prod.mk.injEq] at g3
            obtain ⟨rfl, rfl⟩ := g3
            have hlast2 : List.set (List.set H t aR.dead ++ [aR.live i.size (es.drop off)]) H.length (aR.live i.size ((es.drop off).take n1 ++ xs)) = List.set H t aR.dead ++ [aR.live i.size ((es.drop off).take n1 ++ xs)] := by
              have := uQ (List.set H t aR.dead) (aR.live i.size (es.drop off)) (aR.live i.size ((es.drop off).take n1 ++ xs))
              rwa [hk] at this
            rw [hlast2] at c1
            refine ⟨_, _, _, run _ _ hrun, hr.extMoved hp _ _ _, c1, ?_⟩
            have hlen : ((es.drop off).take n1 ++ xs).length = n1 + n2 := by rw [List.length_append, hss, q2]
            rw [hlen]
            refine .ref (KW.place_self K _ _) rfl (Nat.le_refl _) (by omega) (fun h => by cases h) (fun _ => ⟨?_, (show 0 + cap1 ≤ p.tot - off by omega)⟩)
            simp [bK.at, L.psz]
  · cases g3
end Go.Eng
end
section
set_option linter.unusedVariables false
set_option linter.unusedSimpArgs false
namespace Go.Eng
open Go
theorem yX {P : Program} {n : Nat} {o : Oper} {c : Call} {t e : TypeId} {x : Operand} (ho : o.op = .call c) (hb : c.callee = .builtin .cap) (hargs : c.args.toList = [x]) (hty : c.argTypes.toList = [t]) (h1 : elemOf? P t = some e) {x' : X} (hx : aM n x = some x') : cH P n o (.cap x') := by
  intro K w H f a v H' hf hr he
  have r1 := aJ hf hx
  have ha : c.args = #[x] := Array.toList_inj.1 (by simpa using hargs)
  have hta : c.argTypes = #[t] := Array.toList_inj.1 (by simpa using hty)
  simp only [aH, Option.map_eq_some_iff] at he
  obtain ⟨m, h2, h3⟩ := he
  cases h3
  generalize ev f x' = q at *
  generalize hcv : a.eval x = cv at r1
  have run : ∀ A k, cv = .slice A k m → dN P o a w (.int .i64 (m : Int)) w := fun A k e => by
    subst e
    simp [dN, execOp, ho, resolve, hb, ha, hta, invoke, builtin, hcv, Builtin.cap_, run_underlying (aV h1), goInt]
  refine ⟨rfl, .int .i64 (m : Int), ?_, .int _ _⟩
  unfold SN at h2
  split at h2
  · cases h2; cases r1; exact run _ _ rfl
  · split at h2
    · rename_i hex
      cases h2
      cases r1 with
      | list0 he' => have := he' hex; subst this; exact run _ _ rfl
      | list hb' hl hc' he' => have := he' hex; subst this; rw [hl] at *; exact run _ _ rfl
    · cases h2
  · split at h2
    · rename_i hex
      cases h2
      cases r1 with
      | ref hp hz hn hcap he' ha' => have := he' hex; subst this; exact run _ _ rfl
    · cases h2
  · cases h2
theorem wG {P : Program} {n : Nat} {o : Oper} {t e : TypeId} {l c : Operand} (ho : o.op = .makeSlice t l c) (h1 : elemOf? P t = some e) {i : TypeInfo} (hi : P.info? e = some i) {z : AV} (hz : i.zero.bind uM = some z) (hzs : (cells z).length = i.size) (h0 : 0 < i.size) {l' c' : X} (hl : aM n l = some l') (hc : aM n c = some c') :
    fL P n o (.mks i.size i.bytes z l' c') := by
  intro K w H f a v H' hf hr he
  simp only [aH, Option.bind_eq_some_iff] at he
  obtain ⟨m1, g1, m2, g2, g3⟩ := he
  split at g3
  case isFalse => cases g3
  rename_i hh
  obtain ⟨rfl, hh1, hh2, hh3⟩ := hh
  cases g3
  obtain ⟨k1, z1, e1, e2, e3⟩ := nat?_rel (aJ hf hl) g1
  obtain ⟨k2, z2, e4, e5, e6⟩ := nat?_rel (aJ hf hc) g2
  simp only [Option.bind_eq_some_iff] at hz
  obtain ⟨zv, hz1, hz2⟩ := hz
  obtain ⟨rz, hsc⟩ := eK (K := K) hz2
  have row := kQ (len := m1) rz ⟨hzs, hsc⟩ h0
  have hby : ((i.bytes : Int)) * z2 ≤ 281474976710656 := by
    have : ((i.bytes * m1 : Nat) : Int) ≤ 281474976710656 := by rw [Nat.mul_comm]; omega
    rw [Int.natCast_mul, show (m1 : Int) = z2 by omega] at this
    exact this
  have hrun := run_makeSlice (P := P) w t e i zv (aV h1) hi hz1 k1 k2 z1 z2 e2 (by omega) (by rw [e6]; exact hh1) hby (by omega)
  rw [e3, e6] at hrun
  have hlen : (cQ m1 z).length = m1 := by simp [cQ]
  have hR := hr.alloc row.fit ((Array.range (m1 * i.size)).map (zv.cells[· % zv.cells.size]!)) e m1 (by omega) (by rw [row.size, hlen]; exact Nat.le_refl _) row.rel
  refine ⟨.slice (some ⟨w.heap.size, 0, none⟩) m1 m1, _, _, .inl ?_, hr.extAlloc _ _, hR, ?_⟩
  · simp only [dN, execOp, ho, e1, e4]
    have : madeCells zv.cells (m1 * i.size) = (Array.range (m1 * i.size)).map (zv.cells[· % zv.cells.size]!) := rfl
    rw [this] at hrun
    simp only [Sem.run_bind, hrun, Result.andThen_ok, Sem.run_pure]
  · rw [hlen]
    exact .ref (KW.place_self K _ _) rfl (Nat.le_refl _) (Nat.le_refl _) (fun _ => rfl) (fun _ => ⟨by simp [bK.at], (show 0 + m1 ≤ m1 by omega)⟩)
theorem wH {P : Program} {n : Nat} {o : Oper} {c : Call} {t e : TypeId} {x : Operand} (ho : o.op = .call c) (hb : c.callee = .builtin .clear) (hargs : c.args.toList = [x]) (hty : c.argTypes.toList = [t]) (h1 : elemOf? P t = some e) {i : TypeInfo} (hi : P.info? e = some i) {z : AV} (hz : i.zero.bind uM = some z) (hs : i.size = 1) (hzs : dH z = true) {x' : X} (hx : aM n x = some x') : fL P n o (.clr 1 z x') := by
  intro K w H f a v H' hf hr he
  have r1 := aJ hf hx
  have ha : c.args = #[x] := Array.toList_inj.1 (by simpa using hargs)
  have hta : c.argTypes = #[t] := Array.toList_inj.1 (by simpa using hty)
  simp only [Option.bind_eq_some_iff] at hz
  obtain ⟨zv, hz1, hz2⟩ := hz
  obtain ⟨rz, hsc⟩ := eK (K := K) hz2
  have hone := rz.one hzs
  simp only [aH, Option.map_eq_some_iff] at he
  obtain ⟨H1, h2, h3⟩ := he
  have hH1 : H1 = H' := by cases h3; rfl
  have hv1 : v = .tup [] := by cases h3; rfl
  subst hH1; subst hv1
  generalize ev f x' = q at *
  generalize hcv : a.eval x = cv at r1
  have rt : RelV K (.tup []) (.tuple #[]) := .tup rfl (fun i x h => by simp at h)
  have run : ∀ w', (Builtin.clear_ #[t] o.type #[cv]).run P w = .ok (.tuple #[]) w' → KB P o a w (.tuple #[]) w' := fun w' h => by
    refine .inl ?_
    simp [execOp, ho, resolve, hb, ha, hta, invoke, builtin, hcv, h]
  have none_ : ∀ A k, cv = .slice A 0 k → H1 = H → ∃ cv w' K', KB P o a w cv w' ∧ Ext K H K' H1 ∧ Rel K' w' H1 ∧ RelV K' (.tup []) cv := fun A k e e' => by
    subst e; subst e'
    refine ⟨_, w, K, run w ?_, Ext.refl K _, hr, rt⟩
    cases A <;> simp [Builtin.clear_, run_underlying (aV h1)]
  unfold OM at h2
  split at h2
  · cases h2; cases r1; exact none_ _ _ rfl rfl
  · cases h2
    cases r1 with
    | list0 => exact none_ _ _ rfl rfl
    | list hb' hl => have hl' : 0 = _ := hl; subst hl'; exact none_ _ _ rfl rfl
  · rename_i sz' tt off m cp ex
    by_cases hm : m = 0
    · rw [if_pos hm] at h2
      cases h2; subst hm
      cases r1; exact none_ _ _ rfl rfl
    rw [if_neg hm] at h2
    split at h2
    case isFalse => cases h2
    rename_i e1
    simp only [Option.bind_eq_some_iff] at h2
    obtain ⟨⟨osz, es⟩, g1, g2⟩ := h2
    dsimp only at g2
    split at g2
    case isFalse => cases g2
    rename_i hh
    obtain ⟨hh1, hh2, hh3⟩ := hh
    subst hh1
    cases g2
    cases r1 with
    | ref hp hpz hn hcap he' ha' =>
      rename_i p A cap
      obtain ⟨a1, a2⟩ := ha' (by omega)
      subst a1
      have hob := obj?_some g1
      have L := hr.live tt p _ es hp hob
      have R : jT K 1 (List.replicate m z) (List.replicate m zv) := by
        refine ⟨by simp, fun y hy => ?_, fun j k y u hy hu => ?_⟩
        · rw [List.eq_of_mem_replicate hy]
          exact ⟨by cases z <;> first | rfl | simp [dH] at hzs, hsc⟩
        · have hj := (List.getElem?_eq_some_iff.1 hy).1
          rw [List.length_replicate] at hj
          have hyz : y = z := List.eq_of_mem_replicate (List.mem_of_getElem? hy)
          subst hyz
          have hc1 : cells y = [y] := by cases y <;> first | rfl | simp [dH] at hzs
          rw [hc1] at hu
          have hk : k = 0 := by
            have := (List.getElem?_eq_some_iff.1 hu).1
            simpa using this
          subst hk
          cases hu
          rw [List.getD_eq_getElem?_getD, List.getElem?_replicate, if_pos (by omega)]
          exact rz
      obtain ⟨q1, q2, q3⟩ := nH (es' := es.take off ++ List.replicate m z ++ es.drop (off + m)) hr hp hob R (m := off) (by simp; omega) (by simp; have := L.len; omega) (fun j y hy => by
        have hl1 : (es.take off).length = off := by simp; omega
        have hl2 : (es.take off ++ List.replicate m z).length = off + m := by simp; omega
        by_cases c1 : j < off
        · rw [List.append_assoc, List.getElem?_append_left (by omega), List.getElem?_take, if_pos c1] at hy
          exact .inr ⟨.inl c1, hy⟩
        · by_cases c2 : j < off + m
          · rw [List.getElem?_append_left (by omega), List.getElem?_append_right (by omega), hl1] at hy
            exact .inl ⟨by omega, by simpa using c2, hy⟩
          · rw [List.getElem?_append_right (by omega), hl2, List.getElem?_drop, show off + m + (j - (off + m)) = j by omega] at hy
            exact .inr ⟨.inr (by simp; omega), hy⟩)
      have hzero : ∀ w, (zeroValue e).run P w = .ok zv w := fun w => by simp [zeroValue, typeInfo, hi, hz1]
      have hzc : zv.cells = #[zv] := by
        cases zv <;> first | rfl | simp [Value.oneCell'] at hone
      have hc := Go.Lib.run_clear_slice (P := P) w t e o.type zv (aV h1) hzero hzc hone p.b (p.off + off) m cap (by omega) (fun j hj => by
        have := q2 j (by simpa using hj)
        simpa using this) (fun j hj => by
        have := q3 j (by simpa using hj)
        simpa using this)
      refine ⟨_, _, K, run _ ?_, Ext.set hp _, q1, rt⟩
      have hpa : p.at off 0 = ⟨p.b, p.off + off, none⟩ := by simp only [bK.at, hpz, e1, Nat.mul_one, Nat.add_zero]
      rw [hpa]
      simpa using hc
  · cases h2
theorem sG {P : Program} {n : Nat} {o : Oper} {c : Call} {s x : Operand} {ts tx e : TypeId} {κ : IntKind} (ho : o.op = .call c) (hb : c.callee = .builtin .append) (hargs : c.args.toList = [s, x]) (hty : c.argTypes.toList = [ts, tx])
    (h1 : elemOf? P ts = some e) (h2 : P.underlying tx = some (.int κ)) {i : TypeInfo} (hi : P.info? e = some i) {z : AV} (hz : i.zero.bind uM = some z) (hzs : (cells z).length = i.size) (h0 : 0 < i.bytes) (h0s : 0 < i.size) {s' x' : X} (hs : aM n s = some s') (hx : aM n x = some x') :
    fL P n o (.appz i.size i.bytes z s' x') := by
  intro K w H f a v H' hf hr he
  have r1 := aJ hf hs
  simp only [Option.bind_eq_some_iff] at hz
  obtain ⟨zv, hz1, hz2⟩ := hz
  obtain ⟨rz, hsc⟩ := eK (K := K) hz2
  have hzsz : zv.cells.size = i.size := by rw [dD rz (fH hsc), hzs]
  have ha : c.args = #[s, x] := Array.toList_inj.1 (by simpa using hargs)
  have hta : c.argTypes = #[ts, tx] := Array.toList_inj.1 (by simpa using hty)
  have run : ∀ cv w', (Builtin.append_ #[ts, tx] o.type #[a.eval s, a.eval x]).run P w = .ok cv w' → KB P o a w cv w' := fun cv w' h => by
    refine .inl ?_
    simp [execOp, ho, resolve, hb, ha, hta, invoke, builtin, h]
  simp only [aH, Option.bind_eq_some_iff] at he
  obtain ⟨m, g1, g2⟩ := he
  split at g2
  case isFalse => cases g2
  rename_i hh
  obtain ⟨k, zi, e1, e2, e3⟩ := nat?_rel (aJ hf hx) g1
  split at g2
  · rename_i hsv
    rw [hsv] at r1
    rw [e1] at run
    generalize a.eval s = cs at r1 run
    cases r1
    have wr : IntKind.i64.wrap zi = zi := by
      unfold IntKind.wrap
      have hb : IntKind.i64.bits = 64 := rfl
      have hs : IntKind.i64.signed = true := rfl
      have q1 : (2 : Int) ^ 64 = 18446744073709551616 := by decide
      have q2 : (2 : Int) ^ (64 - 1) = 9223372036854775808 := by decide
      simp only [hb, hs, Bool.true_and, q1, q2]
      have : zi % 18446744073709551616 = zi := by omega
      rw [this, if_neg (by simp; omega)]
    have n1 : ¬ zi < 0 := by omega
    have hzb : zi * (i.bytes : Int) ≤ 140737488355328 := by
      have : ((m * i.bytes : Nat) : Int) ≤ 140737488355328 := by omega
      rw [Int.natCast_mul, show (m : Int) = zi by omega] at this
      exact this
    have n2 : ¬ (281474976710656 < zi * (i.bytes : Int)) := by omega
    by_cases hm : m = 0
    · subst hm
      simp only [if_pos] at g2
      cases g2
      refine ⟨.slice none 0 0, w, K, run _ _ ?_, Ext.refl K H, hr, .nils⟩
      have hz0 : zi = 0 := by omega
      subst hz0
      simp [Builtin.append_, run_underlying (aV h1), run_underlying h2, sizeOf, typeInfo, hi, asInt, asIntOf, wr]
    · rw [if_neg hm] at g2
      unfold fresh at g2
      cases g2
      have hpos : 0 < m := by omega
      have row := kQ (len := m) rz ⟨hzs, hsc⟩ h0s
      have hgr : Builtin.nextslicecap m 0 = m := by unfold Builtin.nextslicecap; rw [if_pos (by omega)]
      have h48' : ¬ (281474976710656 < m * i.bytes) := by omega
      have h63' : ¬ (9223372036854775807 < (m : Int)) := by omega
      have hms : ¬ (m = 0 ∨ i.size = 0) := by omega
      have n3 : ¬ zi ≤ 0 := by omega
      have n4 : ¬ (9223372036854775807 < max zi 0) := by omega
      have hcap := kU w m 0 e
      have hrun : (Builtin.append_ #[ts, tx] o.type #[.slice none 0 0, .int k zi]).run P w = .ok (.slice (some ⟨w.heap.size, 0, none⟩) m (grownCap w m 0 e)) (w.drew.alloc (.cells ((Builtin.zeroCells zv.cells m) ++ Builtin.zeroCells zv.cells (grownCap w m 0 e - m)) e)) := by
        simp [Builtin.append_, run_underlying (aV h1), run_underlying h2, sizeOf, typeInfo, zeroValue, hi, hz1, asInt, asIntOf, wr, n1, n2, n3, n4, e3, hm, h63', hgr, h48', hms, Question.forced, Builtin.firstCells, newRow, grownCap]
        exact fun h => absurd h (Nat.ne_of_gt (Nat.mul_pos hpos h0s))
      generalize hC : grownCap w m 0 e = C at hcap hrun
      have hcells : ((Builtin.zeroCells zv.cells m) ++ Builtin.zeroCells zv.cells (C - m)).size = C * i.size := by
        simp only [Array.size_append, Builtin.zeroCells, Array.size_map, Array.size_range, hzsz]
        rw [← Nat.add_mul]; congr 1; omega
      have hlen : (cQ m z).length = m := by simp [cQ]
      have hR := (hr.heap (w' := w.drew) rfl rfl).alloc (sz := i.size) (es := cQ m z) row.fit ((Builtin.zeroCells zv.cells m) ++ Builtin.zeroCells zv.cells (C - m)) e C (by omega) (by rw [hcells]; exact Nat.le_refl _) (fun j k u y hu hy => by
        have q := row.rel j k u y hu hy
        have hj := (List.getElem?_eq_some_iff.1 hu).1
        have hk : k < i.size := by have := (List.getElem?_eq_some_iff.1 hy).1; rw [(row.fit u (List.mem_of_getElem? hu)).1] at this; exact this
        have hb : j * i.size + k < m * i.size := by rw [hlen] at hj; have := bC (sz := i.size) hj; omega
        have e : (Builtin.zeroCells zv.cells m ++ Builtin.zeroCells zv.cells (C - m)).getD (j * i.size + k) Go.undef = ((Array.range (m * i.size)).map (zv.cells[· % zv.cells.size]!)).getD (j * i.size + k) Go.undef := by
          rw [Array.getD_eq_getD_getElem?, Array.getElem?_append_left (by simp [Builtin.zeroCells, hzsz]; omega), Array.getD_eq_getD_getElem?]
          simp [Builtin.zeroCells, hzsz]
        rw [e]; exact q)
      refine ⟨_, _, _, run _ _ hrun, hr.extAlloc _ _, hR, ?_⟩
      rw [hlen]
      exact .ref (KW.place_self K _ _) rfl (Nat.le_refl _) hcap (fun h => by cases h) (fun _ => ⟨by simp [bK.at], (show 0 + C ≤ C by omega)⟩)
  · cases g2
end Go.Eng
end
section
set_option linter.unusedVariables false
set_option linter.unusedSimpArgs false
namespace Go.Eng
open Go
theorem cH.writes {P : Program} {n : Nat} {o : Oper} {i : AI} (h : cH P n o i) : fL P n o i := fun K w H f a v H' hf hr he => by
  obtain ⟨rfl, cv, h1, h2⟩ := h K w H f a v H' hf hr he
  exact ⟨cv, w, K, .inl h1, Ext.refl K _, hr, h2⟩
theorem sE.writes {P : Program} {n : Nat} {o : Oper} {i : AI} (h : sE P n o i) : fL P n o i := fun K w H f a v H' hf hr he => by
  obtain ⟨sz, es, g, rfl, rfl, h1⟩ := h f H v H' he
  obtain ⟨cv, w', p, h2, h3, h4⟩ := h1 K w a (H ++ [aR.live sz es]) H.length hf (hr.absent _) (by simp) (hr.unplaced (Nat.le_refl _)) (by simp)
  exact ⟨cv, w', _, .inl h2, hr.extAlloc _ p, h3, h4⟩
def dZ : AI → Bool
  | .call .. | .callv .. => true
  | _ => false
def eO : AI → Bool
  | .box .. | .alloc .. | .bsl .. => true
  | _ => false
def eV : AI → Bool
  | .store .. | .app .. | .mks .. | .appz .. | .clr .. | .bslz .. => true
  | _ => false
def yY (n : Nat) (o : Oper) (i : AI) : Prop :=
  ∃ c, o.op = .call c ∧ ((∃ g xs, i = .call g xs ∧ c.callee = .value (.func g) ∧ dX n c.args.toList = some xs) ∨ (∃ x a xs, i = .callv a xs ∧ c.callee = .value x ∧ aM n x = some a ∧ dX n c.args.toList = some xs))
def mB (P : Program) (n : Nat) (o : Oper) (i : AI) : Prop :=
  (yY n o i ∨ (eO i = true ∧ sE P n o i) ∨ (eV i = true ∧ fL P n o i) ∨ (dZ i = false ∧ eO i = false ∧ eV i = false ∧ cH P n o i ∧ (fJ i = true → KA P n o i)))
theorem mB.looks {P : Program} {n : Nat} {o : Oper} {i : AI} (h1 : dZ i = false) (h2 : eO i = false) (h3 : eV i = false) (h : cH P n o i) (h4 : fJ i = false := by rfl) : mB P n o i := .inr (.inr (.inr ⟨h1, h2, h3, h, fun e => by rw [h4] at e; cases e⟩))
theorem mB.writes {P : Program} {n : Nat} {o : Oper} {i : AI} (h : mB P n o i) (hc : dZ i = false) : fL P n o i := by
  rcases h with h | ⟨_, h⟩ | ⟨_, h⟩ | ⟨_, _, _, h, _⟩
  · obtain ⟨c, _, ⟨g, xs, rfl, _⟩ | ⟨x, a, xs, rfl, _⟩⟩ := h <;> cases hc
  · exact h.writes
  · exact h
  · exact h.writes
theorem nI {P : Program} {n : Nat} {o : Oper} {op : BinOp} {t yt : TypeId} {x y : Operand} (ho : o.op = .binOp op t x y yt) {i : AI} (h : rY P n op t x y = some i) : mB P n o i := by
  unfold rY at h
  split at h
  · simp only [Option.bind_eq_some_iff, Option.map_eq_some_iff] at h
    obtain ⟨a, h1, b, h2, rfl⟩ := h
    exact .looks rfl rfl rfl (kN ho h1 h2)
  · rename_i hop
    have hop' : op = .eql ∨ op = .neq := by cases op <;> first | exact .inl rfl | exact .inr rfl | exact absurd rfl hop
    split at h
    · rename_i hb
      simp only [Option.bind_eq_some_iff, Option.map_eq_some_iff] at h
      obtain ⟨a, h1, b, h2, rfl⟩ := h
      exact .looks rfl rfl rfl (yN hop' hb ho h1 h2)
    · simp only [Option.bind_eq_some_iff, Option.map_eq_some_iff] at h
      obtain ⟨a, h1, b, h2, rfl⟩ := h
      exact .looks rfl rfl rfl (kN ho h1 h2)
    · simp only [Option.bind_eq_some_iff, Option.map_eq_some_iff] at h
      obtain ⟨a, h1, b, h2, rfl⟩ := h
      exact .looks rfl rfl rfl (kN ho h1 h2)
    · simp only [Option.bind_eq_some_iff, Option.map_eq_some_iff] at h
      obtain ⟨ks, hks, a, h1, b, h2, rfl⟩ := h
      exact .looks rfl rfl rfl (yO hop' hks ho h1 h2)
    · simp only [Option.bind_eq_some_iff] at h
      obtain ⟨c, hk, h⟩ := h
      split at h
      · rename_i hz
        simp only [Option.map_eq_some_iff] at h
        obtain ⟨a, h1, rfl⟩ := h
        exact .inr (.inr (.inr ⟨by unfold jS; split <;> rfl, by unfold jS; split <;> rfl, by unfold jS; split <;> rfl, kO hop' hk ho (.inl ⟨hz, rfl⟩) h1, fun _ => IV hop' hk ho (.inl ⟨hz, rfl⟩) h1⟩))
      · split at h
        · rename_i hz
          simp only [Option.map_eq_some_iff] at h
          obtain ⟨a, h1, rfl⟩ := h
          exact .inr (.inr (.inr ⟨by unfold jS; split <;> rfl, by unfold jS; split <;> rfl, by unfold jS; split <;> rfl, kO hop' hk ho (.inr ⟨hz, rfl⟩) h1, fun _ => IV hop' hk ho (.inr ⟨hz, rfl⟩) h1⟩))
        · cases h
theorem mC {P : Program} {n : Nat} {o : Oper} {c : Call} (ho : o.op = .call c) {i : AI} (h : nG P n c = some i) : mB P n o i := by
  unfold nG at h
  split at h
  · rename_i hb
    simp only [Option.map_eq_some_iff] at h
    obtain ⟨a, h1, rfl⟩ := h
    exact .inl ⟨c, ho, .inl ⟨_, _, rfl, hb, h1⟩⟩
  · rename_i hb
    simp only [Option.bind_eq_some_iff, Option.map_eq_some_iff] at h
    obtain ⟨a, h1, b, h2, rfl⟩ := h
    exact .inl ⟨c, ho, .inr ⟨_, _, _, rfl, hb, h1, h2⟩⟩
  · rename_i hb
    split at h
    · rename_i x hx
      split at h
      · rename_i hu
        simp only [Option.bind_eq_some_iff] at hu
        obtain ⟨t, ht, hu⟩ := hu
        simp only [Option.map_eq_some_iff] at h
        obtain ⟨a, h1, rfl⟩ := h
        exact .looks rfl rfl rfl (wA ho hb hx ht hu h1)
      · rename_i hu
        simp only [Option.bind_eq_some_iff] at hu
        obtain ⟨t, ht, hu⟩ := hu
        simp only [Option.map_eq_some_iff] at h
        obtain ⟨a, h1, rfl⟩ := h
        exact .looks rfl rfl rfl (yR ho hb hx ht hu h1)
      · cases h
    · cases h
  · rename_i hb
    split at h
    · rename_i x r hx
      simp only [Option.bind_eq_some_iff, Option.map_eq_some_iff] at h
      obtain ⟨a, h1, b, h2, rfl⟩ := h
      exact .looks rfl rfl rfl (FA ho hb hx h1 h2)
    · cases h
  · rename_i hb
    split at h
    · rename_i x r hx
      simp only [Option.bind_eq_some_iff, Option.map_eq_some_iff] at h
      obtain ⟨a, h1, b, h2, rfl⟩ := h
      exact .looks rfl rfl rfl (FB ho hb hx h1 h2)
    · cases h
  · rename_i hb
    split at h
    · rename_i s x ts tx hx ht
      split at h
      · rename_i hu
        simp only [Option.bind_eq_some_iff] at h
        obtain ⟨e, h1, i', h3, z, ⟨zv, hz1, hz2⟩, h⟩ := h
        split at h
        · rename_i hc
          simp only [Option.bind_eq_some_iff, Option.map_eq_some_iff] at h
          obtain ⟨a, h4, b, h5, rfl⟩ := h
          exact .inr (.inr (.inl ⟨rfl, sG ho hb hx ht h1 hu h3 (by simp [hz1, hz2]) hc.1 hc.2.1 hc.2.2 h4 h5⟩))
        · cases h
      · simp only [Option.bind_eq_some_iff] at h
        obtain ⟨e, h1, e2, h2, i', h3, z, ⟨zv, hz1, hz2⟩, h⟩ := h
        split at h
        · rename_i hc
          simp only [Option.bind_eq_some_iff, Option.map_eq_some_iff] at h
          obtain ⟨a, h4, b, h5, rfl⟩ := h
          exact .inr (.inr (.inl ⟨rfl, wF ho hb hx ht h1 h2 h3 (by simp [hz1, hz2]) hc.1 hc.2 h4 h5⟩))
        · cases h
    · cases h
  · rename_i hb
    split at h
    · rename_i x t hx ht
      simp only [Option.bind_eq_some_iff, Option.map_eq_some_iff] at h
      obtain ⟨e, h1, a, h2, rfl⟩ := h
      exact .looks rfl rfl rfl (yX ho hb hx ht h1 h2)
    · cases h
  · rename_i hb
    split at h
    · rename_i x t hx ht
      simp only [Option.bind_eq_some_iff] at h
      obtain ⟨e, h1, i', h3, z, ⟨zv, hz1, hz2⟩, h⟩ := h
      split at h
      · rename_i hc
        simp only [Option.map_eq_some_iff] at h
        obtain ⟨a, h4, rfl⟩ := h
        exact .inr (.inr (.inl ⟨rfl, wH ho hb hx ht h1 h3 (by simp [hz1, hz2]) hc.1 hc.2 h4⟩))
      · cases h
    · cases h
  · cases h
theorem wI {P : Program} {n : Nat} {o : Oper} {i : AI} (h : kL P n o = some i) : mB P n o i := by
  unfold kL at h
  split at h
  · rename_i x ho
    have h' := h
    simp only [Option.map_eq_some_iff] at h'
    obtain ⟨_, _, rfl⟩ := h'
    exact .looks rfl rfl rfl (pW (.inl ho) h)
  · rename_i x ho
    have h' := h
    simp only [Option.map_eq_some_iff] at h'
    obtain ⟨_, _, rfl⟩ := h'
    exact .looks rfl rfl rfl (pW (.inr ho) h)
  · rename_i ho
    simp only [Option.bind_eq_some_iff, Option.map_eq_some_iff] at h
    obtain ⟨a, h1, b, h2, c, h3, rfl⟩ := h
    exact .looks rfl rfl rfl (vU ho h1 h2 h3)
  · rename_i ho
    simp only [Option.bind_eq_some_iff] at h
    obtain ⟨s, h1, z, h2, h⟩ := h
    split at h
    · cases h; exact .inr (.inl ⟨rfl, sF ho h1 h2 (by assumption)⟩)
    · cases h
  · rename_i ho
    simp only [Option.bind_eq_some_iff, Option.map_eq_some_iff] at h
    obtain ⟨a, h1, s, h2, rfl⟩ := h
    exact .inr (.inl ⟨rfl, yT ho h1 h2⟩)
  · rename_i ho
    simp only [Option.bind_eq_some_iff] at h
    obtain ⟨fs, h1, z, h2, h⟩ := h
    split at h
    · rename_i hall
      simp only [Option.map_eq_some_iff] at h
      obtain ⟨qs, h3, rfl⟩ := h
      exact .looks rfl rfl rfl (sD ho h1 h2 h3 hall)
    · cases h
  · rename_i ho
    simp only [Option.bind_eq_some_iff] at h
    obtain ⟨e, h1, i', h2, z, ⟨zv, hz1, hz2⟩, h⟩ := h
    split at h
    · rename_i hc
      simp only [Option.map_eq_some_iff] at h
      obtain ⟨qs, h3, rfl⟩ := h
      exact .inr (.inl ⟨rfl, yV ho h1 h2 (by simp [hz1, hz2]) hc.1 hc.2.1 hc.2.2 h3⟩)
    · cases h
  · rename_i ho
    simp only [Option.bind_eq_some_iff, Option.map_eq_some_iff] at h
    obtain ⟨a, h1, g, h2, s, h3, rfl⟩ := h
    exact .looks rfl rfl rfl (vX ho h1 h2 h3)
  · rename_i ho
    simp only [Option.bind_eq_some_iff, Option.map_eq_some_iff] at h
    obtain ⟨a, h1, b, h2, s, h3, rfl⟩ := h
    exact .inr (.inr (.inl ⟨rfl, qC ho h1 h2 h3⟩))
  · rename_i ho
    simp only [Option.bind_eq_some_iff] at h
    obtain ⟨fs, h1, fd, h2, z, h3, h⟩ := h
    split at h
    · cases h
    · rename_i hz
      simp only [Option.map_eq_some_iff] at h
      obtain ⟨a, h4, rfl⟩ := h
      exact .looks rfl rfl rfl (rZ ho h1 h2 h3 hz h4)
  · rename_i ho
    simp only [Option.bind_eq_some_iff, Option.map_eq_some_iff] at h
    obtain ⟨fs, h1, fd, h2, z, h3, g, h4, a, h5, rfl⟩ := h
    exact .looks rfl rfl rfl (sA ho h1 h2 h3 h4 h5)
  · rename_i ho
    simp only [Option.bind_eq_some_iff, Option.map_eq_some_iff] at h
    obtain ⟨e, h1, s, h2, a, h3, b, h4, rfl⟩ := h
    exact .looks rfl rfl rfl (sB ho h1 h2 h3 h4)
  · rename_i ho
    split at h
    · rename_i hu
      simp only [Option.bind_eq_some_iff, Option.map_eq_some_iff] at h
      obtain ⟨a, h3, b, h4, rfl⟩ := h
      exact .looks rfl rfl rfl (vZ ho hu h3 h4)
    · cases h
  · rename_i ho
    split at h
    · rename_i hu
      simp only [Option.bind_eq_some_iff] at h
      obtain ⟨s, h1, a, h2, l, h3, hi, h4, m, h5, h⟩ := h
      split at h
      · cases h
      · rename_i hm
        cases h
        exact .looks rfl rfl rfl (sC ho hu h1 h2 h3 h4 h5 (Bool.eq_false_iff.2 hm))
    · rename_i hu
      simp only [Option.bind_eq_some_iff] at h
      obtain ⟨a, h2, l, h3, hi, h4, h⟩ := h
      split at h
      · cases h
      · rename_i hm
        cases h
        exact .looks rfl rfl rfl (qA ho hu (by simpa using hm) h2 h3 h4)
    · cases h
  · rename_i ho
    simp only [Option.bind_eq_some_iff] at h
    obtain ⟨e, h1, i', h3, z, ⟨zv, hz1, hz2⟩, h⟩ := h
    split at h
    · rename_i hc
      simp only [Option.bind_eq_some_iff, Option.map_eq_some_iff] at h
      obtain ⟨a, h4, b, h5, rfl⟩ := h
      exact .inr (.inr (.inl ⟨rfl, wG ho h1 h3 (by simp [hz1, hz2]) hc.1 hc.2.1 h4 h5⟩))
    · cases h
  · rename_i ho
    simp only [Option.map_eq_some_iff] at h
    obtain ⟨a, h1, rfl⟩ := h
    exact .looks rfl rfl rfl (yK ho h1)
  · rename_i ho
    simp only [Option.map_eq_some_iff] at h
    obtain ⟨a, h1, rfl⟩ := h
    exact .looks rfl rfl rfl (vV ho h1)
  · rename_i ho
    simp only [Option.bind_eq_some_iff, Option.map_eq_some_iff] at h
    obtain ⟨a, h1, b, h2, rfl⟩ := h
    exact .looks rfl rfl rfl (yL ho h1 h2)
  · rename_i ho
    split at h
    · cases h
    · cases h
    · rename_i d hn hu
      simp only [Option.map_eq_some_iff] at h
      obtain ⟨a, h1, rfl⟩ := h
      exact .looks rfl rfl rfl (yM ho hu (fun ms e => hn ms (e ▸ rfl)) h1)
  · rename_i ho
    simp only [Option.map_eq_some_iff] at h
    obtain ⟨a, h1, rfl⟩ := h
    exact .looks rfl rfl rfl (EY ho h1)
  · rename_i ho
    split at h
    · rename_i h1 h2
      simp only [Option.map_eq_some_iff] at h
      obtain ⟨a, h3, rfl⟩ := h
      exact .looks rfl rfl rfl (vW ho h1 h2 h3)
    · cases h
  · rename_i ho
    exact nI ho h
  · rename_i ho
    exact mC ho h
  · cases h
theorem comp_sound' (P : Program) (n : Nat) (o : Oper) : mB P n o (compOp' P n o) := by
  unfold compOp'
  cases h : kL P n o with
  | some i => exact wI h
  | none => exact .looks rfl rfl rfl fun K w H f a v H' hf hr he => by cases he
end Go.Eng
end
section
set_option linter.unusedVariables false
set_option linter.unusedSimpArgs false
namespace Go.Eng
open Go
structure AOp where
  d : Option Nat
  g : Option (Nat × Bool)
  q : Bool
  i : AI
  deriving Inhabited
inductive AC where
  | skip
  | ops (l : List AOp)
  | seq (a b : AC)
  | cond (x : X) (a b : AC)
  | block (id : Nat) (a : AC)
  | loop (a : AC)
  | exit (id : Nat)
  | ret
  | rangeF (n : Nat) (x : X) (ps : List Nat) (a b : AC)
  deriving Inhabited
def put (f : AF) (d : Option Nat) (v : AV) : AF :=
  match d with
  | some n => fun s => if s = n then v else f s
  | none => f
def OP (P : Program) (g : FuncId) : Bool :=
  match P.funcs[g]? with
  | some fn => !(fn.name == "runtime.NumGoroutine") && fn.body.isSome
  | none => false
def wJ (K : KW) (H : AH) (R : AV → AH → Prop) (e : Ending) (w' : World) : Prop :=
  ∃ v K' H' r, e = .returned v ∧ Ext K H K' H' ∧ Rel K' w' H' ∧ RelV K' r v ∧ R r H'
def aC (P : Program) (g : FuncId) (args : List AV) (H : AH) (R : AV → AH → Prop) : Prop :=
  OP P g = true ∧ ∀ K w (cargs : Array Value), Rel K w H → RelL K args cargs.toList → Calls P g cargs w (wJ K H R)
theorem aC.mono {P : Program} {g : FuncId} {args : List AV} {H : AH} {R R' : AV → AH → Prop} (h : aC P g args H R) (hr : ∀ r H', R r H' → R' r H') : aC P g args H R' :=
  ⟨h.1, fun K w cargs a b => (h.2 K w cargs a b).mono fun e w' ⟨v, K', H', r, h1, h2, h3, h4, h5⟩ => ⟨v, K', H', r, h1, h2, h3, h4, hr _ _ h5⟩⟩
def kV (P : Program) (w : World) (nx : Next) (R : Ending → World → Prop) : Prop :=
  match nx with
  | .enter g cargs => Calls P g cargs w R
  | .round l fn tmps x y => RoundIn Fence.wide 0 P l fn tmps x y w R
  | _ => False
theorem kV.mono {P : Program} {w : World} {nx : Next} {R R' : Ending → World → Prop} (h : kV P w nx R) (hr : ∀ e w', R e w' → R' e w') : kV P w nx R' := by
  cases nx with
  | enter g cargs => exact Calls.mono h hr
  | round l fn tmps x y => exact RoundIn.mono h hr
  | _ => exact h
def gI (P : Program) (t : Nat) (args : List AV) (H : AH) (R : AV → AH → Prop) : Prop :=
  ∀ K w (cargs : Array Value) p, Rel K w H → K.pl t = some p → RelL K args cargs.toList → ∃ nx, (Instr.yield p.b cargs).run P w = .ok nx w ∧ kV P w nx (wJ K H R)
theorem gI.mono {P : Program} {t : Nat} {args : List AV} {H : AH} {R R' : AV → AH → Prop} (h : gI P t args H R) (hr : ∀ r H', R r H' → R' r H') : gI P t args H R' := fun K w cargs p a b c => by
  obtain ⟨nx, h1, h2⟩ := h K w cargs p a b c
  exact ⟨nx, h1, h2.mono fun e w' ⟨v, K', H', r, h1, h2, h3, h4, h5⟩ => ⟨v, K', H', r, h1, h2, h3, h4, hr _ _ h5⟩⟩
def cR (P : Program) (i : AI) (q : Bool) (Q : AV → AH → Prop) (f : AF) (H : AH) : Prop :=
  match i with
  | .call g xs => aC P g (xs.map (ev f)) H fun r H' => (q = true → ∃ J, H' = H ++ J) ∧ Q r H'
  | .callv x xs => match ev f x with
    | .fn g as0 bs => aC P g (as0 ++ xs.map (ev f) ++ bs) H fun r H' => (q = true → ∃ J, H' = H ++ J) ∧ Q r H'
    | .yld t => gI P t (xs.map (ev f)) H fun r H' => (q = true → ∃ J, H' = H ++ J) ∧ Q r H'
    | _ => False
  | .nilt neg x => match yF (ev f x) with
    | some b => Q (.bool (b != neg)) H
    | none => emp (ev f x) = true ∧ ∀ b, Q (.bool b) H
  | i => match aH i f H with
    | some (v, H') => (q = true → ∃ J, H' = H ++ J) ∧ Q v H'
    | none => False
def gv (v : AV) (b : Bool) : Option Bool :=
  match v with
  | .bool c => some (c == b)
  | .tup _ => some false
  | _ => none
theorem KD {v : AV} {b : Bool} (h : gv v b = some true) : v = .bool b := by
  cases v <;> simp [gv] at h
  rw [h]
theorem yZ {b : Bool} : gv (.bool b) b = some true := by simp [gv]
def dJ (P : Program) : List AOp → (AF → AH → Prop) → AF → AH → Prop
  | [], Q, f, H => Q f H
  | o :: l, Q, f, H =>
    match o.g with
    | none => cR P o.i o.q (fun v H' => dJ P l Q (put f o.d v) H') f H
    | some (s, b) => match gv (f s) b with
      | some true => cR P o.i o.q (fun v H' => dJ P l Q (put f o.d v) H') f H
      | some false => dJ P l Q (put f o.d (.tup [])) H
      | none => False
def zA (ops : Array Oper) (n : Nat) : Option (Nat × Bool) → Option (Option (Nat × Bool))
  | none => some none
  | some (j, b) => match (ops[j]?).bind (·.dst) with
    | some s => if s < n then some (some (s, b)) else none
    | none => none
def fzI (h : Nat → Bool) (d : Option Nat) (i : AI) : AI :=
  match i with
  | .bsl s l z ps => match d with
    | some d => if h d = true then .bslz s l z ps else .bsl s l z ps
    | none => .bsl s l z ps
  | i => i
theorem TE (d : Option Nat) (i : AI) : fzI (fun _ => false) d i = i := by
  cases i <;> cases d <;> rfl
def nJ (P : Program) (h : Nat → Bool) (ops : Array Oper) (n : Nat) : List Oper → Option (List AOp)
  | [] => some []
  | o :: l => (zA ops n o.guard).bind fun g => (nJ P h ops n l).map (⟨o.dst, g, false, fzI h o.dst (compOp' P n o)⟩ :: ·)
def mD (P : Program) (n : Nat) (h : Nat → Bool) (dr : Array Oper → Option (List AOp)) (r : Bool) : Code → Option AC
  | .skip | .label _ => some .skip
  | .region _ ops d => if d then (dr ops).map .ops else (nJ P h ops n ops.toList).map .ops
  | .seq a b => (mD P n h dr r a).bind fun x => (mD P n h dr r b).map (.seq x)
  | .cond c a b => (aM n c).bind fun k => (mD P n h dr r a).bind fun x => (mD P n h dr r b).map (.cond k x)
  | .block id a => (mD P n h dr r a).map (.block id)
  | .loop a => (mD P n h dr r a).map .loop
  | .exit id => some (.exit id)
  | .ret => some .ret
  | .rangeFunc g ps x y => if r then (aM n g).bind fun k => (mD P n h dr false x).bind fun p => (mD P n h dr false y).map (.rangeF n k ps.toList p) else none
  | _ => none
def Fr (r : Option Nat) : Fence := { Fence.wide with round := r }
theorem mP {r : Option Nat} {n : Nat} {P : Program} {f : FuncId} {args : Array Value} {w : World} {R : Ending → World → Prop} : CallsIn (Fr r) n P f args w R ↔ Calls P f args w R :=
  show CallsIn Fence.wide n P f args w R ↔ Calls P f args w R from callsIn_wide
def IY (n : Nat) (K : KW) (H : AH) (Q : AE → AF → AH → Prop) (e : Exit) (a : Act) (w : World) : Prop :=
  ∃ ae K' f' H', e = AE.out ae ∧ Ext K H K' H' ∧ gE n K' f' a ∧ Rel K' w H' ∧ Q ae f' H'
def OQ (P : Program) (n : Nat) (dr : Array Oper → Option (List AOp)) : Prop :=
  ∀ r id ops al, dr ops = some al → ∀ Q f H K a w, dJ P al (Q AE.normal) f H → gE n K f a → Rel K w H → (Code.region id ops true).wpIn (Fr r) 0 P (IY n K H Q) a w
def uR (P : Program) (n : Nat) (lp : gG) (ps : List Nat) (a b : AC) : Prop :=
  lp.n = n ∧ lp.params.toList = ps ∧ ∃ dr h, OQ P n dr ∧ mD P n h dr false lp.assign = some a ∧ mD P n h dr false lp.body = some b
def qE (next : AF → AH → Prop) (Q : AE → AF → AH → Prop) : AE → AF → AH → Prop
  | .normal => next
  | e => Q e
def cU (id : Nat) (Q : AE → AF → AH → Prop) : AE → AF → AH → Prop
  | .exit id' => if id' = id then Q .normal else Q (.exit id')
  | e => Q e
def AC.wp (P : Program) : AC → (AE → AF → AH → Prop) → AF → AH → Prop
  | .skip, Q => Q .normal
  | .ops l, Q => dJ P l (Q .normal)
  | .seq a b, Q => a.wp P (qE (b.wp P Q) Q)
  | .cond x a b, Q => fun f H => match ev f x with
    | .bool c => (c = true → a.wp P Q f H) ∧ (c = false → b.wp P Q f H)
    | _ => False
  | .block id a, Q => a.wp P (cU id Q)
  | .loop a, Q => fun f H => ∃ (I : AF → AH → Prop) (μ : AF → AH → Nat), I f H ∧ ∀ f H, I f H → a.wp P (qE (fun f' H' => I f' H' ∧ μ f' H' < μ f H) Q) f H
  | .exit id, Q => Q (.exit id)
  | .ret, Q => Q .ret
  | .rangeF n x ps a b, Q => fun f H => match ev f x with
    | .fn g as0 bs => ∀ lp, uR P n lp ps a b → aC P g (as0 ++ [.yld H.length] ++ bs) (H ++ [.loop f lp .ready none]) fun r H' =>
        ∃ st pd, H'[H.length]? = some (aR.loop f lp st pd) ∧ st ≠ .busy ∧ Q (pd.getD .normal) f (H'.set H.length .dead)
    | _ => False
theorem zB {a : Act} {d : Option Nat} {v : Value} : (a.put d v).tmps.size = a.tmps.size := by cases d <;> simp [Act.put]
theorem gE.put {n : Nat} {K : KW} {f : AF} {a : Act} (h : gE n K f a) (d : Option Nat) {v : AV} {cv : Value} (r : RelV K v cv) : gE n K (Eng.put f d v) (a.put d cv) := by
  cases d with
  | none => exact h
  | some d =>
    refine ⟨by rw [zB]; exact h.size, fun i hi => ?_, h.defers⟩
    simp only [Eng.put, Act.put]
    by_cases e : i = d
    · subst e
      rw [if_pos rfl]
      have : i < a.tmps.size := by rw [h.size]; exact hi
      simp [Array.getD_eq_getD_getElem?, Array.getElem?_setIfInBounds, this]
      exact r
    · rw [if_neg e]
      have := h.rel i hi
      simpa [Array.getD_eq_getD_getElem?, Array.getElem?_setIfInBounds, Ne.symm e] using this
theorem wK {ops : Array Oper} {n : Nat} {o : Oper} (h : zA ops n o.guard = some none) (t : Array Value) : Region.wanted o (yielded ops t) = true := by
  unfold Region.wanted
  cases hg : o.guard with
  | none => rfl
  | some p =>
    rw [hg] at h
    simp only [zA] at h
    split at h
    · split at h <;> cases h
    · cases h
theorem sH {K : KW} : RelV K (.tup []) Go.undef := .tup rfl (fun i x h => by simp at h)
theorem mQ {ops : Array Oper} {n : Nat} {K : KW} {f : AF} {a : Act} (hf : gE n K f a) {o : Oper} {s : Nat} {b c : Bool} (h : zA ops n o.guard = some (some (s, b))) (hs : gv (f s) b = some c) : Region.wanted o (yielded ops a.tmps) = c := by
  unfold Region.wanted
  cases hg : o.guard with
  | none => rw [hg] at h; cases h
  | some p =>
    obtain ⟨j, b'⟩ := p
    rw [hg] at h
    simp only [zA] at h
    split at h
    · rename_i s' hd
      split at h
      · rename_i hlt
        cases h
        have r := hf.rel s hlt
        have hsz : s < a.tmps.size := by rw [hf.size]; exact hlt
        have hv : a.tmps[s]? = some (a.tmps.getD s Go.undef) := by simp [Array.getD_eq_getD_getElem?, hsz]
        simp only [yielded, hd, Option.bind_some, hv]
        generalize a.tmps.getD s Go.undef = u at r
        generalize f s = x at r hs
        cases r <;> simp only [gv, reduceCtorEq, Option.some.injEq] at hs
        · rw [← hs]
          rename_i c' _
          cases c' <;> cases b <;> rfl
        · rw [← hs]; rfl
      · cases h
    · cases h
theorem zD {P : Program} {g : FuncId} (h : OP P g = true) : ∃ fn, P.funcs[g]? = some fn ∧ (fn.name == "runtime.NumGoroutine") = false ∧ fn.body.isNone = false := by
  unfold OP at h
  split at h
  · rename_i fn hg
    simp only [Bool.and_eq_true, Bool.not_eq_true'] at h
    exact ⟨fn, hg, h.1, by cases hb : fn.body <;> simp_all⟩
  · cases h
theorem fM {P : Program} {w : World} {g : FuncId} (h : OP P g = true) (args : Array Value) : (callFunc g args).run P w = .ok (.enter g args) w := by
  obtain ⟨fn, h1, h2, h3⟩ := zD h
  unfold callFunc
  simp only [Sem.run_bind, run_program, Result.andThen_ok, h1]
  rw [if_neg (by rw [h2]; simp), if_neg (by rw [h3]; simp)]
  rfl
theorem wL {P : Program} {n : Nat} {K : KW} {w : World} {f : AF} {a : Act} {H : AH} (hf : gE n K f a) (hr : Rel K w H) {o : Oper} {i : AI} (h : yY n o i) {q : Bool} {Q : AV → AH → Prop} (hs : cR P i q Q f H) :
    ∃ nx, (execOp a.eval o).run P w = .ok nx w ∧ kV P w nx (wJ K H fun r H' => (q = true → ∃ J, H' = H ++ J) ∧ Q r H') := by
  obtain ⟨c, ho, ⟨g, xs, rfl, hc, hx⟩ | ⟨x, b, xs, rfl, hc, hx, hxs⟩⟩ := h
  · refine ⟨.enter g (c.args.map a.eval), ?_, ?_⟩
    · have := fM (w := w) hs.1 (c.args.map a.eval)
      simp [execOp, ho, resolve, hc, Act.eval, Deferred.ofValue, invoke, this]
    · have := cN hf hx
      exact hs.2 K w _ hr (by simpa using this)
  · have r := aJ hf hx
    simp only [cR] at hs
    split at hs
    · rename_i g as0 bs he
      rw [he] at r
      generalize hv : a.eval x = v at r
      cases r with
      | fn hl hr1 hl' hr' =>
        rename_i cs ds
        refine ⟨.enter g (cs ++ c.args.map a.eval ++ ds), ?_, hs.2 K w _ hr ?_⟩
        · have := fM (w := w) hs.1 (cs ++ c.args.map a.eval ++ ds)
          simp only [execOp, ho, resolve, hc, hv, Deferred.ofValue, invoke, Sem.run_bind, Sem.run_pure, Result.andThen_ok, this]
        · rw [Array.toList_append, Array.toList_append]
          refine RelL.append (RelL.append (RelL.ofD hl hr1) ?_) (RelL.ofD hl' hr')
          have := cN hf hxs
          simpa using this
    · rename_i t he
      rw [he] at r
      generalize hv : a.eval x = v at r
      cases r with
      | yld hp =>
        rename_i p
        obtain ⟨nx, h1, h2⟩ := hs K w (c.args.map a.eval) p hr hp (by
          have := cN hf hxs
          simpa using this)
        refine ⟨nx, ?_, h2⟩
        simp only [execOp, ho, resolve, hc, hv, Deferred.ofValue, invoke, Sem.run_bind, Sem.run_pure, Result.andThen_ok]
        simpa using h1
    · exact hs.elim
theorem mR {P : Program} {i : AI} (h : dZ i = false) (hn : fJ i = false) {q : Bool} {Q : AV → AH → Prop} {f : AF} {H : AH} (hs : cR P i q Q f H) : ∃ v H', aH i f H = some (v, H') ∧ (q = true → ∃ J, H' = H ++ J) ∧ Q v H' := by
  have key : (match aH i f H with | some (v, H') => (q = true → ∃ J, H' = H ++ J) ∧ Q v H' | none => False) → ∃ v H', aH i f H = some (v, H') ∧ (q = true → ∃ J, H' = H ++ J) ∧ Q v H' := fun h => by
    split at h
    · exact ⟨_, _, by assumption, h⟩
    · exact h.elim
  cases i with
  | nilt neg x => cases hn
  | call g xs => cases h
  | callv x xs => cases h
  | _ => exact key hs
theorem IY.ext {n : Nat} {K K' : KW} {H H' : AH} {Q : AE → AF → AH → Prop} {e : Exit} {a : Act} {w : World} (h : IY n K' H' Q e a w) (g : Ext K H K' H') : IY n K H Q e a w := by
  obtain ⟨ae, K2, f2, H2, h1, h2, h3, h4, h5⟩ := h
  exact ⟨ae, K2, f2, H2, h1, g.trans h2, h3, h4, h5⟩
theorem wM {K : KW} {w : World} {H : AH} {cv : Value} {sz t off n c : Nat} {ex : Bool} {es : List AV} (hr : Rel K w H) (h : obj? H t = some (sz, es)) (hn : off + n ≤ es.length) (r : RelV K (.ref sz t off n c ex) cv) : ∃ K', Ext K H K' (List.set H t .dead) ∧ Rel K' w (List.set H t .dead) ∧ RelV K' (.list sz ((es.drop off).take n) false) cv := by
  cases r with
  | ref hp hz hnc hc he ha =>
    rename_i p A cap
    have hl := obj?_some h
    have L := hr.live t p sz es hp hl
    obtain ⟨o, h1, h2, h3⟩ := hr.frozen hp hl
    refine ⟨_, h3, h2, ?_⟩
    obtain ⟨cs, T, hb, hs, hrd⟩ := L.block
    have ho : o = .cells cs T (0, 0) := by rw [hb] at h1; exact (Option.some.inj h1).symm
    subst ho
    have hlen : ((es.drop off).take n).length = n := by simp; omega
    by_cases hn0 : n = 0
    · subst hn0
      simp only [List.take_zero]
      exact .list0 (fun h => by cases h)
    · obtain ⟨a1, a2⟩ := ha (by omega)
      subst a1
      unfold bK.at
      rw [Nat.add_zero, hz]
      refine .list (K := K.freeze p.b _) (b := p.b) (cs := cs) (T := T) (fr := (0, 0)) (by simp [KW.freeze]) hlen (by omega) (fun h => by cases h) ?_ (fun x hx => L.fit x (List.mem_of_mem_drop (List.mem_of_mem_take hx))) (fun i k x y hx hy => ?_)
      · have : off * sz + n * sz ≤ p.tot * sz := by rw [← Nat.add_mul]; exact Nat.mul_le_mul_right _ (by omega)
        omega
      · rw [List.getElem?_take] at hx
        split at hx
        · rw [List.getElem?_drop] at hx
          have := (hrd _ _ _ _ hx hy).mono h3.le
          rw [Nat.add_mul] at this
          rw [show p.off + off * sz + (i * sz + k) = p.off + (off * sz + i * sz + k) by omega]
          exact this
        · cases hx
theorem sI {P : Program} {n : Nat} {o : Oper} {s l : Nat} {z : AV} {ps : List (Nat × X)} (h : fL P n o (.bsl s l z ps)) : fL P n o (.bslz s l z ps) := by
  intro K w H f a v H' hf hr he
  simp only [aH] at he
  split at he
  · rename_i hc
    cases he
    generalize hes : putp f (cQ l z) ps = es
    obtain ⟨cv, w', K', h3, h4, h5, h6⟩ := h K w H f a (.ref s H.length 0 es.length es.length true) (H ++ [.live s es]) hf hr (by simp only [aH, hc, if_true, fresh, hes])
    obtain ⟨K2, g1, g2, g3⟩ := wM h5 (t := H.length) (sz := s) (es := es) (by simp [obj?]) (show 0 + es.length ≤ es.length by omega) h6
    rw [uQ] at g1 g2
    rw [List.drop_zero, List.take_length] at g3
    exact ⟨cv, w', K2, h3, h4.trans g1, g2, g3⟩
  · cases he
theorem FC {P : Program} {n : Nat} {o : Oper} {i : AI} (h : Nat → Bool) (hs : mB P n o i) : mB P n o (fzI h o.dst i) := by
  unfold fzI
  split
  · split
    · split
      · exact .inr (.inr (.inl ⟨rfl, sI (hs.writes rfl)⟩))
      · exact hs
    · exact hs
  · exact hs
theorem zE {P : Program} {n : Nat} {K : KW} {w : World} {f : AF} {a : Act} {H : AH} (hf : gE n K f a) (hr : Rel K w H) {o : Oper} {i : AI} {hh : Nat → Bool} (hi : fzI hh o.dst (compOp' P n o) = i) {q : Bool} {Q : AV → AH → Prop} (hs : cR P i q Q f H)
    {next : Act → World → Prop} {QQ : Exit → Act → World → Prop} (hn : ∀ v cv K' H' w', Ext K H K' H' → Rel K' w' H' → RelV K' v cv → (q = true → ∃ J, H' = H ++ J) → Q v H' → next (a.put o.dst cv) w') {r : Option Nat} : o.wpIn (Fr r) 0 P a w next QQ := by
  have hS := FC hh (comp_sound' P n o)
  rw [hi] at hS
  have hnd : ∀ c, o.op ≠ .defer c := fun c e => by
    have : compOp' P n o = .bad := by simp [compOp', kL, e]
    rw [this] at hi
    simp only [fzI] at hi
    subst hi
    exact hs
  refine ⟨fun _ _ => trivial, ?_⟩
  rw [Oper.semAt_eq _ _ _ hnd]
  by_cases hc : dZ i = true
  · have hok : yY n o i := by
      rcases hS with h | ⟨h, _⟩ | ⟨h, _⟩ | ⟨h, _⟩
      · exact h
      · cases i <;> first | (simp [eO] at h; done) | (simp [dZ] at hc; done)
      · cases i <;> first | (simp [eV] at h; done) | (simp [dZ] at hc; done)
      · rw [hc] at h; cases h
    obtain ⟨nx, h1, h3⟩ := wL (w := w) hf hr hok hs
    rw [h1]
    cases nx with
    | enter g cargs =>
      refine ⟨fun h => (by cases h), CallsIn.mono (mP.2 h3) fun e w' ⟨v, K', H', r, e1, e2, e3, e4, e5⟩ => ?_⟩
      subst e1
      exact hn r v K' H' w' e2 e3 e4 e5.1 e5.2
    | round l fn tmps x y =>
      refine ⟨fun h => (by cases h), RoundIn.mono (show RoundIn (Fr r) 0 P l fn tmps x y w _ from h3) fun e w' ⟨v, K', H', r, e1, e2, e3, e4, e5⟩ => ?_⟩
      subst e1
      exact hn r v K' H' w' e2 e3 e4 e5.1 e5.2
    | _ => exact h3.elim
  · have hc' : dZ i = false := by simpa using hc
    by_cases hnt : fJ i = true
    · obtain ⟨neg, x, rfl⟩ : ∃ neg x, i = .nilt neg x := by
        unfold fJ at hnt
        split at hnt
        · exact ⟨_, _, rfl⟩
        · cases hnt
      have hLN : cH P n o (.nilt neg x) ∧ KA P n o (.nilt neg x) := by
        rcases hS with h | ⟨h, _⟩ | ⟨h, _⟩ | ⟨_, _, _, h, h'⟩
        · obtain ⟨_, _, ⟨_, _, e, _⟩ | ⟨_, _, _, e, _⟩⟩ := h <;> cases e
        · cases h
        · cases h
        · exact ⟨h, h' rfl⟩
      simp only [cR] at hs
      split at hs
      · rename_i b hb
        obtain ⟨_, cv, h1, h2⟩ := hLN.1 K w H f a (.bool (b != neg)) H hf hr (by simp [aH, IQ, hb])
        rw [h1]
        exact hn _ cv K H w (Ext.refl K H) hr h2 (fun _ => ⟨[], by simp⟩) hs
      · obtain ⟨b, h1⟩ := hLN.2 K w f a neg x rfl hf hs.1
        rw [h1]
        exact hn _ _ K H w (Ext.refl K H) hr (.bool b) (fun _ => ⟨[], by simp⟩) (hs.2 b)
    have hnt' : fJ i = false := by simpa using hnt
    obtain ⟨v, H', h1, h0, h2⟩ := mR hc' hnt' hs
    obtain ⟨cv, w', K', h3, h4, h5, h6⟩ := hS.writes hc' K w H f a v H' hf hr h1
    rcases h3 with h3 | ⟨h3, rfl⟩
    · rw [h3]; exact hn v cv K' H' w' h4 h5 h6 h0 h2
    · rw [h3]; exact hn v _ K' H' w' h4 h5 h6 h0 h2
theorem IZ {P : Program} {n : Nat} {h : Nat → Bool} {ops : Array Oper} {QN : AF → AH → Prop} {K0 : KW} {H0 : AH} {QQ : Exit → Act → World → Prop}
    (hq : ∀ K f H a w, Ext K0 H0 K H → gE n K f a → Rel K w H → QN f H → QQ .normal a w) :
    ∀ (l : List Oper) (al : List AOp), nJ P h ops n l = some al → ∀ f H K a w, dJ P al QN f H → Ext K0 H0 K H → gE n K f a → Rel K w H → ∀ r, wpListIn (Fr r) 0 P ops QQ l a w
  | [], al, h, f, H, K, a, w, hs, he, hf, hr => by cases h; exact fun _ => hq K f H a w he hf hr hs
  | o :: l, al, h, f, H, K, a, w, hs, he, hf, hr => by
    intro r
    simp only [nJ, Option.bind_eq_some_iff, Option.map_eq_some_iff] at h
    obtain ⟨g, h2, al', h3, rfl⟩ := h
    obtain ⟨i, h1⟩ : ∃ i, fzI h o.dst (compOp' P n o) = i := ⟨_, rfl⟩
    rw [h1] at hs
    have ih := IZ (P := P) (ops := ops) hq l al' h3
    have run : cR P i false (fun v H' => dJ P al' QN (Eng.put f o.dst v) H') f H → o.wpIn (Fr r) 0 P a w (wpListIn (Fr r) 0 P ops QQ l) QQ := fun hs' =>
      zE hf hr h1 hs' fun v cv K' H' w' e1 e2 e3 _ e4 => ih _ _ _ _ _ e4 (he.trans e1) ((hf.mono e1.le).put _ e3) e2 r
    have skip : dJ P al' QN (Eng.put f o.dst (.tup [])) H → wpListIn (Fr r) 0 P ops QQ l (a.put o.dst Go.undef) w := fun hs' =>
      ih _ _ _ _ _ hs' he (hf.put _ sH) hr r
    unfold wpListIn
    simp only [dJ] at hs
    cases g with
    | none =>
      rw [if_pos (wK h2 _)]
      exact run hs
    | some p =>
      obtain ⟨s, b⟩ := p
      simp only at hs
      split at hs
      · rename_i hc
        have hw := mQ hf h2 hc
        rw [if_pos (by rw [hw])]
        exact run hs
      · rename_i hc
        have hw := mQ hf h2 hc
        rw [if_neg (by rw [hw]; simp)]
        exact ⟨fun _ _ => trivial, skip hs⟩
      · exact hs.elim
end Go.Eng
end
section
set_option linter.unusedVariables false
set_option linter.unusedSimpArgs false
namespace Go.Eng
open Go
theorem jK {p : Nat → Prop} (h : ∃ m, p m) : ∃ m, p m ∧ ∀ k, p k → m ≤ k := by
  obtain ⟨m, hm⟩ := h
  induction m using Nat.strongRecOn with
  | _ m ih =>
    by_cases c : ∃ k, k < m ∧ p k
    · obtain ⟨k, h1, h2⟩ := c
      exact ih k h1 h2
    · exact ⟨m, hm, fun k hk => Nat.le_of_not_lt fun l => c ⟨k, l, hk⟩⟩
theorem KE {P : Program} {n : Nat} {c : Code} {ac : AC} {rr : Option Nat} {Q : AE → AF → AH → Prop}
    (ih : ∀ Q f H K a w, ac.wp P Q f H → gE n K f a → Rel K w H → c.wpIn (Fr rr) 0 P (IY n K H Q) a w) :
    ∀ f H K a w, (AC.loop ac).wp P Q f H → gE n K f a → Rel K w H → (Code.loop c).wpIn (Fr rr) 0 P (IY n K H Q) a w := by
  classical
  intro f H K a w ⟨I, μ, h0, hstep⟩ hf hr
  let J : Act → World → Nat → Prop := fun a' w' m => ∃ K' f' H', Ext K H K' H' ∧ gE n K' f' a' ∧ Rel K' w' H' ∧ I f' H' ∧ μ f' H' = m
  let M : Act → World → Nat := fun a' w' => if h : ∃ m, J a' w' m ∧ ∀ k, J a' w' k → m ≤ k then Classical.choose h else 0
  have hM : ∀ a' w', (∃ m, J a' w' m) → J a' w' (M a' w') ∧ ∀ k, J a' w' k → M a' w' ≤ k := fun a' w' h => by
    have h' := jK h
    simp only [M]
    rw [dif_pos h']
    exact Classical.choose_spec h'
  refine wpIn_loop (fun a' w' => ∃ m, J a' w' m) M ⟨_, K, f, H, Ext.refl K H, hf, hr, h0, rfl⟩ fun a1 w1 hJ => ?_
  obtain ⟨⟨K1, f1, H1, e1, e2, e3, e4, e5⟩, _⟩ := hM a1 w1 hJ
  refine Code.wpIn_mono (fun e a2 w2 hp => ?_) (ih _ f1 H1 K1 a1 w1 (hstep f1 H1 e4) e2 e3)
  obtain ⟨ae, K2, f2, H2, q1, q2, q3, q4, q5⟩ := hp
  subst q1
  cases ae with
  | normal =>
    obtain ⟨i1, i2⟩ := q5
    have hJ2 : J a2 w2 (μ f2 H2) := ⟨K2, f2, H2, e1.trans q2, q3, q4, i1, rfl⟩
    refine ⟨⟨_, hJ2⟩, Nat.lt_of_le_of_lt ((hM a2 w2 ⟨_, hJ2⟩).2 _ hJ2) ?_⟩
    rw [← e5]; exact i2
  | exit id => exact ⟨.exit id, K2, f2, H2, rfl, e1.trans q2, q3, q4, q5⟩
  | ret => exact ⟨.ret, K2, f2, H2, rfl, e1.trans q2, q3, q4, q5⟩
theorem FD {P : Program} {n : Nat} {h : Nat → Bool} {dr : Array Oper → Option (List AOp)} (hdr : OQ P n dr) {g : Operand} {ps : Array Tmp} {x y : Code} {k : X} {p q : AC} (h0 : aM n g = some k) (h1 : mD P n h dr false x = some p) (h2 : mD P n h dr false y = some q) :
    ∀ Q f H K a w, (AC.rangeF n k ps.toList p q).wp P Q f H → gE n K f a → Rel K w H → (Code.rangeFunc g ps x y).wpIn (Fr none) 0 P (IY n K H Q) a w := by
  intro Q f H K a w hs hf hr
  refine wpIn_rangeFunc fun fn _ => ?_
  have r := aJ hf h0
  simp only [AC.wp] at hs
  split at hs
  · rename_i gid as0 bs he
    rw [he] at r
    generalize hv : a.eval g = v at r
    cases r with
    | fn hl hr1 hl' hr' =>
    rename_i cs ds
    let lp : gG := ⟨n, fn, ps, x, y⟩
    have hcall := hs lp ⟨rfl, rfl, dr, h, hdr, h1, h2⟩
    have d0 := hr.sizeFz
    have r1 := hr.allocFz (.deferred (some [])) (fun r e => by cases e)
    have e1 : Ext K H _ H := Ext.freeze (o := Obj.deferred (some [])) d0
    have r2 := r1.allocLoop (f := f) (lp := lp) (tmps := a.tmps) w.heap.size hf.size (fun i hi => (hf.rel i hi).mono e1.le)
    have e2 := r1.extAlloc (aR.loop f lp .ready none) ⟨(w.alloc (.deferred (some []))).heap.size, 0, 0, 0⟩
    have e3 := e1.trans e2
    have hsz : (w.alloc (.deferred (some []))).heap.size = w.heap.size + 1 := World.size_alloc ..
    rw [hsz] at r2 e2 e3
    have hy := RelV.yld (K := (K.freeze w.heap.size (.deferred (some []))).place H.length ⟨w.heap.size + 1, 0, 0, 0⟩) (KW.place_self _ _ _)
    have hw := hcall.2 _ _ (cs ++ #[.func (.yield (w.heap.size + 1)) #[] #[]] ++ ds) r2 (by
      rw [Array.toList_append, Array.toList_append]
      exact RelL.append (RelL.append ((RelL.ofD hl hr1).mono e3.le) (RelL.cons hy (RelL.nil _))) ((RelL.ofD hl' hr').mono e3.le))
    refine ⟨w.heap.size + 1, _, _, { target := .fn (.func gid) ds, args := cs ++ #[.func (.yield (w.heap.size + 1)) #[] #[]] }, _, gid, _, _, run_enterLoop_outer fn a.tmps ps x y, ?_, fun _ _ => trivial, fM hcall.1 _, fun h => (by cases h), CallsIn.mono (mP.2 hw) ?_⟩
    · have hc : ∀ v, a.eval (.const v) = v := fun _ => rfl
      simp only [rangeCall, resolve, hv, hc, Deferred.ofValue, Sem.run_bind, Sem.run_pure, Result.andThen_ok, List.map_toArray, List.map_cons, List.map_nil, lp]
    · rintro e w3 ⟨v3, K3, H3, r3, rfl, x3, y3, z3, st, pd, q1, q2, q3⟩
      have hp := x3.le.pl _ _ (KW.place_self (K.freeze w.heap.size (.deferred (some []))) H.length ⟨w.heap.size + 1, 0, 0, 0⟩)
      obtain ⟨tm, d, b1, b2, b3⟩ := (y3.loops.loop _ _ _ _ _ _ hp q1).block
      refine ⟨_, _, run_endLoop b1 q2, ?_⟩
      have y4 := y3.setLoop (w' := w3.putObj (w.heap.size + 1) (.loop { state := .exhausted, pending := pd.map AE.code, fn := lp.fn, tmps := tm, params := lp.params, assign := lp.assign, body := lp.body, defers := d })) hp q1 (o := .dead) (.inl rfl) (fun b hb => World.putObj_heap_other hb) rfl
      have x4 : Ext K H K3 (H3.set H.length .dead) := (e3.trans x3).trans (Ext.set hp _)
      have f4 : gE n K3 f { a with defers := { target := .collected w.heap.size, args := #[] } :: a.defers } := by
        refine ⟨hf.size, fun i hi => (hf.rel i hi).mono x4.le, ⟨fun d' hd' => ?_, ?_, (hf.defers.mono x4.le).old⟩⟩
        · rcases List.mem_cons.1 hd' with rfl | hd'
          · refine ⟨_, rfl, ?_, ?_⟩
            · cases ho : K3.old w.heap.size with
              | none => rfl
              | some o =>
                rw [x4.le.old] at ho
                have := hf.defers.old _ _ ho
                rw [d0] at this; cases this
            · exact (e2.trans x3).le.fz _ _ (by simp [KW.freeze])
          · exact (hf.defers.mono x4.le).mark d' hd'
        · refine List.nodup_cons.2 ⟨fun hm => ?_, hf.defers.nodup⟩
          obtain ⟨b, c1, _, c2⟩ := hf.defers.mark _ hm
          cases c1
          rw [d0] at c2; cases c2
      cases pd with
      | none => exact ⟨.normal, K3, f, _, rfl, x4, f4, y4, q3⟩
      | some ae =>
        cases ae with
        | normal => exact wpIn_skip ⟨.normal, K3, f, _, rfl, x4, f4, y4, q3⟩
        | exit id => exact wpIn_exit ⟨.exit id, K3, f, _, rfl, x4, f4, y4, q3⟩
        | ret => exact wpIn_ret ⟨.ret, K3, f, _, rfl, x4, f4, y4, q3⟩
  · exact hs.elim
theorem eW {P : Program} {n : Nat} {h : Nat → Bool} {dr : Array Oper → Option (List AOp)} (hdr : OQ P n dr) :
    ∀ (c : Code) (b : Bool) (ac : AC), mD P n h dr b c = some ac → ∀ Q f H K a w, ac.wp P Q f H → gE n K f a → Rel K w H → ∀ r, (b = true → r = none) → c.wpIn (Fr r) 0 P (IY n K H Q) a w
  | .skip, bb, ac, h => by
    cases h
    exact fun Q f H K a w hs hf hr r hbr => wpIn_skip ⟨.normal, K, f, H, rfl, Ext.refl K H, hf, hr, hs⟩
  | .label _, bb, ac, h => by
    cases h
    exact fun Q f H K a w hs hf hr r hbr => wpIn_label ⟨.normal, K, f, H, rfl, Ext.refl K H, hf, hr, hs⟩
  | .region id ops d, bb, ac, h => by
    cases d with
    | true =>
      simp only [mD, if_true, Option.map_eq_some_iff] at h
      obtain ⟨al, h1, rfl⟩ := h
      exact fun Q f H K a w hs hf hr r hbr => hdr r id ops al h1 Q f H K a w hs hf hr
    | false =>
      simp only [mD, Bool.false_eq_true, if_false, Option.map_eq_some_iff] at h
      obtain ⟨al, h1, rfl⟩ := h
      exact fun Q f H K a w hs hf hr r hbr => wpIn_region_list (IZ (K0 := K) (H0 := H) (fun K' f' H' a' w' e1 e2 e3 e4 => ⟨.normal, K', f', H', rfl, e1, e2, e3, e4⟩) _ _ h1 f H K a w hs (Ext.refl K H) hf hr r)
  | .seq x y, bb, ac, h => by
    simp only [mD, Option.bind_eq_some_iff, Option.map_eq_some_iff] at h
    obtain ⟨p, h1, q, h2, rfl⟩ := h
    have i1 := eW hdr x bb p h1
    have i2 := eW hdr y bb q h2
    intro Q f H K a w hs hf hr r hbr
    refine wpIn_seq (Code.wpIn_mono (fun e a' w' hp => ?_) (i1 _ f H K a w hs hf hr r hbr))
    obtain ⟨ae, K', f', H', q1, q2, q3, q4, q5⟩ := hp
    subst q1
    cases ae with
    | normal => exact Code.wpIn_mono (fun e a2 w2 hp => hp.ext q2) (i2 Q f' H' K' a' w' q5 q3 q4 r hbr)
    | exit id => exact ⟨.exit id, K', f', H', rfl, q2, q3, q4, q5⟩
    | ret => exact ⟨.ret, K', f', H', rfl, q2, q3, q4, q5⟩
  | .cond c x y, bb, ac, h => by
    simp only [mD, Option.bind_eq_some_iff, Option.map_eq_some_iff] at h
    obtain ⟨k, h0, p, h1, q, h2, rfl⟩ := h
    have i1 := eW hdr x bb p h1
    have i2 := eW hdr y bb q h2
    intro Q f H K a w hs hf hr r hbr
    have r := aJ hf h0
    simp only [AC.wp] at hs
    split at hs
    · rename_i b hb
      rw [hb] at r
      generalize hv : a.eval c = v at r
      cases r
      exact wpIn_cond_split hv (fun e => i1 Q f H K a w (hs.1 e) hf hr r hbr) (fun e => i2 Q f H K a w (hs.2 e) hf hr r hbr)
    · exact hs.elim
  | .block id x, bb, ac, h => by
    simp only [mD, Option.map_eq_some_iff] at h
    obtain ⟨p, h1, rfl⟩ := h
    have i1 := eW hdr x bb p h1
    intro Q f H K a w hs hf hr r hbr
    refine wpIn_block (Code.wpIn_mono (fun e a' w' hp => ?_) (i1 _ f H K a w hs hf hr r hbr))
    obtain ⟨ae, K', f', H', q1, q2, q3, q4, q5⟩ := hp
    subst q1
    cases ae with
    | normal => exact ⟨.normal, K', f', H', rfl, q2, q3, q4, q5⟩
    | exit id' =>
      simp only [AE.out, Exit.inBlock]
      simp only [cU] at q5
      split
      · rename_i e
        rw [if_pos e] at q5
        exact ⟨.normal, K', f', H', rfl, q2, q3, q4, q5⟩
      · rename_i e
        rw [if_neg e] at q5
        exact ⟨.exit id', K', f', H', rfl, q2, q3, q4, q5⟩
    | ret => exact ⟨.ret, K', f', H', rfl, q2, q3, q4, q5⟩
  | .loop x, bb, ac, h => by
    simp only [mD, Option.map_eq_some_iff] at h
    obtain ⟨p, h1, rfl⟩ := h
    exact fun Q f H K a w hs hf hr r hbr => KE (fun Q f H K a w q1 q2 q3 => eW hdr x bb p h1 Q f H K a w q1 q2 q3 r hbr) f H K a w hs hf hr
  | .exit id, bb, ac, h => by
    cases h
    exact fun Q f H K a w hs hf hr r hbr => wpIn_exit ⟨.exit id, K, f, H, rfl, Ext.refl K H, hf, hr, hs⟩
  | .ret, bb, ac, h => by
    cases h
    exact fun Q f H K a w hs hf hr r hbr => wpIn_ret ⟨.ret, K, f, H, rfl, Ext.refl K H, hf, hr, hs⟩
  | .rangeFunc g ps x y, bb, ac, h => by
    simp only [mD] at h
    split at h
    · rename_i hbb
      simp only [Option.bind_eq_some_iff, Option.map_eq_some_iff] at h
      obtain ⟨k, h0, p, h1, q, h2, rfl⟩ := h
      intro Q f H K a w hs hf hr r hbr
      rw [hbr hbb]
      exact FD hdr h0 h1 h2 Q f H K a w hs hf hr
    · cases h
  | .scope _, bb, ac, h => by cases h
  | .goto _, bb, ac, h => by cases h
  | .refuse _, bb, ac, h => by cases h
inductive AR where
  | t (n : Nat)
  | cell (n : Nat) (ag : Bool) (sz : Nat)
def sJ (P : Program) (n : Nat) : List ResultVar → Option (List AR)
  | [] => some []
  | .tmp t :: r => if t < n then (sJ P n r).map (.t t :: ·) else none
  | .cell t ty :: r => if t < n then (agg? P ty).bind fun g => (size? P ty).bind fun s => (sJ P n r).map (.cell t g s :: ·) else none
def FE (f : AF) (H : AH) : List AR → Option (List AV)
  | [] => some []
  | .t t :: r => (FE f H r).map (f t :: ·)
  | .cell t g s :: r => (cG g s (f t) H).bind fun v => (FE f H r).map (v :: ·)
def one (vs : List AV) : AV :=
  match vs with
  | [v] => v
  | vs => .tup vs
structure AFn where
  n : Nat
  np : Nat
  res : List AR
  body : AC
def KF (P : Program) (dr : Nat → Array Oper → Option (List AOp)) (h : Nat → Bool) (g : FuncId) : Option AFn :=
  match P.funcs[g]? with
  | some fn => if (fn.name == "runtime.NumGoroutine") = false ∧ fn.params.size ≤ fn.ntmps then fn.body.bind fun c => (sJ P fn.ntmps fn.results.toList).bind fun r => (mD P fn.ntmps h (dr fn.ntmps) true c).map fun b => ⟨fn.ntmps, fn.params.size, r, b⟩ else none
  | none => none
def kW (args : List AV) : AF := fun i => args.getD i .undef
def KG (r : List AR) (R : AV → AH → Prop) : AE → AF → AH → Prop
  | .normal, f, H | .ret, f, H => match FE f H r with
    | some vs => R (one vs) H
    | none => False
  | _, _, _ => False
end Go.Eng
end
section
set_option linter.unusedVariables false
set_option linter.unusedSimpArgs false
namespace Go.Eng
open Go
theorem FF {P : Program} {K : KW} {w : World} {H : AH} (hr : Rel K w H) {t : TypeId} {ag : Bool} {sz : Nat} (hg : agg? P t = some ag) (hs : size? P t = some sz) {p v : AV} {cp : Value} (r : RelV K p cp) (h : cG ag sz p H = some v) :
    ∃ ad cv, cp = .pointer (some ad) ∧ (loadVar t ad).run P w = .ok cv w ∧ RelV K v cv := by
  unfold cG at h
  split at h
  · simp only [Option.bind_eq_some_iff] at h
    obtain ⟨⟨sz', es⟩, g1, e, g2, g3⟩ := h
    obtain ⟨ad, a1, a2, _⟩ := uO hr r g1 g2
    obtain ⟨cv, a3, a4⟩ := gQ (P := P) hg hs a2 g3
    exact ⟨ad, cv, a1, a3, a4⟩
  · simp only [Option.bind_eq_some_iff] at h
    obtain ⟨e, g2, g3⟩ := h
    obtain ⟨ad, a1, a2, _⟩ := pZ hr r g2
    obtain ⟨cv, a3, a4⟩ := gQ (P := P) hg hs a2 g3
    exact ⟨ad, cv, a1, a3, a4⟩
  · cases h
def uS (tmps : Array Value) : ResultVar → Sem Value
  | .tmp t => pure (tmps.getD t Go.undef)
  | .cell a t => do loadVar t (← asAddr (tmps.getD a Go.undef))
theorem iX {P : Program} {n : Nat} {K : KW} {w : World} {f : AF} {a : Act} {H : AH} (hf : ∀ i, i < n → RelV K (f i) (a.tmps.getD i Go.undef)) (hr : Rel K w H) :
    ∀ (rs : List ResultVar) (ars : List AR) (vs : List AV), sJ P n rs = some ars → FE f H ars = some vs → ∃ cvs, (rs.mapM (uS a.tmps)).run P w = .ok cvs w ∧ RelL K vs cvs
  | [], ars, vs, h, e => by cases h; cases e; exact ⟨[], rfl, RelL.nil K⟩
  | .tmp t :: rs, ars, vs, h, e => by
    simp only [sJ] at h
    split at h
    · rename_i hlt
      simp only [Option.map_eq_some_iff] at h
      obtain ⟨ars', h1, rfl⟩ := h
      simp only [FE, Option.map_eq_some_iff] at e
      obtain ⟨vs', e1, rfl⟩ := e
      obtain ⟨cvs, c1, c2⟩ := iX hf hr rs ars' vs' h1 e1
      refine ⟨a.tmps.getD t Go.undef :: cvs, ?_, RelL.cons (hf t hlt) c2⟩
      rw [List.mapM_cons]
      simp only [uS, Sem.run_bind, Sem.run_pure, Result.andThen_ok, c1]
    · cases h
  | .cell t ty :: rs, ars, vs, h, e => by
    simp only [sJ] at h
    split at h
    · rename_i hlt
      simp only [Option.bind_eq_some_iff, Option.map_eq_some_iff] at h
      obtain ⟨g, hg, s, hs, ars', h1, rfl⟩ := h
      simp only [FE, Option.bind_eq_some_iff, Option.map_eq_some_iff] at e
      obtain ⟨v, e0, vs', e1, rfl⟩ := e
      obtain ⟨cvs, c1, c2⟩ := iX hf hr rs ars' vs' h1 e1
      obtain ⟨ad, cv, a1, a2, a3⟩ := FF (P := P) hr hg hs (hf t hlt) e0
      refine ⟨cv :: cvs, ?_, RelL.cons a3 c2⟩
      rw [List.mapM_cons]
      simp only [uS, a1, asAddr, Sem.run_bind, Sem.run_pure, Result.andThen_ok, a2, c1]
    · cases h
theorem KH {K : KW} {vs : List AV} {cvs : List Value} (h : RelL K vs cvs) : RelV K (one vs) (if hs : cvs.toArray.size = 1 then cvs.toArray[0] else .tuple cvs.toArray) := by
  have hl := h.1
  cases vs with
  | nil =>
    cases cvs with
    | nil => exact .tup rfl (fun i x e => by simp at e)
    | cons _ _ => cases hl
  | cons v vs =>
    cases cvs with
    | nil => cases hl
    | cons c cvs =>
      cases vs with
      | nil =>
        have : cvs = [] := List.eq_nil_of_length_eq_zero (by simpa using hl.symm)
        subst this
        exact h.2 0 v c rfl rfl
      | cons v2 vs =>
        rw [dif_neg (by intro hh; simp only [List.size_toArray, List.length_cons] at hh hl; omega)]
        obtain ⟨l, r⟩ := RelL.toD (vs := (c :: cvs).toArray) h
        exact .tup l r
theorem jL {P : Program} {fn : Func} {n : Nat} {f : AF} {a : Act} {H : AH} {r : List AR} {vs : List AV} {R : Ending → World → Prop} (hc : sJ P n fn.results.toList = some r) (hv : FE f H r = some vs) (old : Nat → Option Obj) :
    ∀ (ds : List Deferred) (K : KW) (w : World), Rel K w H → (∀ i, i < n → RelV K (f i) (a.tmps.getD i Go.undef)) → (∀ d ∈ ds, ∃ b, d = { target := .collected b, args := #[] } ∧ old b = none ∧ K.fz b = some (.deferred (some []))) → ds.Nodup →
      (∀ K' w' v, (∀ t p, K.pl t = some p → K'.pl t = some p) → K'.pl = K.pl ∧ K'.io = K.io → (∀ b o, K.fz b = some o → (∃ p, old b = some p) → K'.fz b = some o) → Rel K' w' H → RelV K' (one vs) v → R (.returned v) w') → LeavesInM Fence.wide 0 P fn a.tmps R ds .returning w
  | [], K, w, hr, hf, hd, hn, hR => by
    obtain ⟨cvs, c1, c2⟩ := iX (P := P) (a := a) hf hr _ _ _ hc hv
    have : (results fn a.tmps).run P w = .ok (if h : cvs.toArray.size = 1 then cvs.toArray[0] else .tuple cvs.toArray) w := by
      have : results fn a.tmps = (do let vs ← fn.results.mapM (uS a.tmps); pure (if h : vs.size = 1 then vs[0] else .tuple vs) : Sem Value) := by
        unfold results
        congr 1
      rw [this, Array.mapM_eq_mapM_toList]
      simp only [Sem.run_bind, Sem.run_map, c1, Result.andThen_ok, Sem.run_pure]
    exact ⟨_, this, hR K w _ (fun _ _ e => e) ⟨rfl, rfl⟩ (fun _ _ e _ => e) hr (KH c2)⟩
  | d :: ds, K, w, hr, hf, hd, hn, hR => by
    obtain ⟨b, rfl, ho, hb⟩ := hd d (by simp)
    have hw := hr.fz _ _ hb
    refine ⟨by simp, .inl ⟨b, _, rfl, run_takeDeferred hw, ?_⟩⟩
    have hn' := List.nodup_cons.1 hn
    refine jL hc hv old ds (K.drop b) _ (hr.drop hb rfl (fun b' h => World.putObj_heap_other h) rfl) (fun i hi => (hf i hi).drop hb rfl) (fun d hd' => ?_) hn'.2 (fun K' w' v h1 h1' h2 h3 h4 => hR K' w' v h1 h1' (fun b' o e e' => h2 b' o ?_ e') h3 h4)
    · obtain ⟨b', rfl, ho', hb'⟩ := hd d (List.mem_cons_of_mem _ hd')
      refine ⟨b', rfl, ho', ?_⟩
      show (if b' = b then none else K.fz b') = _
      rw [if_neg fun e => hn'.1 (by rw [← e]; exact hd')]
      exact hb'
    · show (if b' = b then none else K.fz b') = _
      obtain ⟨q, e'⟩ := e'
      rw [if_neg fun c => by rw [c, ho] at e'; cases e']
      exact e
theorem zF {P : Program} {dr : Nat → Array Oper → Option (List AOp)} {hh : Nat → Bool} {g : FuncId} {F : AFn} (hc : KF P dr hh g = some F) (hdr : ∀ n, OQ P n (dr n)) {args : List AV} {H : AH} {R : AV → AH → Prop}
    (hn : args.length ≤ F.n) (h : F.body.wp P (KG F.res R) (kW args) H) : aC P g args H R := by
  unfold KF at hc
  split at hc
  · rename_i fn hg
    split at hc
    · rename_i hnm
      simp only [Option.bind_eq_some_iff, Option.map_eq_some_iff] at hc
      obtain ⟨c, hb, r, hr', b, hcomp, rfl⟩ := hc
      refine ⟨by unfold OP; rw [hg]; simp [hb]; simpa using hnm.1, fun K w cargs hr hargs => ?_⟩
      have hsz : cargs.size = args.length := by have := hargs.1; simp at this; omega
      refine callsIn_wide.1 (callsIn_of_wp_marks (n := 0) hg hb trivial ?_)
      let K1 := K.rebase K.fz
      refine Code.wpIn_mono (fun e a w' hp => ?_) (eW (hdr fn.ntmps) c true b hcomp _ (kW args) H K1 _ w h ⟨?_, fun i hi => ?_, nF.nil (fun _ _ e => e)⟩ (hr.rebase _) none (fun _ => rfl))
      · obtain ⟨ae, K', f', H', q1, q2, q3, q4, q5⟩ := hp
        subst q1
        have key : (match FE f' H' r with | some vs => R (one vs) H' | none => False) → LeavesInM Fence.wide 0 P fn a.tmps (wJ K H R) a.defers .returning w' := fun hq => by
          split at hq
          · rename_i vs hvs
            refine jL hr' hvs K.fz a.defers K' w' q4 q3.rel (fun d hd => ?_) q3.defers.nodup (fun K2 w2 v h1 h1' h2 h3 h4 => ?_)
            · obtain ⟨b, c1, c2, c3⟩ := q3.defers.mark d hd
              exact ⟨b, c1, by rw [q2.le.old] at c2; exact c2, c3⟩
            · refine ⟨v, K2.rebase K.old, H', one vs, rfl, ⟨⟨fun t p e => h1 _ _ (q2.le.pl _ _ e), fun b o e => h2 _ _ (q2.le.fz _ _ e) ⟨_, e⟩, rfl, h1'.2.trans q2.le.io⟩, q2.len, fun t a b => ?_⟩, h3.rebase _, h4.rebase _, hq⟩
              obtain ⟨c1, c2⟩ := q2.abs t a b
              exact ⟨by show K2.pl t = none; rw [h1'.1]; exact c1, c2⟩
          · exact hq.elim
        cases ae with
        | normal => exact key q5
        | ret => exact key q5
        | exit id => exact q5.elim
      · simp [hsz]; simp only at hn; omega
      · simp only at hn
        by_cases hi' : i < args.length
        · have hx : args[i]? = some args[i] := List.getElem?_eq_getElem hi'
          have hv := ((RelL.toD hargs).2 i _ hx).rebase K.fz
          have e1 : kW args i = args[i] := by simp [kW, List.getD_eq_getElem?_getD, hx]
          rw [e1]
          have e2 : (cargs ++ Array.replicate (fn.ntmps - cargs.size) Go.undef).getD i Go.undef = cargs.getD i Go.undef := by
            simp only [Array.getD_eq_getD_getElem?]
            rw [Array.getElem?_append_left (by omega)]
          rw [e2]; exact hv
        · have e1 : kW args i = .undef := by simp [kW, List.getD_eq_getElem?_getD, List.getElem?_eq_none (Nat.le_of_not_lt hi')]
          rw [e1]; exact .undef _
    · cases hc
  · cases hc
end Go.Eng
end
