/- E20, E21, E22, E23, E24, E25, E26, E27, E28, E29, E30, E31, E32, E33, E34, So1, Sb, St1, St2, St3, St4. -/
import Derived.Test.YtpflmgbpjhbmnaaGreatQSa0
import Derived.KernelRfl
import Derived.Sort.Lot0
import Derived.Sort.LotA
section
set_option linter.unusedVariables false
set_option linter.unusedSimpArgs false
namespace Go.Eng
open Go
def zG (g : X → X) : Option X → Option X
  | none => none
  | some x => some (g x)
def SO (g : X → X) : List (Nat × Nat × X) → List (Nat × Nat × X)
  | [] => []
  | (a, b, x) :: r => (a, b, g x) :: SO g r
def KI (g : X → X) : List (Nat × X) → List (Nat × X)
  | [] => []
  | (a, x) :: r => (a, g x) :: KI g r
def AI.mapX (g : X → X) : AI → AI
  | .mov x => .mov (g x)
  | .pick c a b => .pick (g c) (g a) (g b)
  | .bin op x y => .bin op (g x) (g y)
  | .eqn c n x => .eqn c n (g x)
  | .nilt n x => .nilt n (g x)
  | .eqb n x y => .eqb n (g x) (g y)
  | .eqa n ks x y => .eqa n ks (g x) (g y)
  | .un op x => .un op (g x)
  | .conv k x => .conv k (g x)
  | .box s x => .box s (g x)
  | .alloc s z => .alloc s z
  | .build z ps => .build z (SO g ps)
  | .bsl s l z ps => .bsl s l z (KI g ps)
  | .bslz s l z ps => .bslz s l z (KI g ps)
  | .load a s x => .load a s (g x)
  | .store s a x => .store s (g a) (g x)
  | .faddr o x => .faddr o (g x)
  | .field a s o x => .field a s o (g x)
  | .iaddr s x i => .iaddr s (g x) (g i)
  | .sidx x i => .sidx (g x) (g i)
  | .slice s x lo hi m => .slice s (g x) (zG g lo) (zG g hi) (zG g m)
  | .sslice x lo hi => .sslice (g x) (zG g lo) (zG g hi)
  | .ext x i => .ext (g x) i
  | .nilc x => .nilc (g x)
  | .mkf f a b => .mkf f (a.map g) (b.map g)
  | .mki t x => .mki t (g x)
  | .len x => .len (g x)
  | .slen x => .slen (g x)
  | .mx x xs => .mx (g x) (xs.map g)
  | .mn x xs => .mn (g x) (xs.map g)
  | .app s b x y => .app s b (g x) (g y)
  | .mks s b z x y => .mks s b z (g x) (g y)
  | .cap x => .cap (g x)
  | .appz s b z x y => .appz s b z (g x) (g y)
  | .clr s z x => .clr s z (g x)
  | .bad => .bad
  | .call f xs => .call f (xs.map g)
  | .callv x xs => .callv (g x) (xs.map g)
def ER : Option X → List X
  | none => []
  | some x => [x]
def AI.xs : AI → List X
  | .mov x | .eqn _ _ x | .nilt _ x | .un _ x | .conv _ x | .box _ x | .load _ _ x | .faddr _ x | .field _ _ _ x | .ext x _ | .nilc x | .mki _ x | .len x | .slen x | .cap x | .clr _ _ x => [x]
  | .pick c a b => [c, a, b]
  | .bin _ x y | .eqb _ x y | .eqa _ _ x y | .store _ x y | .iaddr _ x y | .sidx x y | .app _ _ x y | .mks _ _ _ x y | .appz _ _ _ x y => [x, y]
  | .alloc _ _ | .bad => []
  | .build _ ps => ps.map (·.2.2)
  | .bsl _ _ _ ps => ps.map (·.2)
  | .bslz _ _ _ ps => ps.map (·.2)
  | .slice _ x lo hi m => x :: (ER lo ++ ER hi ++ ER m)
  | .sslice x lo hi => x :: (ER lo ++ ER hi)
  | .mkf _ a b => a ++ b
  | .mx x xs | .mn x xs | .callv x xs => x :: xs
  | .call _ xs => xs
def bH (g : X → X) (f f' : AF) (xs : List X) : Prop := ∀ x ∈ xs, ev f (g x) = ev f' x
theorem bH.map {g : X → X} {f f' : AF} {xs : List X} (h : bH g f f' xs) : (xs.map g).map (ev f) = xs.map (ev f') := by
  rw [List.map_map]; exact List.map_congr_left h
theorem bH.fillc {g : X → X} {f f' : AF} : ∀ {ps : List (Nat × Nat × X)} (cs : List AV), bH g f f' (ps.map (·.2.2)) → fillc f cs (SO g ps) = fillc f' cs ps
  | [], cs, h => rfl
  | (a, b, x) :: r, cs, h => by
    have hx : ev f (g x) = ev f' x := h x (by simp)
    simp only [SO, Eng.fillc, hx]
    split
    · exact bH.fillc _ (fun y hy => h y (by simp at hy ⊢; exact .inr hy))
    · rfl
theorem bH.putp {g : X → X} {f f' : AF} : ∀ {ps : List (Nat × X)} (es : List AV), bH g f f' (ps.map (·.2)) → putp f es (KI g ps) = putp f' es ps
  | [], es, h => rfl
  | (a, x) :: r, es, h => by
    have hx : ev f (g x) = ev f' x := h x (by simp)
    simp only [KI, Eng.putp, hx]
    exact bH.putp _ (fun y hy => h y (by simp at hy ⊢; exact .inr hy))
theorem bH.all {g : X → X} {f f' : AF} {sz len : Nat} : ∀ {ps : List (Nat × X)}, bH g f f' (ps.map (·.2)) →
    ((KI g ps).all fun p => decide (p.1 < len) && ((cells (ev f p.2)).length == sz && fI (cells (ev f p.2)))) = (ps.all fun p => decide (p.1 < len) && ((cells (ev f' p.2)).length == sz && fI (cells (ev f' p.2))))
  | [], h => rfl
  | (a, x) :: r, h => by
    have hx : ev f (g x) = ev f' x := h x (by simp)
    have ih := bH.all (sz := sz) (len := len) (ps := r) (fun y hy => h y (by simp at hy ⊢; exact .inr hy))
    simp only [KI, List.all_cons, hx, ih]
theorem bH.bnd {g : X → X} {f f' : AF} {o : Option X} (h : bH g f f' (ER o)) (y d : Nat) : jR f (zG g o) y d = jR f' o y d := by
  cases o with
  | none => rfl
  | some x =>
    have hx : ev f (g x) = ev f' x := h x (by simp [ER])
    simp only [zG, jR, hx]
theorem bH.left {g : X → X} {f f' : AF} {xs ys : List X} (h : bH g f f' (xs ++ ys)) : bH g f f' xs := fun x hx => h x (List.mem_append_left _ hx)
theorem bH.right {g : X → X} {f f' : AF} {xs ys : List X} (h : bH g f f' (xs ++ ys)) : bH g f f' ys := fun x hx => h x (List.mem_append_right _ hx)
theorem bH.tail {g : X → X} {f f' : AF} {x : X} {ys : List X} (h : bH g f f' (x :: ys)) : bH g f f' ys := fun y hy => h y (List.mem_cons_of_mem _ hy)
theorem bH.slice {g : X → X} {f f' : AF} {lo hi mx : Option X} (h1 : bH g f f' (ER lo)) (h2 : bH g f f' (ER hi)) (h3 : bH g f f' (ER mx)) (sz : Nat) (x : AV) : dT f sz x (zG g lo) (zG g hi) (zG g mx) = dT f' sz x lo hi mx := by
  have hs : (zG g mx).isSome = mx.isSome := by cases mx <;> rfl
  unfold dT
  simp only [h1.bnd, h2.bnd, h3.bnd, hs]
theorem zH {g : X → X} {f f' : AF} (i : AI) (h : bH g f f' i.xs) (H : AH) : aH (i.mapX g) f H = aH i f' H := by
  have h1 : ∀ x, x ∈ i.xs → ev f (g x) = ev f' x := h
  cases i with
  | build z ps => simp only [AI.mapX, aH, bH.fillc (ps := ps) z h]
  | bsl s l z ps => simp only [AI.mapX, aH, bH.all (ps := ps) h, bH.putp (ps := ps) _ h]
  | bslz s l z ps => simp only [AI.mapX, aH, bH.all (ps := ps) h, bH.putp (ps := ps) _ h]
  | slice s x lo hi mx =>
    have hx := h1 x (by simp [AI.xs])
    have ht := bH.tail (x := x) h
    simp only [AI.mapX, aH, hx, bH.slice ht.left.left ht.left.right ht.right]
  | sslice x lo hi =>
    have hx := h1 x (by simp [AI.xs])
    have ht := bH.tail (x := x) h
    simp only [AI.mapX, aH, hx, ht.left.bnd, ht.right.bnd]
  | mkf k a b => simp only [AI.mapX, aH, bH.map (xs := a) (bH.left h), bH.map (xs := b) (bH.right h)]
  | mx x xs => simp only [AI.mapX, aH, h1 x (by simp [AI.xs]), bH.map (xs := xs) (bH.tail h)]
  | mn x xs => simp only [AI.mapX, aH, h1 x (by simp [AI.xs]), bH.map (xs := xs) (bH.tail h)]
  | call k xs => rfl
  | callv x xs => rfl
  | alloc s z => rfl
  | bad => rfl
  | pick c a b => simp only [AI.mapX, aH, h1 c (by simp [AI.xs]), h1 a (by simp [AI.xs]), h1 b (by simp [AI.xs])]
  | bin op x y => simp only [AI.mapX, aH, h1 x (by simp [AI.xs]), h1 y (by simp [AI.xs])]
  | eqa op ks x y => simp only [AI.mapX, aH, h1 x (by simp [AI.xs]), h1 y (by simp [AI.xs])]
  | eqb op x y => simp only [AI.mapX, aH, h1 x (by simp [AI.xs]), h1 y (by simp [AI.xs])]
  | store s x y => simp only [AI.mapX, aH, h1 x (by simp [AI.xs]), h1 y (by simp [AI.xs])]
  | iaddr s x y => simp only [AI.mapX, aH, h1 x (by simp [AI.xs]), h1 y (by simp [AI.xs])]
  | sidx x y => simp only [AI.mapX, aH, h1 x (by simp [AI.xs]), h1 y (by simp [AI.xs])]
  | app s b x y => simp only [AI.mapX, aH, h1 x (by simp [AI.xs]), h1 y (by simp [AI.xs])]
  | mks s b z x y => simp only [AI.mapX, aH, h1 x (by simp [AI.xs]), h1 y (by simp [AI.xs])]
  | appz s b z x y => simp only [AI.mapX, aH, h1 x (by simp [AI.xs]), h1 y (by simp [AI.xs])]
  | cap x => simp only [AI.mapX, aH, h1 x (by simp [AI.xs])]
  | clr s z x => simp only [AI.mapX, aH, h1 x (by simp [AI.xs])]
  | mov x => simp only [AI.mapX, aH, h1 x (by simp [AI.xs])]
  | eqn c n x => simp only [AI.mapX, aH, h1 x (by simp [AI.xs])]
  | nilt n x => simp only [AI.mapX, aH, h1 x (by simp [AI.xs])]
  | un op x => simp only [AI.mapX, aH, h1 x (by simp [AI.xs])]
  | conv k x => simp only [AI.mapX, aH, h1 x (by simp [AI.xs])]
  | box s x => simp only [AI.mapX, aH, h1 x (by simp [AI.xs])]
  | load a s x => simp only [AI.mapX, aH, h1 x (by simp [AI.xs])]
  | faddr o x => simp only [AI.mapX, aH, h1 x (by simp [AI.xs])]
  | field a s o x => simp only [AI.mapX, aH, h1 x (by simp [AI.xs])]
  | ext x k => simp only [AI.mapX, aH, h1 x (by simp [AI.xs])]
  | nilc x => simp only [AI.mapX, aH, h1 x (by simp [AI.xs])]
  | mki t x => simp only [AI.mapX, aH, h1 x (by simp [AI.xs])]
  | len x => simp only [AI.mapX, aH, h1 x (by simp [AI.xs])]
  | slen x => simp only [AI.mapX, aH, h1 x (by simp [AI.xs])]
theorem zI {P : Program} {g : X → X} {f f' : AF} (i : AI) (h : bH g f f' i.xs) (q : Bool) (Q : AV → AH → Prop) (H : AH) : cR P (i.mapX g) q Q f H = cR P i q Q f' H := by
  have hx := zH i h H
  cases i with
  | call k xs => simp only [AI.mapX, cR, bH.map (xs := xs) h]
  | callv x xs => simp only [AI.mapX, cR, h x (by simp [AI.xs]), bH.map (xs := xs) (bH.tail h)]
  | nilt neg x => simp only [AI.mapX, cR, h x (by simp [AI.xs])]
  | _ =>
    simp only [AI.mapX] at hx ⊢
    simp only [cR, hx]
def jM : AI → Bool
  | .load .. => true
  | _ => false
theorem mS {i : AI} (h1 : dZ i = false) (h2 : eO i = false) (h3 : eV i = false) {f : AF} {H : AH} {v : AV} {H' : AH} (h : aH i f H = some (v, H')) (H2 : AH) (hJ : jM i = true → ∃ J, H2 = H ++ J) : H' = H ∧ aH i f H2 = some (v, H2) := by
  have obj : ∀ J t o, obj? H t = some o → obj? (H ++ J) t = some o := fun J t o e => by
    obtain ⟨sz, es⟩ := o
    have := obj?_some e
    unfold obj?
    rw [List.getElem?_append_left (List.getElem?_eq_some_iff.1 this).1, this]
  cases i with
  | load a s x =>
    obtain ⟨J, rfl⟩ := hJ rfl
    simp only [aH, Option.map_eq_some_iff] at h ⊢
    obtain ⟨u, h4, h5⟩ := h
    cases h5
    refine ⟨rfl, v, ?_, rfl⟩
    unfold cG at h4 ⊢
    split at h4
    · simp only [Option.bind_eq_some_iff] at h4 ⊢
      obtain ⟨o, g1, g2⟩ := h4
      exact ⟨o, obj _ _ _ g1, g2⟩
    · exact h4
    · cases h4
  | pick c a b =>
    simp only [aH] at h ⊢
    split at h
    · cases h; exact ⟨rfl, rfl⟩
    · cases h
  | eqb c a b =>
    simp only [aH] at h ⊢
    split at h
    · cases h; exact ⟨rfl, rfl⟩
    · cases h
  | eqa c ks a b =>
    simp only [aH] at h ⊢
    split at h
    · simp only [Option.map_eq_some_iff] at h ⊢
      obtain ⟨u, h4, h5⟩ := h
      cases h5; exact ⟨rfl, _, h4, rfl⟩
    · cases h
  | conv c a =>
    simp only [aH] at h ⊢
    split at h
    · cases h; exact ⟨rfl, rfl⟩
    · cases h
  | ext x k =>
    simp only [aH] at h ⊢
    split at h
    · simp only [Option.map_eq_some_iff] at h ⊢
      obtain ⟨u, h4, h5⟩ := h
      cases h5; exact ⟨rfl, _, h4, rfl⟩
    · cases h
  | nilc x =>
    simp only [aH] at h ⊢
    split at h <;> first | (cases h; exact ⟨rfl, rfl⟩) | cases h
  | slen x =>
    simp only [aH] at h ⊢
    split at h
    · cases h; exact ⟨rfl, rfl⟩
    · cases h
  | sslice x lo hi =>
    simp only [aH] at h ⊢
    split at h
    · simp only [Option.bind_eq_some_iff, Option.map_eq_some_iff] at h ⊢
      obtain ⟨u, h4, u', h5, h6⟩ := h
      cases h6; exact ⟨rfl, _, h4, _, h5, rfl⟩
    · cases h
  | call k xs => cases h1
  | callv x xs => cases h1
  | box s x => cases h2
  | alloc s z => cases h2
  | bsl s l z ps => cases h2
  | bslz s l z ps => cases h3
  | store s x y => cases h3
  | app s b x y => cases h3
  | mks s b z x y => cases h3
  | appz s b z x y => cases h3
  | clr s z x => cases h3
  | mov x => cases h; exact ⟨rfl, rfl⟩
  | mkf k a b => cases h; exact ⟨rfl, rfl⟩
  | bad => cases h
  | mki t x => cases h; exact ⟨rfl, rfl⟩
  | _ =>
    simp only [aH, Option.map_eq_some_iff] at h ⊢
    obtain ⟨u, h4, h5⟩ := h
    cases h5; exact ⟨rfl, _, h4, rfl⟩
theorem wN {i : AI} (h2 : eO i = true) {f : AF} {H : AH} {v : AV} {H' : AH} (h : aH i f H = some (v, H')) : ∃ o, H' = H ++ [o] := by
  cases i with
  | box s x => simp only [aH] at h; split at h; · cases h; exact ⟨_, rfl⟩
               · cases h
  | alloc s z => cases h; exact ⟨_, rfl⟩
  | bsl s l z ps => simp only [aH] at h; split at h; · cases h; exact ⟨_, rfl⟩
                    · cases h
  | _ => cases h2
end Go.Eng
end
section
set_option linter.unusedVariables false
set_option linter.unusedSimpArgs false
namespace Go.Eng
open Go
def bD (ops : Array Oper) (i : Nat) : Option Nat := (ops[i]?).bind (·.dst)
def dE (ops : Array Oper) (i : Nat) : List Nat :=
  match ops[i]? with
  | some o => (o.after.toList.filter (Region.binds .any ·)).map (·.on)
  | none => []
def slots (i : AI) : List Nat := i.xs.filterMap fun | .t s => some s | .v _ => none
def bI (i : AI) : Bool := dZ i || (eV i || fJ i)
def nK (bar : Nat → Bool) (ops : Array Oper) : Nat → List Nat → List Nat → List Nat
  | 0, rest, acc => acc.reverse ++ rest
  | k + 1, rest, acc =>
    match rest.find? fun i => !bar i && (dE ops i).all (acc.contains ·) with
    | some i => nK bar ops k (rest.erase i) (i :: acc)
    | none => match rest.find? fun i => (dE ops i).all (acc.contains ·) with
      | some i => nK bar ops k (rest.erase i) (i :: acc)
      | none => acc.reverse ++ rest
def src (ops : Array Oper) (ord : List Nat) (j s : Nat) : Option Nat := ((ord.take (ord.idxOf j)).reverse).find? fun i => bD ops i == some s
def ren (ops : Array Oper) (n : Nat) (ord : List Nat) (j : Nat) : X → X
  | .t s => match src ops ord j s with
    | some i => .t (n + i)
    | none => .t s
  | .v a => .v a
def eA (ops : Array Oper) (j : Nat) : Option (Nat × Bool) := (ops[j]?).bind (·.guard)
def reads (ops : Array Oper) (ai : Nat → AI) (j : Nat) : List Nat :=
  slots (ai j) ++ (match eA ops j with | some (k, _) => (bD ops k).toList | none => [])
def TF (ops : Array Oper) : Nat → List Nat → List Nat
  | 0, S => S
  | k + 1, S => TF ops k (S ++ ((S.flatMap (dE ops)).filter fun e => !S.contains e).eraseDups)
def FG (ops : Array Oper) (b : Nat) : List Nat := TF ops 8 (dE ops b)
def sK (ops : Array Oper) (n : Nat) (ord : List Nat) (ai : Nat → AI) (q : Nat → Bool) : Bool :=
  let p := ord.idxOf
  -- all, each once, behind what it FG for
  (List.range ops.size).all (ord.contains ·) && ord.all (fun i => decide (i < ops.size)) && decide (ord.length = ops.size) && decide ord.Nodup &&
  ord.all (fun i => (dE ops i).all fun e => decide (p e < p i)) &&
  -- nothing overtakes a call or a write
  ord.all (fun b => !bI (ai b) || ord.all fun i => !decide (p b < p i) || (dE ops i).any fun e => decide (p b ≤ p e)) &&
  -- what is read has been written, and is not written anew
  ord.all (fun j => (reads ops ai j).all fun s => (match src ops ord j s with | some i => (dE ops j).contains i | none => true) &&
    ord.all fun i => !(decide (p j < p i) && bD ops i == some s) || (dE ops i).contains j) &&
  ord.all (fun j => ord.all fun i => !(decide (p j < p i) && (bD ops j).isSome && bD ops i == bD ops j) || (dE ops i).contains j) &&
  ord.all (fun j => match eA ops j with | some (k, _) => (match bD ops k with | some s => src ops ord j s == some k && decide (s < n) | none => false) | none => true) &&
  -- loads ahead of a write
  ord.all (fun b => !(bI (ai b) && !q b) || (fun W => ord.all fun j => !(jM (ai j) && decide (p j < p b)) || W.contains j) (FG ops b)) &&
  ord.all (fun j => (match bD ops j with | some s => decide (s < n) | none => true) && (reads ops ai j).all fun s => decide (s < n))
def OB (ops : Array Oper) (n : Nat) (ord : List Nat) (ai : Nat → AI) (q : Nat → Bool) (j : Nat) : AOp :=
  ⟨some (n + j), (eA ops j).map fun g => (n + g.1, g.2), q j, (ai j).mapX (ren ops n ord j)⟩
def qF (ops : Array Oper) (n : Nat) : List Nat → List AOp
  | [] => []
  | j :: r => match bD ops j with
    | some s => ⟨some s, none, false, .mov (.t (n + j))⟩ :: qF ops n r
    | none => qF ops n r
def OR (ops : Array Oper) (ord : List Nat) (ai : Nat → AI) (b : Nat) : Bool :=
  bI (ai b) && !((fun W => ord.all fun j => !(jM (ai j) && decide (ord.idxOf j < ord.idxOf b)) || W.contains j) (FG ops b))
def zJ (P : Program) (n : Nat) (ops : Array Oper) : Option (List AOp) :=
    let is := ops.toList.map (compOp' P n)
    let ai := fun j => is.getD j .bad
    let ord := nK (fun i => bI (ai i)) ops ops.size (List.range ops.size) []
    let q := OR ops ord ai
    if sK ops n ord ai q && P.follows .mixedOrders then some (ord.map (OB ops n ord ai q) ++ qF ops n ord) else none
end Go.Eng
end
section
set_option linter.unusedVariables false
set_option linter.unusedSimpArgs false
namespace Go.Eng
open Go
theorem sL {A B : List Nat} {i : Nat} (h : (A ++ i :: B).Nodup) : (A ++ i :: B).idxOf i = A.length := by
  have hn : i ∉ A := fun hi => by
    have := (List.nodup_append.1 h).2.2 i hi i (by simp)
    exact this rfl
  rw [List.idxOf_append, if_neg hn]
  simp
theorem mT {A B : List Nat} {i : Nat} (h : i ∈ A) : (A ++ B).idxOf i < A.length := by
  rw [List.idxOf_append, if_pos h]
  exact List.idxOf_lt_length_of_mem h
theorem kX {A B : List Nat} {i : Nat} (h : i ∉ A) : A.length ≤ (A ++ B).idxOf i := by
  rw [List.idxOf_append, if_neg h]
  omega
theorem sM {l : List Nat} {i j : Nat} (hi : i ∈ l) (hj : j ∈ l) (h : l.idxOf i = l.idxOf j) : i = j := by
  have h1 := List.getElem_idxOf (List.idxOf_lt_length_of_mem hi)
  have h2 := List.getElem_idxOf (List.idxOf_lt_length_of_mem hj)
  rw [← h1, ← h2]
  congr 1
theorem fN {l : List Nat} {k x : Nat} : x ∈ l.take k ↔ x ∈ l ∧ l.idxOf x < k := by
  constructor
  · intro h
    have hm := List.mem_of_mem_take h
    refine ⟨hm, ?_⟩
    have h1 : l.idxOf x = (l.take k ++ l.drop k).idxOf x := by rw [List.take_append_drop]
    rw [h1]
    have := mT (B := l.drop k) h
    rw [List.length_take] at this
    omega
  · intro ⟨h1, h2⟩
    rcases List.mem_append.1 (show x ∈ l.take k ++ l.drop k by rw [List.take_append_drop]; exact h1) with h | h
    · exact h
    · by_cases hx : x ∈ l.take k
      · exact hx
      · have := kX (B := l.drop k) hx
        rw [List.take_append_drop, List.length_take] at this
        have hlt := List.idxOf_lt_length_of_mem h1
        omega
theorem qG {l : List Nat} (hn : l.Nodup) (c : Nat → Bool) :
    (∀ i, l.reverse.find? c = some i → i ∈ l ∧ c i = true ∧ ∀ i', i' ∈ l → c i' = true → l.idxOf i' ≤ l.idxOf i) ∧ (l.reverse.find? c = none → ∀ i, i ∈ l → c i = false) := by
  refine ⟨fun i h => ?_, fun h i hi => ?_⟩
  · obtain ⟨h1, as0, bs, h2, h3⟩ := List.find?_eq_some_iff_append.1 h
    have hl : l = bs.reverse ++ i :: as0.reverse := by
      have := congrArg List.reverse h2
      rw [List.reverse_reverse] at this
      simpa using this
    refine ⟨by rw [hl]; simp, h1, fun i' hi' hc => ?_⟩
    rw [hl] at hn
    rw [hl, sL hn]
    rw [hl] at hi'
    rcases List.mem_append.1 hi' with h4 | h4
    · exact Nat.le_of_lt (mT h4)
    · cases h4 with
      | head => rw [sL hn]; exact Nat.le_refl _
      | tail _ h5 =>
        have := h3 i' (List.mem_reverse.1 h5)
        rw [hc] at this; cases this
  · have := List.find?_eq_none.1 h i (List.mem_reverse.2 hi)
    simpa using this
section
variable {ops : Array Oper} {n : Nat} {ord : List Nat} {ai : Nat → AI} {q : Nat → Bool}
structure Chk (ops : Array Oper) (n : Nat) (ord : List Nat) (ai : Nat → AI) (q : Nat → Bool) : Prop where
  all : ∀ i, i < ops.size → i ∈ ord
  lt : ∀ i, i ∈ ord → i < ops.size
  nodup : ord.Nodup
  edge : ∀ i, i ∈ ord → ∀ e ∈ dE ops i, ord.idxOf e < ord.idxOf i
  over : ∀ b, b ∈ ord → bI (ai b) = true → ∀ i, i ∈ ord → ord.idxOf b < ord.idxOf i → ∃ e ∈ dE ops i, ord.idxOf b ≤ ord.idxOf e
  readA : ∀ j, j ∈ ord → ∀ s ∈ reads ops ai j, ∀ i, src ops ord j s = some i → i ∈ dE ops j
  readB : ∀ j, j ∈ ord → ∀ s ∈ reads ops ai j, ∀ i, i ∈ ord → ord.idxOf j < ord.idxOf i → bD ops i = some s → j ∈ dE ops i
  write : ∀ j, j ∈ ord → ∀ i, i ∈ ord → ord.idxOf j < ord.idxOf i → ∀ d, bD ops j = some d → bD ops i = some d → j ∈ dE ops i
  guard : ∀ j, j ∈ ord → ∀ k b, eA ops j = some (k, b) → ∃ s, bD ops k = some s ∧ src ops ord j s = some k ∧ s < n
  load : ∀ b, b ∈ ord → bI (ai b) = true → q b = false → ∀ j, j ∈ ord → jM (ai j) = true → ord.idxOf j < ord.idxOf b → j ∈ FG ops b
  dst : ∀ j, j ∈ ord → ∀ s, bD ops j = some s → s < n
  rd : ∀ j, j ∈ ord → ∀ s ∈ reads ops ai j, s < n
theorem qH (h : sK ops n ord ai q = true) : Chk ops n ord ai q := by
  unfold sK at h
  simp only [Bool.and_eq_true] at h
  obtain ⟨⟨⟨⟨⟨⟨⟨⟨⟨⟨h1, h2⟩, h3⟩, h4⟩, h5⟩, h6⟩, h7⟩, h8⟩, h9⟩, h10⟩, h11⟩ := h
  simp only [List.all_eq_true, decide_eq_true_eq, Bool.or_eq_true, Bool.not_eq_true', List.any_eq_true, Bool.and_eq_true, Bool.not_eq_eq_eq_not, Bool.not_true, decide_eq_false_iff_not, List.contains_iff_mem] at h1 h2 h3 h4 h5 h6 h7 h8 h9 h10 h11
  refine ⟨fun i hi => h1 i (List.mem_range.2 hi), h2, h4, h5, fun b hb hB i hi hlt => ?_, fun j hj s hs i hsrc => ?_, fun j hj s hs i hi hlt hd => ?_, fun j hj i hi hlt d h12 h13 => ?_, fun j hj k b hg => ?_, fun b hb hB hq j hj hl hlt => ?_, fun j hj s hs => ?_, fun j hj s hs => (h11 j hj).2 s hs⟩
  · rcases h6 b hb with h | h
    · rw [hB] at h; cases h
    · rcases h i hi with h | h
      · exact absurd hlt h
      · exact h
  · have := (h7 j hj s hs).1
    rw [hsrc] at this
    simpa using this
  · rcases (h7 j hj s hs).2 i hi with h | h
    · rw [hd] at h; simp [hlt] at h
    · exact h
  · rcases h8 j hj i hi with h | h
    · rw [h12, h13] at h; simp [hlt] at h
    · exact h
  · have := h9 j hj
    rw [hg] at this
    simp only at this
    split at this
    · rename_i s hs
      simp only [Bool.and_eq_true, beq_iff_eq, decide_eq_true_eq] at this
      exact ⟨s, hs, this.1, this.2⟩
    · cases this
  · rcases h10 b hb with h | h
    · rw [hB, hq] at h; cases h
    · rcases h j hj with h' | h'
      · rw [hl] at h'; simp [hlt] at h'
      · exact h'
  · have := (h11 j hj).1
    rw [hs] at this
    simpa using this
end
end Go.Eng
end
section
set_option linter.unusedVariables false
set_option linter.unusedSimpArgs false
namespace Go.Eng
open Go
def Ex (listed : Array Bool) (i : Nat) : Prop := listed.getD i false = true
def OS (ops : Array Oper) (ord : List Nat) (listed : Array Bool) (s : Nat) : Option Nat → Prop
  | none => ∀ i, Ex listed i → bD ops i ≠ some s
  | some i => Ex listed i ∧ bD ops i = some s ∧ ∀ i', Ex listed i' → bD ops i' = some s → ord.idxOf i' ≤ ord.idxOf i
def vo (n : Nat) (f : AF) (s : Nat) : Option Nat → AV
  | none => f s
  | some i => f (n + i)
def vw (ops : Array Oper) (n : Nat) (ord : List Nat) (ai : Nat → AI) (j : Nat) (f : AF) : AF := fun s => if s ∈ reads ops ai j then vo n f s (src ops ord j s) else .undef
theorem OT {ops : Array Oper} {n : Nat} {ord : List Nat} {j s : Nat} {f : AF} : ev f (ren ops n ord j (.t s)) = vo n f s (src ops ord j s) := by
  simp only [ren]
  cases src ops ord j s <;> rfl
theorem FH {ops : Array Oper} {n : Nat} {ord : List Nat} {ai : Nat → AI} {j : Nat} {f : AF} : bH (ren ops n ord j) f (vw ops n ord ai j f) (ai j).xs := fun x hx => by
  cases x with
  | t s =>
    have hs : s ∈ reads ops ai j := by
      unfold reads slots
      refine List.mem_append_left _ (List.mem_filterMap.2 ⟨.t s, hx, rfl⟩)
    rw [OT]
    show _ = vw ops n ord ai j f s
    unfold vw
    rw [if_pos hs]
  | v a => rfl
section
variable {ops : Array Oper} {n : Nat} {ord : List Nat} {ai : Nat → AI} {q : Nat → Bool}
theorem fZ (C : Chk ops n ord ai q) {j : Nat} (hj : j ∈ ord) (s : Nat) :
    (∀ i, src ops ord j s = some i → i ∈ ord ∧ ord.idxOf i < ord.idxOf j ∧ bD ops i = some s ∧ ∀ i', i' ∈ ord → ord.idxOf i' < ord.idxOf j → bD ops i' = some s → ord.idxOf i' ≤ ord.idxOf i) ∧
    (src ops ord j s = none → ∀ i', i' ∈ ord → ord.idxOf i' < ord.idxOf j → bD ops i' ≠ some s) := by
  have hT : (ord.take (ord.idxOf j)).Nodup := List.Sublist.nodup (List.take_sublist _ _) C.nodup
  have idx : ∀ x, x ∈ ord.take (ord.idxOf j) → (ord.take (ord.idxOf j)).idxOf x = ord.idxOf x := fun x hx => by
    have : ord.idxOf x = (ord.take (ord.idxOf j) ++ ord.drop (ord.idxOf j)).idxOf x := by rw [List.take_append_drop]
    rw [this, List.idxOf_append, if_pos hx]
  obtain ⟨h1, h2⟩ := qG hT (fun i => bD ops i == some s)
  refine ⟨fun i hi => ?_, fun hn i' hi' hlt hd => ?_⟩
  · obtain ⟨a, b, c⟩ := h1 i hi
    obtain ⟨a1, a2⟩ := fN.1 a
    refine ⟨a1, a2, by simpa using b, fun i' hi' hlt hd => ?_⟩
    have hm := fN.2 ⟨hi', hlt⟩
    have := c i' hm (by simpa using hd)
    rwa [idx i' hm, idx i a] at this
  · have := h2 hn i' (fN.2 ⟨hi', hlt⟩)
    simp [hd] at this
theorem FI (C : Chk ops n ord ai q) {listed : Array Bool} (hin : ∀ i, Ex listed i → i ∈ ord) (hcl : ∀ i, Ex listed i → ∀ e ∈ dE ops i, Ex listed e) {j : Nat} (hj : j ∈ ord) (hne : ¬ Ex listed j) (hed : ∀ e ∈ dE ops j, Ex listed e) {s : Nat} (hs : s ∈ reads ops ai j) {o : Option Nat} (hl : OS ops ord listed s o) :
    o = src ops ord j s := by
  obtain ⟨h1, h2⟩ := fZ C hj s
  have later : ∀ i, Ex listed i → bD ops i = some s → ord.idxOf i < ord.idxOf j := fun i hi hd => by
    rcases Nat.lt_trichotomy (ord.idxOf i) (ord.idxOf j) with h | h | h
    · exact h
    · have := sM (hin i hi) hj h
      rw [this] at hi; exact absurd hi hne
    · exact absurd (hcl i hi j (C.readB j hj s hs i (hin i hi) h hd)) hne
  cases hsrc : src ops ord j s with
  | none =>
    cases o with
    | none => rfl
    | some i => exact absurd hl.2.1 (h2 hsrc i (hin i hl.1) (later i hl.1 hl.2.1))
  | some k =>
    obtain ⟨k1, k2, k3, k4⟩ := h1 k hsrc
    have hk : Ex listed k := hed k (C.readA j hj s hs k hsrc)
    cases o with
    | none => exact absurd k3 (hl k hk)
    | some i =>
      have e1 := hl.2.2 k hk k3
      have e2 := k4 i (hin i hl.1) (later i hl.1 hl.2.1) hl.2.1
      rw [sM (hin i hl.1) k1 (Nat.le_antisymm e2 e1)]
end
def sN (ops : Array Oper) (n : Nat) (f : AF) (j : Nat) : Prop := eA ops j = none ∨ ∃ k b, eA ops j = some (k, b) ∧ f (n + k) = .bool b
def PS (ops : Array Oper) (n : Nat) (f : AF) (j : Nat) : Prop := ∃ k b, eA ops j = some (k, b) ∧ gv (f (n + k)) b = some false ∧ f (n + j) = .tup []
def PL (ops : Array Oper) (n : Nat) (ord : List Nat) (ai : Nat → AI) (f : AF) (H : AH) (j : Nat) : Prop := sN ops n f j ∧ eO (ai j) = false ∧ aH (ai j) (vw ops n ord ai j f) H = some (f (n + j), H)
def PM (ops : Array Oper) (n : Nat) (ord : List Nat) (ai : Nat → AI) (f : AF) (K : KW) (H : AH) (t j : Nat) : Prop :=
  sN ops n f j ∧ eO (ai j) = true ∧ ∃ Hx o, aH (ai j) (vw ops n ord ai j f) Hx = some (f (n + j), Hx ++ [o]) ∧ Hx.length = t ∧ H[t]? = some o ∧ K.pl t = none ∧ t < H.length
structure Inv (P : Program) (ops : Array Oper) (n : Nat) (ord : List Nat) (ai : Nat → AI) (q : Nat → Bool) (K0 : KW) (H0 : AH) (QF : AF → AH → Prop) (listed : Array Bool) (a : Act) (w : World)
    (pre suf : List Nat) (K : KW) (f : AF) (H : AH) (tid : Nat → Nat) : Prop where
  split : ord = pre ++ suf
  sz : listed.size = ops.size
  inn : ∀ i, Ex listed i → i ∈ pre
  closed : ∀ i, Ex listed i → ∀ e ∈ dE ops i, Ex listed e
  tmps : a.tmps.size = n
  defers : nF K a.defers
  slots : ∀ s, s < n → ∃ o, OS ops ord listed s o ∧ RelV K (vo n f s o) (a.tmps.getD s Go.undef)
  pend : ∀ j, j ∈ pre → ¬ Ex listed j → PS ops n f j ∨ PL ops n ord ai f H j ∨ PM ops n ord ai f K H (tid j) j
  apart : ∀ j j', j ∈ pre → j' ∈ pre → ¬ Ex listed j → ¬ Ex listed j' → j ≠ j' → eO (ai j) = true → eO (ai j') = true → sN ops n f j → sN ops n f j' → tid j ≠ tid j'
  low : ∀ j, j ∈ pre → ¬ Ex listed j → eO (ai j) = true → sN ops n f j → H0.length ≤ tid j
  bars : ∀ j, j ∈ pre → bI (ai j) = true → Ex listed j
  run : dJ P (suf.map (OB ops n ord ai q)) QF f H
  rel : Rel K w H
  ext : Ext K0 H0 K H
section
variable {P : Program} {ops : Array Oper} {n : Nat} {ord : List Nat} {ai : Nat → AI} {q : Nat → Bool} {K0 : KW} {H0 : AH} {QF : AF → AH → Prop} {listed : Array Bool} {a : Act} {w : World} {pre suf : List Nat} {K : KW} {f : AF} {H : AH} {tid : Nat → Nat}
theorem Inv.relF (C : Chk ops n ord ai q) (I : Inv P ops n ord ai q K0 H0 QF listed a w pre suf K f H tid) {j : Nat} (hj : j ∈ ord) (hne : ¬ Ex listed j) (hed : ∀ e ∈ dE ops j, Ex listed e) : gE n K (vw ops n ord ai j f) a := by
  refine ⟨I.tmps, fun s hs => ?_, I.defers⟩
  unfold vw
  split
  · rename_i hr
    obtain ⟨o, h1, h2⟩ := I.slots s hs
    have := FI C (fun i hi => by rw [I.split]; exact List.mem_append_left _ (I.inn i hi)) I.closed hj hne hed hr h1
    rw [← this]; exact h2
  · exact .undef _
theorem kY (C : Chk ops n ord ai q) (hsp : ord = pre ++ suf) {i j : Nat} (hi : i ∈ ord) (hj : j ∈ pre) (h : ord.idxOf i < ord.idxOf j) : i ∈ pre := by
  have h1 : ord.idxOf j < pre.length := by rw [hsp]; exact mT hj
  rcases Classical.em (i ∈ pre) with h2 | h2
  · exact h2
  · have : pre.length ≤ ord.idxOf i := by rw [hsp]; exact kX h2
    omega
theorem JA (C : Chk ops n ord ai q) (hsp : ord = pre ++ suf) {j k : Nat} (hj : j ∈ pre) (hk : k ∉ pre) (v : AV) : vw ops n ord ai j (put f (some (n + k)) v) = vw ops n ord ai j f := by
  have hjo : j ∈ ord := by rw [hsp]; exact List.mem_append_left _ hj
  funext s
  unfold vw
  split
  · rename_i hr
    have hs := C.rd j hjo s hr
    cases hsrc : src ops ord j s with
    | none => simp only [vo, put]; rw [if_neg (by omega)]
    | some i =>
      obtain ⟨h1, h2, _⟩ := (fZ C hjo s).1 i hsrc
      have hi := kY C hsp h1 hj h2
      simp only [vo, put]
      rw [if_neg ?_]
      intro e
      have : i = k := by omega
      rw [this] at hi; exact hk hi
  · rfl
theorem uT (C : Chk ops n ord ai q) (hsp : ord = pre ++ suf) {j k : Nat} (hj : j ∈ pre) (hk : k ∉ pre) (v : AV) (h : sN ops n f j) : sN ops n (put f (some (n + k)) v) j := by
  rcases h with h | ⟨k', b, h1, h2⟩
  · exact .inl h
  · have hjo : j ∈ ord := by rw [hsp]; exact List.mem_append_left _ hj
    obtain ⟨s, hs1, hs2, hs3⟩ := C.guard j hjo k' b h1
    obtain ⟨i1, i2, _⟩ := (fZ C hjo s).1 k' hs2
    have hi := kY C hsp i1 hj i2
    refine .inr ⟨k', b, h1, ?_⟩
    simp only [put]
    rw [if_neg ?_]
    · exact h2
    · intro e
      have : k' = k := by omega
      rw [this] at hi; exact hk hi
theorem qI (C : Chk ops n ord ai q) (hsp : ord = pre ++ suf) {j k : Nat} {b : Bool} (hj : j ∈ pre) (h : eA ops j = some (k, b)) : k ∈ pre := by
  have hjo : j ∈ ord := by rw [hsp]; exact List.mem_append_left _ hj
  obtain ⟨s, hs1, hs2, hs3⟩ := C.guard j hjo k b h
  obtain ⟨i1, i2, _⟩ := (fZ C hjo s).1 k hs2
  exact kY C hsp i1 hj i2
theorem eB {f : AF} {m k : Nat} {v : AV} (h : m ≠ k) : put f (some k) v m = f m := by simp [put, h]
theorem qJ {f : AF} {k : Nat} {v : AV} : put f (some k) v k = v := by simp [put]
theorem JB (C : Chk ops n ord ai q) (hsp : ord = pre ++ suf) {j k : Nat} (hj : j ∈ pre) (hk : k ∉ pre) (v : AV) (h : PS ops n f j) : PS ops n (put f (some (n + k)) v) j := by
  obtain ⟨k', b, h1, h2, h4⟩ := h
  have hk' := qI C hsp hj h1
  have e1 : k' ≠ k := fun e => hk (e ▸ hk')
  have e2 : j ≠ k := fun e => hk (e ▸ hj)
  exact ⟨k', b, h1, by rw [eB (by omega)]; exact h2, by rw [eB (by omega)]; exact h4⟩
theorem JC (C : Chk ops n ord ai q) (hsp : ord = pre ++ suf) {j k : Nat} (hj : j ∈ pre) (hk : k ∉ pre) (v : AV) (hb : bI (ai j) = false) (H2 : AH) (hJ : jM (ai j) = true → ∃ J, H2 = H ++ J) (h : PL ops n ord ai f H j) : PL ops n ord ai (put f (some (n + k)) v) H2 j := by
  obtain ⟨h1, h2, h3⟩ := h
  have e2 : j ≠ k := fun e => hk (e ▸ hj)
  have hc : dZ (ai j) = false ∧ eV (ai j) = false ∧ fJ (ai j) = false := by simpa [bI] using hb
  refine ⟨uT C hsp hj hk v h1, h2, ?_⟩
  rw [JA C hsp hj hk, eB (by omega)]
  exact (mS hc.1 h2 hc.2.1 h3 H2 hJ).2
theorem JD (C : Chk ops n ord ai q) (hsp : ord = pre ++ suf) {j k t : Nat} (hj : j ∈ pre) (hk : k ∉ pre) (v : AV) {K' : KW} {H' : AH} (he : Ext K H K' H') (h : PM ops n ord ai f K H t j) : PM ops n ord ai (put f (some (n + k)) v) K' H' t j := by
  obtain ⟨h1, h2, Hx, o, h3, h4, h5, h6, h7⟩ := h
  have e2 : j ≠ k := fun e => hk (e ▸ hj)
  obtain ⟨a1, a2⟩ := he.abs t h7 h6
  refine ⟨uT C hsp hj hk v h1, h2, Hx, o, ?_, h4, by rw [a2]; exact h5, a1, Nat.lt_of_lt_of_le h7 he.len⟩
  rw [JA C hsp hj hk, eB (by omega)]
  exact h3
end
end Go.Eng
end
section
set_option linter.unusedVariables false
set_option linter.unusedSimpArgs false
namespace Go.Eng
open Go
section
variable {P : Program} {ops : Array Oper} {n : Nat} {ord : List Nat} {ai : Nat → AI} {q : Nat → Bool} {K0 : KW} {H0 : AH} {QF : AF → AH → Prop} {listed : Array Bool} {a : Act} {w : World} {pre suf : List Nat} {K : KW} {f : AF} {H : AH} {tid : Nat → Nat}
theorem dK (C : Chk ops n ord ai q) (hsp : ord = pre ++ suf) {j k : Nat} (hj : j ∈ pre) (hk : k ∉ pre) (v : AV) (h : sN ops n (put f (some (n + k)) v) j) : sN ops n f j := by
  rcases h with h | ⟨k', b, h1, h2⟩
  · exact .inl h
  · have hk' := qI C hsp hj h1
    refine .inr ⟨k', b, h1, ?_⟩
    rw [eB ?_] at h2
    · exact h2
    · intro e
      have : k' = k := by omega
      exact hk (this ▸ hk')
theorem OU {j : Nat} (h : PS ops n f j) : ¬ sN ops n f j := fun r => by
  obtain ⟨k, b, h1, h2, _⟩ := h
  rcases r with r | ⟨k', b', r1, r2⟩
  · rw [r] at h1; cases h1
  · rw [h1] at r1; cases r1
    rw [r2, yZ] at h2; cases h2
theorem zK {i : Nat} {r : List AOp} {Q : AF → AH → Prop} (h : dJ P (OB ops n ord ai q i :: r) Q f H) :
    (sN ops n f i ∧ cR P (ai i) (q i) (fun v H' => dJ P r Q (put f (some (n + i)) v) H') (vw ops n ord ai i f) H) ∨
    (∃ k b, eA ops i = some (k, b) ∧ gv (f (n + k)) b = some false ∧ dJ P r Q (put f (some (n + i)) (.tup [])) H) := by
  have key : ∀ Q', cR P ((ai i).mapX (ren ops n ord i)) (q i) Q' f H → cR P (ai i) (q i) Q' (vw ops n ord ai i f) H := fun Q' h => by
    rwa [zI (ai i) FH] at h
  simp only [dJ, OB] at h
  cases hg : eA ops i with
  | none =>
    rw [hg] at h
    exact .inl ⟨.inl hg, key _ h⟩
  | some p =>
    obtain ⟨k, b⟩ := p
    rw [hg] at h
    simp only [Option.map_some] at h
    split at h
    · rename_i hc
      exact .inl ⟨.inr ⟨k, b, hg, KD hc⟩, key _ h⟩
    · rename_i hc
      exact .inr ⟨k, b, rfl, hc, h⟩
    · exact h.elim
theorem eP (C : Chk ops n ord ai q) {b : Nat} {r : List Nat} (hsp : ord = pre ++ b :: r) : b ∉ pre := fun hb => by
  have := C.nodup
  rw [hsp] at this
  exact (List.nodup_append.1 this).2.2 b hb b (by simp) rfl
theorem Inv.more (C : Chk ops n ord ai q) {b : Nat} {r : List Nat} (I : Inv P ops n ord ai q K0 H0 QF listed a w pre (b :: r) K f H tid) (hbar : bI (ai b) = false) {v : AV} {J : AH} {t : Nat}
    (hrun : dJ P (r.map (OB ops n ord ai q)) QF (put f (some (n + b)) v) (H ++ J)) (hnew : PS ops n (put f (some (n + b)) v) b ∨ PL ops n ord ai (put f (some (n + b)) v) (H ++ J) b ∨ PM ops n ord ai (put f (some (n + b)) v) K (H ++ J) t b) (ht : H.length ≤ t) :
    Inv P ops n ord ai q K0 H0 QF listed a w (pre ++ [b]) r K (put f (some (n + b)) v) (H ++ J) (fun j => if j = b then t else tid j) := by
  have hb := eP C I.split
  have hnb : ¬ Ex listed b := fun h => hb (I.inn b h)
  have hsp' : ord = (pre ++ [b]) ++ r := by rw [I.split]; simp
  have nb : ∀ j, j ∈ pre → j ≠ b := fun j hj e => hb (e ▸ hj)
  have cases2 : ∀ j, j ∈ pre ++ [b] → j ∈ pre ∨ j = b := fun j hj => by
    rcases List.mem_append.1 hj with h | h
    · exact .inl h
    · exact .inr (by simpa using h)
  have ltH : ∀ j, j ∈ pre → ¬ Ex listed j → eO (ai j) = true → sN ops n f j → tid j < H.length := fun j hj hne hm hr => by
    rcases I.pend j hj hne with h | h | h
    · exact absurd hr (OU h)
    · rw [h.2.1] at hm; cases hm
    · obtain ⟨_, _, _, _, _, _, _, _, h7⟩ := h; exact h7
  refine ⟨hsp', I.sz, fun i hi => List.mem_append_left _ (I.inn i hi), I.closed, I.tmps, I.defers, fun s hs => ?_, fun j hj hne => ?_, fun j j' hj hj' hne hne' hjj hm hm' hr hr' => ?_, fun j hj hne hm hr => ?_, fun j hj hB => ?_, hrun, I.rel.absent J, I.ext.trans (Ext.absent K H J)⟩
  · obtain ⟨o, h1, h2⟩ := I.slots s hs
    refine ⟨o, h1, ?_⟩
    have : vo n (put f (some (n + b)) v) s o = vo n f s o := by
      cases o with
      | none => exact eB (by omega)
      | some i =>
        have := nb i (I.inn i h1.1)
        exact eB (by omega)
    rw [this]; exact h2
  · rcases cases2 j hj with h | h
    · simp only [if_neg (nb j h)]
      have hB : bI (ai j) = false := by
        cases hq : bI (ai j) with
        | false => rfl
        | true => exact absurd (I.bars j h hq) hne
      rcases I.pend j h hne with h1 | h1 | h1
      · exact .inl (JB C I.split h hb v h1)
      · exact .inr (.inl (JC C I.split h hb v hB _ (fun _ => ⟨J, rfl⟩) h1))
      · exact .inr (.inr (JD C I.split h hb v (Ext.absent K H J) h1))
    · subst h
      simp only [if_pos rfl]
      exact hnew
  · rcases cases2 j hj with h | h <;> rcases cases2 j' hj' with h' | h'
    · simp only [if_neg (nb j h), if_neg (nb j' h')]
      exact I.apart j j' h h' hne hne' hjj hm hm' (dK C I.split h hb v hr) (dK C I.split h' hb v hr')
    · subst h'
      show (if j = j' then t else tid j) ≠ (if j' = j' then t else tid j')
      rw [if_neg (nb j h), if_pos rfl]
      have := ltH j h hne hm (dK C I.split h hb v hr)
      omega
    · subst h
      show (if j = j then t else tid j) ≠ (if j' = j then t else tid j')
      rw [if_neg (nb j' h'), if_pos rfl]
      have := ltH j' h' hne' hm' (dK C I.split h' hb v hr')
      omega
    · exact absurd (h.trans h'.symm) hjj
  · rcases cases2 j hj with h | h
    · show H0.length ≤ (if j = b then t else tid j)
      rw [if_neg (nb j h)]
      exact I.low j h hne hm (dK C I.split h hb v hr)
    · show H0.length ≤ (if j = b then t else tid j)
      rw [if_pos h]
      exact Nat.le_trans I.ext.len ht
  · rcases cases2 j hj with h | h
    · exact I.bars j h hB
    · subst h; rw [hbar] at hB; cases hB
theorem Inv.advance (C : Chk ops n ord ai q) : ∀ (suf pre : List Nat) (f : AF) (H : AH) (tid : Nat → Nat), Inv P ops n ord ai q K0 H0 QF listed a w pre suf K f H tid →
    ∃ pre' suf' f' H' tid', Inv P ops n ord ai q K0 H0 QF listed a w pre' suf' K f' H' tid' ∧ (suf' = [] ∨ ∃ b r, suf' = b :: r ∧ bI (ai b) = true)
  | [], pre, f, H, tid, I => ⟨_, _, _, _, _, I, .inl rfl⟩
  | b :: r, pre, f, H, tid, I => by
    cases hbar : bI (ai b) with
    | true => exact ⟨_, _, _, _, _, I, .inr ⟨b, r, rfl, hbar⟩⟩
    | false =>
      have hb := eP C I.split
      have hbo : b ∈ ord := by rw [I.split]; simp
      have hc : dZ (ai b) = false ∧ eV (ai b) = false ∧ fJ (ai b) = false := by simpa [bI] using hbar
      have hsp' : ord = (pre ++ [b]) ++ r := by rw [I.split]; simp
      -- what the operation sees is not what it writes
      have self : ∀ v, vw ops n ord ai b (put f (some (n + b)) v) = vw ops n ord ai b f := fun v => by
        funext s
        unfold vw
        split
        · rename_i hr
          have hs := C.rd b hbo s hr
          cases hsrc : src ops ord b s with
          | none => exact eB (by omega)
          | some i =>
            obtain ⟨h1, h2, _⟩ := (fZ C hbo s).1 i hsrc
            have : i ≠ b := fun e => by rw [e] at h2; omega
            exact eB (by omega)
        · rfl
      have gself : ∀ k bb, eA ops b = some (k, bb) → k ≠ b := fun k bb hg e => by
        obtain ⟨s, hs1, hs2, hs3⟩ := C.guard b hbo k bb hg
        obtain ⟨_, h2, _⟩ := (fZ C hbo s).1 k hs2
        rw [e] at h2; omega
      have rself : ∀ v, sN ops n f b → sN ops n (put f (some (n + b)) v) b := fun v h => by
        rcases h with h | ⟨k, bb, h1, h2⟩
        · exact .inl h
        · have := gself k bb h1
          exact .inr ⟨k, bb, h1, by rw [eB (by omega)]; exact h2⟩
      rcases zK I.run with ⟨hr, hs⟩ | ⟨k, bb, h1, h2, h4⟩
      · obtain ⟨v, H', h5, _, h6⟩ := mR hc.1 hc.2.2 hs
        cases hm : eO (ai b) with
        | true =>
          obtain ⟨o, rfl⟩ := wN hm h5
          exact Inv.advance C r _ _ _ _ (I.more C hbar (t := H.length) h6 (.inr (.inr ⟨rself v hr, hm, H, o, by rw [self, qJ]; exact h5, rfl, by simp, I.rel.unplaced (Nat.le_refl _), by simp⟩)) (Nat.le_refl _))
        | false =>
          obtain ⟨rfl, _⟩ := mS hc.1 hm hc.2.1 h5 H (fun _ => ⟨[], by simp⟩)
          have := I.more C hbar (J := []) (v := v) (t := H'.length) (by rw [List.append_nil]; exact h6) (.inr (.inl ⟨rself v hr, hm, by rw [self, qJ, List.append_nil]; exact h5⟩)) (Nat.le_refl _)
          exact Inv.advance C r _ _ _ _ this
      · have hk := gself k bb h1
        have := I.more C hbar (J := []) (v := .tup []) (t := H.length) (by rw [List.append_nil]; exact h4) (.inl ⟨k, bb, h1, by rw [eB (by omega)]; exact h2, qJ⟩) (Nat.le_refl _)
        exact Inv.advance C r _ _ _ _ this
end
end Go.Eng
end
section
set_option linter.unusedVariables false
set_option linter.unusedSimpArgs false
namespace Go.Eng
open Go
theorem zL {listed : Array Bool} {i j : Nat} (hj : j < listed.size) : Ex (listed.setIfInBounds j true) i ↔ Ex listed i ∨ i = j := by
  unfold Ex
  rw [Array.getD_eq_getD_getElem?, Array.getElem?_setIfInBounds, Array.getD_eq_getD_getElem?]
  by_cases e : j = i
  · subst e; simp [hj]
  · rw [if_neg e]
    constructor
    · exact .inl
    · rintro (h | h)
      · exact h
      · exact absurd h.symm e
section
variable {P : Program} {ops : Array Oper} {n : Nat} {ord : List Nat} {ai : Nat → AI} {q : Nat → Bool} {K0 : KW} {H0 : AH} {QF : AF → AH → Prop} {listed : Array Bool} {a : Act} {w : World} {pre suf : List Nat} {K : KW} {f : AF} {H : AH} {tid : Nat → Nat}
theorem Inv.mark (C : Chk ops n ord ai q) (I : Inv P ops n ord ai q K0 H0 QF listed a w pre suf K f H tid) {j : Nat} (hj : j ∈ pre) (hne : ¬ Ex listed j) (hed : ∀ e ∈ dE ops j, Ex listed e) {cv : Value} {w' : World} {K' : KW}
    (hk : K.le K') (hr : Rel K' w' H) (he : Ext K0 H0 K' H) (rv : RelV K' (f (n + j)) cv) (hpm : ∀ j', j' ∈ pre → ¬ Ex listed j' → j' ≠ j → PM ops n ord ai f K H (tid j') j' → PM ops n ord ai f K' H (tid j') j') :
    Inv P ops n ord ai q K0 H0 QF (listed.setIfInBounds j true) (a.put (bD ops j) cv) w' pre suf K' f H tid := by
  have hjo : j ∈ ord := by rw [I.split]; exact List.mem_append_left _ hj
  have hlt : j < listed.size := by rw [I.sz]; exact C.lt j hjo
  have hex : ∀ i, Ex (listed.setIfInBounds j true) i ↔ Ex listed i ∨ i = j := fun i => zL hlt
  have nex : ∀ i, ¬ Ex (listed.setIfInBounds j true) i → ¬ Ex listed i ∧ i ≠ j := fun i h => ⟨fun g => h ((hex i).2 (.inl g)), fun g => h ((hex i).2 (.inr g))⟩
  refine ⟨I.split, by simpa using I.sz, fun i hi => ?_, fun i hi e hE => ?_, by rw [zB]; exact I.tmps, by cases hd : bD ops j <;> exact I.defers.mono hk, fun s hs => ?_, fun j' hj' hn => ?_, fun j1 j2 h1 h2 n1 n2 hn m1 m2 r1 r2 => I.apart j1 j2 h1 h2 (nex _ n1).1 (nex _ n2).1 hn m1 m2 r1 r2, fun j1 h1 n1 m1 r1 => I.low j1 h1 (nex _ n1).1 m1 r1, fun j' hj' hB => (hex _).2 (.inl (I.bars j' hj' hB)), I.run, hr, he⟩
  · rcases (hex i).1 hi with h | h
    · exact I.inn i h
    · rw [h]; exact hj
  · rcases (hex i).1 hi with h | h
    · exact (hex e).2 (.inl (I.closed i h e hE))
    · rw [h] at hE; exact (hex e).2 (.inl (hed e hE))
  · obtain ⟨o, h1, h2⟩ := I.slots s hs
    have hsz : s < a.tmps.size := by rw [I.tmps]; exact hs
    by_cases hd : bD ops j = some s
    · refine ⟨some j, ⟨(hex j).2 (.inr rfl), hd, fun i' hi' hd' => ?_⟩, ?_⟩
      · rcases (hex i').1 hi' with h | h
        · refine Nat.le_of_not_lt fun l => hne ?_
          have hio : i' ∈ ord := by rw [I.split]; exact List.mem_append_left _ (I.inn i' h)
          exact I.closed i' h j (C.write j hjo i' hio l s hd hd')
        · rw [h]; exact Nat.le_refl _
      · rw [hd]
        simp only [Act.put, vo]
        simp [Array.getD_eq_getD_getElem?, Array.getElem?_setIfInBounds, hsz]
        exact rv
    · have ht : (a.put (bD ops j) cv).tmps.getD s Go.undef = a.tmps.getD s Go.undef := by
        cases hq : bD ops j with
        | none => rfl
        | some d =>
          have : d ≠ s := fun e => hd (by rw [hq, e])
          simp [Act.put, Array.getD_eq_getD_getElem?, Array.getElem?_setIfInBounds, this]
      rw [ht]
      refine ⟨o, ?_, h2.mono hk⟩
      cases o with
      | none =>
        intro i hi
        rcases (hex i).1 hi with h | h
        · exact h1 i h
        · rw [h]; exact hd
      | some i =>
        refine ⟨(hex i).2 (.inl h1.1), h1.2.1, fun i' hi' hd' => ?_⟩
        rcases (hex i').1 hi' with h | h
        · exact h1.2.2 i' h hd'
        · rw [h] at hd'; exact absurd hd' hd
  · obtain ⟨n1, n2⟩ := nex j' hn
    rcases I.pend j' hj' n1 with h | h | h
    · exact .inl h
    · exact .inr (.inl h)
    · exact .inr (.inr (hpm j' hj' n1 n2 h))
theorem kZ {o : Oper} {j : Nat} (ho : ops[j]? = some o) (C : Chk ops n ord ai q) (hjo : j ∈ ord) {b : Act} (hf : gE n K (vw ops n ord ai j f) b) :
    (sN ops n f j → Region.wanted o (yielded ops b.tmps) = true) ∧ (∀ k bb, eA ops j = some (k, bb) → gv (f (n + k)) bb = some false → Region.wanted o (yielded ops b.tmps) = false) := by
  have hg : eA ops j = o.guard := by simp [eA, ho]
  have key : ∀ k bb c, eA ops j = some (k, bb) → gv (f (n + k)) bb = some c → Region.wanted o (yielded ops b.tmps) = c := fun k bb c h1 h2 => by
    obtain ⟨s, hs1, hs2, hs3⟩ := C.guard j hjo k bb h1
    have hr : s ∈ reads ops ai j := by
      unfold reads
      refine List.mem_append_right _ ?_
      rw [h1]
      simp [hs1]
    have r := hf.rel s hs3
    unfold vw at r
    rw [if_pos hr, hs2] at r
    simp only [vo] at r
    have hsz : s < b.tmps.size := by rw [hf.size]; exact hs3
    have hv : b.tmps[s]? = some (b.tmps.getD s Go.undef) := by simp [Array.getD_eq_getD_getElem?, hsz]
    have hy : (yielded ops b.tmps k == some bb) = c := by
      unfold yielded
      have : (ops[k]?).bind (·.dst) = some s := hs1
      rw [this, Option.bind_some, hv]
      generalize b.tmps.getD s Go.undef = u at r
      generalize f (n + k) = x at r h2
      cases r <;> simp only [gv, reduceCtorEq, Option.some.injEq] at h2
      · rw [← h2]
        rename_i c'
        cases c' <;> cases bb <;> rfl
      · rw [← h2]; rfl
    unfold Region.wanted
    rw [← hg, h1]
    exact hy
  refine ⟨fun hr => ?_, fun k bb h1 h2 => key k bb false h1 h2⟩
  rcases hr with h | ⟨k, bb, h1, h2⟩
  · unfold Region.wanted; rw [← hg, h]
  · exact key k bb true h1 (by rw [h2]; exact yZ)
theorem Inv.pending (C : Chk ops n ord ai q) (hai : ∀ j o, ops[j]? = some o → compOp' P n o = ai j) (I : Inv P ops n ord ai q K0 H0 QF listed a w pre suf K f H tid) {j : Nat} (hj : j ∈ pre) (hne : ¬ Ex listed j) (hed : ∀ e ∈ dE ops j, Ex listed e)
    {QQ : Exit → Act → World → Prop} {KK : Act → World → Prop} (hK : ∀ a' w' K', Inv P ops n ord ai q K0 H0 QF (listed.setIfInBounds j true) a' w' pre suf K' f H tid → KK a' w') {r : Option Nat} : wpOpIn (Fr r) 0 P ops QQ j KK a w := by
  have hjo : j ∈ ord := by rw [I.split]; exact List.mem_append_left _ hj
  have hlt := C.lt j hjo
  obtain ⟨o, ho⟩ : ∃ o, ops[j]? = some o := ⟨ops[j], Array.getElem?_eq_getElem hlt⟩
  have hd : bD ops j = o.dst := by simp [bD, ho]
  have hf := I.relF C hjo hne hed
  obtain ⟨hw1, hw2⟩ := kZ (K := K) (f := f) ho C hjo hf
  have hbar : bI (ai j) = false := by
    cases hq : bI (ai j) with
    | false => rfl
    | true => exact absurd (I.bars j hj hq) hne
  have hc : dZ (ai j) = false ∧ eV (ai j) = false ∧ fJ (ai j) = false := by simpa [bI] using hbar
  have hS := comp_sound' P n o
  rw [hai j o ho] at hS
  have same : ∀ cv, RelV K (f (n + j)) cv → KK (a.put o.dst cv) w := fun cv rv => by
    have := I.mark C hj hne hed (KW.le.refl K) I.rel I.ext rv (fun _ _ _ _ h => h)
    rw [hd] at this
    exact hK _ _ _ this
  unfold wpOpIn
  simp only [ho]
  rcases I.pend j hj hne with h | h | h
  · obtain ⟨k, b, h1, h2, h4⟩ := h
    rw [if_neg (by rw [hw2 k b h1 h2]; simp)]
    exact ⟨fun _ _ => trivial, same _ (by rw [h4]; exact sH)⟩
  · obtain ⟨h1, h2, h3⟩ := h
    rw [if_pos (hw1 h1)]
    have hnd : ∀ c, o.op ≠ .defer c := fun c e => by
      have : compOp' P n o = .bad := by simp [compOp', kL, e]
      rw [hai j o ho] at this
      rw [this] at h3; cases h3
    have hL : cH P n o (ai j) := by
      rcases hS with h | ⟨h, _⟩ | ⟨h, _⟩ | ⟨_, _, _, h, _⟩
      · obtain ⟨_, _, ⟨_, _, e, _⟩ | ⟨_, _, _, e, _⟩⟩ := h <;> (rw [e] at hc; simp [dZ] at hc)
      · rw [h2] at h; cases h
      · rw [hc.2.1] at h; cases h
      · exact h
    obtain ⟨_, cv, e1, e2⟩ := hL K w H _ a _ _ hf I.rel h3
    refine ⟨fun _ _ => trivial, ?_⟩
    rw [Oper.semAt_eq _ _ _ hnd, e1]
    exact same cv e2
  · obtain ⟨h1, h2, Hx, ob, h3, h4, h5, h6, h7⟩ := h
    rw [if_pos (hw1 h1)]
    have hnd : ∀ c, o.op ≠ .defer c := fun c e => by
      have : compOp' P n o = .bad := by simp [compOp', kL, e]
      rw [hai j o ho] at this
      rw [this] at h3; cases h3
    have hM : sE P n o (ai j) := by
      rcases hS with h | ⟨_, h⟩ | ⟨h, _⟩ | ⟨_, h, _, _⟩
      · obtain ⟨_, _, ⟨_, _, e, _⟩ | ⟨_, _, _, e, _⟩⟩ := h <;> (rw [e] at hc; simp [dZ] at hc)
      · exact h
      · rw [hc.2.1] at h; cases h
      · rw [h2] at h; cases h
    obtain ⟨sz, es, g, e1, e2, e3⟩ := hM _ _ _ _ h3
    have hob : ob = aR.live sz es := by simpa using e1
    subst hob
    obtain ⟨cv, w', p, d1, d2, d3⟩ := e3 K w a H (tid j) hf I.rel h7 h6 h5
    refine ⟨fun _ _ => trivial, ?_⟩
    rw [Oper.semAt_eq _ _ _ hnd, d1]
    have hlow := I.low j hj hne h2 h1
    have hext : Ext K0 H0 (K.place (tid j) p) H := ⟨I.ext.le.trans (KW.le_place h6), I.ext.len, fun t ht hn => by
      obtain ⟨b1, b2⟩ := I.ext.abs t ht hn
      exact ⟨by rw [KW.place_other _ (by omega)]; exact b1, b2⟩⟩
    have := I.mark C hj hne hed (KW.le_place h6) d2 hext (by rw [e2, h4]; exact d3) (fun j' hj' n1 n2 hp => by
      obtain ⟨p1, p2, Hx', o', p3, p4, p5, p6, p7⟩ := hp
      refine ⟨p1, p2, Hx', o', p3, p4, p5, ?_, p7⟩
      have := I.apart j' j hj' hj n1 hne n2 p2 h2 p1 h1
      rw [KW.place_other _ this]; exact p6)
    rw [hd] at this
    exact hK _ _ _ this
theorem zM {listed : Array Bool} (hcl : ∀ i, Ex listed i → ∀ e ∈ dE ops i, Ex listed e) : ∀ (k : Nat) (S : List Nat), (∀ x ∈ S, Ex listed x) → ∀ x ∈ TF ops k S, Ex listed x
  | 0, S, h, x, hx => h x hx
  | k + 1, S, h, x, hx => by
    refine zM hcl k _ (fun y hy => ?_) x hx
    rcases List.mem_append.1 hy with h1 | h1
    · exact h y h1
    · have h2 := List.mem_eraseDups.1 h1
      have h3 := (List.mem_filter.1 h2).1
      obtain ⟨z, h4, h5⟩ := List.mem_flatMap.1 h3
      exact hcl z (h z h4) y h5
end
end Go.Eng
end
section
set_option linter.unusedVariables false
set_option linter.unusedSimpArgs false
namespace Go.Eng
open Go
section
variable {P : Program} {ops : Array Oper} {n : Nat} {ord : List Nat} {ai : Nat → AI} {q : Nat → Bool} {K0 : KW} {H0 : AH} {QF : AF → AH → Prop} {listed : Array Bool} {a : Act} {w : World} {pre suf : List Nat} {K : KW} {f : AF} {H : AH} {tid : Nat → Nat}
theorem Inv.past (C : Chk ops n ord ai q) {b : Nat} {r : List Nat} (I : Inv P ops n ord ai q K0 H0 QF listed a w pre (b :: r) K f H tid) (hed : ∀ e ∈ dE ops b, Ex listed e) {v : AV} {cv : Value} {w' : World} {K' : KW} {H' : AH}
    (he : Ext K H K' H') (hr : Rel K' w' H') (rv : RelV K' v cv) (hload : ∀ j, j ∈ pre → ¬ Ex listed j → jM (ai j) = true → ∃ J, H' = H ++ J) (hrun : dJ P (r.map (OB ops n ord ai q)) QF (put f (some (n + b)) v) H') :
    Inv P ops n ord ai q K0 H0 QF (listed.setIfInBounds b true) (a.put (bD ops b) cv) w' (pre ++ [b]) r K' (put f (some (n + b)) v) H' tid := by
  have hb := eP C I.split
  have hbo : b ∈ ord := by rw [I.split]; simp
  have hnb : ¬ Ex listed b := fun h => hb (I.inn b h)
  have hsp' : ord = (pre ++ [b]) ++ r := by rw [I.split]; simp
  have hlt : b < listed.size := by rw [I.sz]; exact C.lt b hbo
  have hex : ∀ i, Ex (listed.setIfInBounds b true) i ↔ Ex listed i ∨ i = b := fun i => zL hlt
  have nex : ∀ i, ¬ Ex (listed.setIfInBounds b true) i → ¬ Ex listed i ∧ i ≠ b := fun i h => ⟨fun g => h ((hex i).2 (.inl g)), fun g => h ((hex i).2 (.inr g))⟩
  have nb : ∀ j, j ∈ pre → j ≠ b := fun j hj e => hb (e ▸ hj)
  have inpre : ∀ j, j ∈ pre ++ [b] → j ≠ b → j ∈ pre := fun j hj hn => by
    rcases List.mem_append.1 hj with h | h
    · exact h
    · exact absurd (by simpa using h) hn
  refine ⟨hsp', by simpa using I.sz, fun i hi => ?_, fun i hi e hE => ?_, by rw [zB]; exact I.tmps, by cases hd : bD ops b <;> exact I.defers.mono he.le, fun s hs => ?_, fun j hj hn => ?_, fun j1 j2 h1 h2 n1 n2 hn m1 m2 r1 r2 => ?_, fun j1 h1 n1 m1 r1 => ?_, fun j hj hB => ?_, hrun, hr, I.ext.trans he⟩
  · rcases (hex i).1 hi with h | h
    · exact List.mem_append_left _ (I.inn i h)
    · rw [h]; simp
  · rcases (hex i).1 hi with h | h
    · exact (hex e).2 (.inl (I.closed i h e hE))
    · rw [h] at hE; exact (hex e).2 (.inl (hed e hE))
  · obtain ⟨o, h1, h2⟩ := I.slots s hs
    have hsz : s < a.tmps.size := by rw [I.tmps]; exact hs
    by_cases hd : bD ops b = some s
    · refine ⟨some b, ⟨(hex b).2 (.inr rfl), hd, fun i' hi' hd' => ?_⟩, ?_⟩
      · rcases (hex i').1 hi' with h | h
        · have h4 : ord.idxOf i' < pre.length := by rw [I.split]; exact mT (I.inn i' h)
          have h5 : pre.length ≤ ord.idxOf b := by rw [I.split]; exact kX hb
          omega
        · rw [h]; exact Nat.le_refl _
      · rw [hd]
        simp only [Act.put, vo, qJ]
        simp [Array.getD_eq_getD_getElem?, Array.getElem?_setIfInBounds, hsz]
        exact rv
    · have ht : (a.put (bD ops b) cv).tmps.getD s Go.undef = a.tmps.getD s Go.undef := by
        cases hq : bD ops b with
        | none => rfl
        | some d =>
          have : d ≠ s := fun e => hd (by rw [hq, e])
          simp [Act.put, Array.getD_eq_getD_getElem?, Array.getElem?_setIfInBounds, this]
      rw [ht]
      have hv : vo n (put f (some (n + b)) v) s o = vo n f s o := by
        cases o with
        | none => exact eB (by omega)
        | some i =>
          have := nb i (I.inn i h1.1)
          exact eB (by omega)
      refine ⟨o, ?_, by rw [hv]; exact h2.mono he.le⟩
      cases o with
      | none =>
        intro i hi
        rcases (hex i).1 hi with h | h
        · exact h1 i h
        · rw [h]; exact hd
      | some i =>
        refine ⟨(hex i).2 (.inl h1.1), h1.2.1, fun i' hi' hd' => ?_⟩
        rcases (hex i').1 hi' with h | h
        · exact h1.2.2 i' h hd'
        · rw [h] at hd'; exact absurd hd' hd
  · obtain ⟨n1, n2⟩ := nex j hn
    have hj' := inpre j hj n2
    have hB : bI (ai j) = false := by
      cases hq : bI (ai j) with
      | false => rfl
      | true => exact absurd (I.bars j hj' hq) n1
    rcases I.pend j hj' n1 with h | h | h
    · exact .inl (JB C I.split hj' hb v h)
    · exact .inr (.inl (JC C I.split hj' hb v hB H' (hload j hj' n1) h))
    · exact .inr (.inr (JD C I.split hj' hb v he h))
  · obtain ⟨a1, a2⟩ := nex j1 n1
    obtain ⟨b1, b2⟩ := nex j2 n2
    have c1 := inpre j1 h1 a2
    have c2 := inpre j2 h2 b2
    exact I.apart j1 j2 c1 c2 a1 b1 hn m1 m2 (dK C I.split c1 hb v r1) (dK C I.split c2 hb v r2)
  · obtain ⟨a1, a2⟩ := nex j1 n1
    have c1 := inpre j1 h1 a2
    exact I.low j1 c1 a1 m1 (dK C I.split c1 hb v r1)
  · by_cases e : j = b
    · exact (hex j).2 (.inr e)
    · exact (hex j).2 (.inl (I.bars j (inpre j hj e) hB))
theorem Inv.bar (C : Chk ops n ord ai q) (hai : ∀ j o, ops[j]? = some o → compOp' P n o = ai j) {b : Nat} {r : List Nat} (I : Inv P ops n ord ai q K0 H0 QF listed a w pre (b :: r) K f H tid) (hbar : bI (ai b) = true) (hed : ∀ e ∈ dE ops b, Ex listed e)
    {QQ : Exit → Act → World → Prop} {KK : Act → World → Prop} (hK : ∀ a' w' K' f' H', Inv P ops n ord ai q K0 H0 QF (listed.setIfInBounds b true) a' w' (pre ++ [b]) r K' f' H' tid → KK a' w') {rd : Option Nat} : wpOpIn (Fr rd) 0 P ops QQ b KK a w := by
  have hb := eP C I.split
  have hbo : b ∈ ord := by rw [I.split]; simp
  have hnb : ¬ Ex listed b := fun h => hb (I.inn b h)
  have hlt := C.lt b hbo
  obtain ⟨o, ho⟩ : ∃ o, ops[b]? = some o := ⟨ops[b], Array.getElem?_eq_getElem hlt⟩
  have hd : bD ops b = o.dst := by simp [bD, ho]
  have hf := I.relF C hbo hnb hed
  obtain ⟨hw1, hw2⟩ := kZ (K := K) (f := f) ho C hbo hf
  have hload : q b = false → ∀ j, j ∈ pre → ¬ Ex listed j → jM (ai j) = true → ∃ J, (∃ H' : AH, H' = H ++ J) := fun _ j _ _ _ => ⟨[], _, rfl⟩
  have ldone : q b = false → ∀ j, j ∈ pre → ¬ Ex listed j → jM (ai j) = true → False := fun hq j hj hne hl => by
    have hjo : j ∈ ord := by rw [I.split]; exact List.mem_append_left _ hj
    have h4 : ord.idxOf j < pre.length := by rw [I.split]; exact mT hj
    have h5 : pre.length ≤ ord.idxOf b := by rw [I.split]; exact kX hb
    have h6 := C.load b hbo hbar hq j hjo hl (by omega)
    exact hne (zM I.closed 8 _ hed j h6)
  unfold wpOpIn
  simp only [ho]
  rcases zK I.run with ⟨hr, hs⟩ | ⟨k, bb, h1, h2, h4⟩
  · rw [if_pos (hw1 hr)]
    refine zE hf I.rel (hh := fun _ => false) ((TE _ _).trans (hai b o ho)) hs fun v cv K' H' w' e1 e2 e3 e4 e5 => ?_
    have := I.past C hed e1 e2 e3 (fun j hj hne hl => by
      cases hq : q b with
      | true => exact e4 hq
      | false => exact (ldone hq j hj hne hl).elim) e5
    rw [hd] at this
    exact hK _ _ _ _ _ this
  · rw [if_neg (by rw [hw2 k bb h1 h2]; simp)]
    have := I.past C hed (Ext.refl K H) I.rel sH (fun j hj hne hl => ⟨[], by simp⟩) h4
    rw [hd] at this
    exact ⟨fun _ _ => trivial, hK _ _ _ _ _ this⟩
theorem FJ (C : Chk ops n ord ai q) {listed : Array Bool} (hsz : listed.size = ops.size) (hr : Region.ready .any ops listed = []) : ∀ m i, ord.idxOf i = m → i ∈ ord → Ex listed i := by
  intro m
  induction m using Nat.strongRecOn with
  | _ m ih =>
    intro i hm hi
    refine Classical.byContradiction fun hne => ?_
    have hlt := C.lt i hi
    have hready : i ∈ Region.ready .any ops listed := by
      refine mem_ready.2 ⟨?_, ops[i], Array.getElem?_eq_getElem hlt, fun e he hb => ?_⟩
      · have h1 : i < listed.size := by omega
        unfold Ex at hne
        simp [Array.getD_eq_getD_getElem?, h1] at hne ⊢
        exact hne
      · have hed : e.on ∈ dE ops i := by
          unfold dE
          rw [Array.getElem?_eq_getElem hlt]
          exact List.mem_map.2 ⟨e, List.mem_filter.2 ⟨Array.mem_toList_iff.2 he, hb⟩, rfl⟩
        have h2 := C.edge i hi e.on hed
        have h3 : e.on ∈ ord := by
          have : ord.idxOf e.on < ord.length := Nat.lt_trans h2 (List.idxOf_lt_length_of_mem hi)
          exact List.idxOf_lt_length_iff.1 this
        exact ih _ (by omega) e.on rfl h3
    rw [hr] at hready; cases hready
def fin (ops : Array Oper) (n : Nat) : List Nat → AF → AF
  | [], f => f
  | j :: r, f => fin ops n r (put f (bD ops j) (f (n + j)))
theorem nL {QN : AF → AH → Prop} : ∀ (l : List Nat) (f : AF) (H : AH), dJ P (qF ops n l) QN f H → QN (fin ops n l f) H
  | [], f, H, h => h
  | j :: r, f, H, h => by
    simp only [qF] at h
    simp only [fin]
    cases hd : bD ops j with
    | none =>
      rw [hd] at h
      exact nL r f H h
    | some s =>
      rw [hd] at h
      simp only [dJ, cR, aH, ev] at h
      exact nL r _ H h.2
theorem uU : ∀ (l : List Nat) (f : AF), (∀ j ∈ l, ∀ s, bD ops j = some s → s < n) → (∀ m, n ≤ m → fin ops n l f m = f m) ∧ ∀ s, s < n → fin ops n l f s = vo n f s (l.reverse.find? fun i => bD ops i == some s)
  | [], f, h => ⟨fun m _ => rfl, fun s _ => rfl⟩
  | j :: r, f, h => by
    obtain ⟨h1, h2⟩ := uU r (put f (bD ops j) (f (n + j))) (fun k hk => h k (List.mem_cons_of_mem _ hk))
    have hf : ∀ m, n ≤ m → put f (bD ops j) (f (n + j)) m = f m := fun m hm => by
      cases hd : bD ops j with
      | none => rfl
      | some s => have := h j (by simp) s hd; exact eB (by omega)
    refine ⟨fun m hm => by simp only [fin]; rw [h1 m hm, hf m hm], fun s hs => ?_⟩
    simp only [fin]
    rw [h2 s hs, List.reverse_cons, List.find?_append]
    cases hq : r.reverse.find? fun i => bD ops i == some s with
    | some i => simp only [Option.some_or, vo]; rw [hf _ (by omega)]
    | none =>
      simp only [Option.none_or, vo]
      by_cases hd : bD ops j = some s
      · rw [List.find?_cons_of_pos (by simp [hd]), hd]; exact qJ
      · rw [List.find?_cons_of_neg (by simpa using hd)]
        simp only [List.find?_nil]
        cases hq : bD ops j with
        | none => rfl
        | some d => exact eB fun e => hd (by rw [hq, e])
theorem Inv.finish (C : Chk ops n ord ai q) {QN : AF → AH → Prop} {QQ : Exit → Act → World → Prop} (hq : ∀ K f H a w, Ext K0 H0 K H → gE n K f a → Rel K w H → QN f H → QQ .normal a w)
    (I : Inv P ops n ord ai q K0 H0 (fun f H => dJ P (qF ops n ord) QN f H) listed a w pre suf K f H tid) (hr : Region.ready .any ops listed = []) : QQ .normal a w := by
  have hall := FJ C I.sz hr
  have hsuf : suf = [] := by
    cases hs : suf with
    | nil => rfl
    | cons b r =>
      have hsp := I.split
      rw [hs] at hsp
      exact absurd (I.inn b (hall _ b rfl (by rw [hsp]; simp))) (eP C hsp)
  have hrun := I.run
  rw [hsuf] at hrun
  have hQ := nL _ _ _ (show dJ P (qF ops n ord) QN f H from hrun)
  obtain ⟨_, h2⟩ := uU (n := n) (ops := ops) ord f (fun j hj s hs => C.dst j hj s hs)
  refine hq K _ H a w I.ext ⟨I.tmps, fun s hs => ?_, I.defers⟩ I.rel hQ
  rw [h2 s hs]
  obtain ⟨o, h3, h4⟩ := I.slots s hs
  obtain ⟨l1, l2⟩ := qG C.nodup (fun i => bD ops i == some s)
  have hin : ∀ i, Ex listed i → i ∈ ord := fun i hi => by rw [I.split]; exact List.mem_append_left _ (I.inn i hi)
  have : o = ord.reverse.find? fun i => bD ops i == some s := by
    cases hf : ord.reverse.find? fun i => bD ops i == some s with
    | none =>
      cases o with
      | none => rfl
      | some i =>
        have := l2 hf i (hin i h3.1)
        simp [h3.2.1] at this
    | some k =>
      obtain ⟨k1, k2, k3⟩ := l1 k hf
      have k2' : bD ops k = some s := by simpa using k2
      cases o with
      | none => exact absurd k2' (h3 k (hall _ k rfl k1))
      | some i =>
        have e1 := h3.2.2 k (hall _ k rfl k1) k2'
        have e2 := k3 i (hin i h3.1) (by simp [h3.2.1])
        rw [sM (hin i h3.1) k1 (Nat.le_antisymm e2 e1)]
  rw [← this]; exact h4
def left (l : List Nat) (listed : Array Bool) : Nat := (l.filter fun i => !listed.getD i false).length
theorem zO {l : List Nat} {listed : Array Bool} (h : left l listed = 0) : ∀ i ∈ l, Ex listed i := fun i hi => by
  unfold left at h
  have := List.eq_nil_of_length_eq_zero h
  have h2 := List.filter_eq_nil_iff.1 this i hi
  simpa [Ex] using h2
theorem uV {listed : Array Bool} {j : Nat} (hj : j < listed.size) (hne : ¬ Ex listed j) : ∀ (l : List Nat), left l (listed.setIfInBounds j true) ≤ left l listed ∧ (j ∈ l → left l (listed.setIfInBounds j true) < left l listed)
  | [] => ⟨Nat.le_refl _, fun h => by cases h⟩
  | i :: l => by
    obtain ⟨h1, h2⟩ := uV hj hne l
    have e : (listed.setIfInBounds j true).getD i false = (listed.getD i false || decide (i = j)) := by
      have := zL (listed := listed) (i := i) hj
      unfold Ex at this
      cases hq : (listed.setIfInBounds j true).getD i false with
      | true =>
        rcases this.1 hq with h | h
        · rw [h]; rfl
        · simp [h]
      | false =>
        have h3 : ¬ (listed.getD i false = true ∨ i = j) := fun h => by rw [this.2 h] at hq; cases hq
        have h4 : listed.getD i false = false := by simpa using fun h => h3 (.inl h)
        have h5 : ¬ i = j := fun h => h3 (.inr h)
        rw [h4]; simp [h5]
    unfold left at *
    rw [List.filter_cons, List.filter_cons, e]
    by_cases hij : i = j
    · subst hij
      have h4 : listed.getD i false = false := by simpa [Ex] using hne
      rw [h4]
      simp only [decide_true, Bool.or_true, Bool.not_true, Bool.false_eq_true, if_false, Bool.not_false, if_true, List.length_cons]
      exact ⟨by omega, fun _ => by omega⟩
    · cases hq : listed.getD i false with
      | true =>
        simp only [hij, decide_false, Bool.or_false, Bool.not_true, Bool.false_eq_true, if_false]
        exact ⟨h1, fun h => h2 ((List.mem_cons.1 h).resolve_left (Ne.symm hij))⟩
      | false =>
        simp only [hij, decide_false, Bool.or_false, Bool.not_false, if_true, List.length_cons]
        exact ⟨Nat.succ_le_succ h1, fun h => Nat.succ_lt_succ (h2 ((List.mem_cons.1 h).resolve_left (Ne.symm hij)))⟩
theorem sO (C : Chk ops n ord ai q) (hai : ∀ j o, ops[j]? = some o → compOp' P n o = ai j) {QN : AF → AH → Prop} {QQ : Exit → Act → World → Prop} (hq : ∀ K f H a w, Ext K0 H0 K H → gE n K f a → Rel K w H → QN f H → QQ .normal a w) :
    ∀ (fuel : Nat) (listed : Array Bool) (a : Act) (w : World) (pre suf : List Nat) (K : KW) (f : AF) (H : AH) (tid : Nat → Nat), Inv P ops n ord ai q K0 H0 (fun f H => dJ P (qF ops n ord) QN f H) listed a w pre suf K f H tid → (suf = [] ∨ ∃ b r, suf = b :: r ∧ bI (ai b) = true) →
      left ord listed ≤ fuel → ∀ rd, wpAnyIn (Fr rd) 0 P .any ops QQ fuel listed a w
  | 0, listed, a, w, pre, suf, K, f, H, tid, I, hs, hl => by
    intro rd
    have hall := zO (Nat.le_zero.1 hl)
    have hr : Region.ready .any ops listed = [] := by
      cases hr : Region.ready .any ops listed with
      | nil => rfl
      | cons i l =>
        have hi : i ∈ Region.ready .any ops listed := by rw [hr]; simp
        obtain ⟨h1, o, ho, _⟩ := mem_ready.1 hi
        have hlt := (Array.getElem?_eq_some_iff.1 ho).1
        have := hall i (C.all i hlt)
        have h2 : i < listed.size := by rw [I.sz]; exact hlt
        unfold Ex at this
        simp [Array.getD_eq_getD_getElem?, h2] at this h1
        rw [h1] at this; cases this
    exact ⟨hr, I.finish C hq hr⟩
  | fuel + 1, listed, a, w, pre, suf, K, f, H, tid, I, hs, hl => by
    intro rd
    refine ⟨fun hr => I.finish C hq hr, fun i hi => ?_⟩
    obtain ⟨h1, o, ho, h3⟩ := mem_ready.1 hi
    have hlt := (Array.getElem?_eq_some_iff.1 ho).1
    have hio := C.all i hlt
    have h2 : i < listed.size := by rw [I.sz]; exact hlt
    have hne : ¬ Ex listed i := by
      unfold Ex
      simp [Array.getD_eq_getD_getElem?, h2] at h1 ⊢
      exact h1
    have hed : ∀ e ∈ dE ops i, Ex listed e := fun e he => by
      unfold dE at he
      rw [ho] at he
      obtain ⟨x, hx, rfl⟩ := List.mem_map.1 he
      obtain ⟨x1, x2⟩ := List.mem_filter.1 hx
      exact h3 x (Array.mem_toList_iff.1 x1) x2
    have hleft : left ord (listed.setIfInBounds i true) ≤ fuel := by
      have := (uV h2 hne ord).2 hio
      omega
    rcases List.mem_append.1 (show i ∈ pre ++ suf by rw [← I.split]; exact hio) with hp | hp
    · exact I.pending C hai hp hne hed fun a' w' K' I' => sO C hai hq fuel _ a' w' pre suf K' f H tid I' hs hleft rd
    · rcases hs with hs | ⟨b, r, hs, hbar⟩
      · rw [hs] at hp; cases hp
      · subst hs
        have hib : i = b := by
          rcases List.mem_cons.1 hp with h | h
          · exact h
          · exfalso
            have hbo : b ∈ ord := by rw [I.split]; simp
            have hb := eP C I.split
            have e1 : ord.idxOf b = pre.length := by
              have := C.nodup
              rw [I.split] at this ⊢
              exact sL this
            have e2 : pre.length < ord.idxOf i := by
              have hni : i ∉ pre ++ [b] := fun hm => by
                have := C.nodup
                rw [I.split, show pre ++ b :: r = (pre ++ [b]) ++ r by simp] at this
                exact (List.nodup_append.1 this).2.2 i hm i h rfl
              have : ord = (pre ++ [b]) ++ r := by rw [I.split]; simp
              have h4 : (pre ++ [b]).length ≤ ord.idxOf i := by rw [this]; exact kX hni
              simp at h4; omega
            obtain ⟨e, he, hle⟩ := C.over b hbo hbar i hio (by omega)
            have h5 : ord.idxOf e < pre.length := by rw [I.split]; exact mT (I.inn e (hed e he))
            omega
        subst hib
        refine I.bar C hai hbar hed fun a' w' K' f' H' I' => ?_
        obtain ⟨pre', suf', f2, H2, tid2, I2, hs2⟩ := Inv.advance C r _ _ _ _ I'
        exact sO C hai hq fuel _ a' w' pre' suf' K' f2 H2 tid2 I2 hs2 hleft rd
end
theorem eX {P : Program} {Q : AF → AH → Prop} : ∀ (l m : List AOp) (f : AF) (H : AH), dJ P (l ++ m) Q f H → dJ P l (fun f H => dJ P m Q f H) f H
  | [], m, f, H, h => h
  | o :: l, m, f, H, h => by
    have mono : ∀ {i q f} {Q1 Q2 : AV → AH → Prop}, (∀ v H, Q1 v H → Q2 v H) → ∀ H, cR P i q Q1 f H → cR P i q Q2 f H := fun {i q f Q1 Q2} hq H hs => by
      have key : (match aH i f H with | some (v, H') => (q = true → ∃ J, H' = H ++ J) ∧ Q1 v H' | none => False) → (match aH i f H with | some (v, H') => (q = true → ∃ J, H' = H ++ J) ∧ Q2 v H' | none => False) := fun h => by
        split at h
        · exact ⟨h.1, hq _ _ h.2⟩
        · exact h.elim
      cases i with
      | call g xs => exact hs.mono fun r H' ⟨a, b⟩ => ⟨a, hq _ _ b⟩
      | callv x xs =>
        simp only [cR] at hs ⊢
        split at hs
        · exact hs.mono fun r H' ⟨a, b⟩ => ⟨a, hq _ _ b⟩
        · exact gI.mono hs fun r H' ⟨a, b⟩ => ⟨a, hq _ _ b⟩
        · exact hs.elim
      | nilt neg x =>
        simp only [cR] at hs ⊢
        split at hs
        · exact hq _ _ hs
        · exact ⟨hs.1, fun b => hq _ _ (hs.2 b)⟩
      | _ => exact key hs
    simp only [List.cons_append, dJ] at h ⊢
    split at h
    · exact mono (fun v H' h => eX l m _ _ h) H h
    · split at h
      · exact mono (fun v H' h => eX l m _ _ h) H h
      · exact eX l m _ _ h
      · exact h.elim
theorem zP (P : Program) (n : Nat) : OQ P n (zJ P n) := by
  intro rd id ops al h Q f H K a w hs hf hr
  unfold zJ at h
  simp only at h
  split at h
  · rename_i hc
    simp only [Bool.and_eq_true] at hc
    obtain ⟨hc1, hc2⟩ := hc
    cases h
    have C := qH hc1
    have hai : ∀ j o, ops[j]? = some o → compOp' P n o = (ops.toList.map (compOp' P n)).getD j .bad := fun j o ho => by
      simp [List.getD_eq_getElem?_getD, ho]
    have hs' := eX _ _ _ _ hs
    refine wpIn_region_any hc2 ?_
    have hex : ∀ i, ¬ Ex (Array.replicate ops.size false) i := fun i h => by
      unfold Ex at h
      rw [Array.getD_eq_getD_getElem?, Array.getElem?_replicate] at h
      split at h <;> cases h
    have I : Inv P ops n _ _ _ K H _ (Array.replicate ops.size false) a { w with drawn := w.drawn + 1 } [] _ K f H (fun _ => 0) :=
      ⟨rfl, by simp, fun i hi => absurd hi (hex i), fun i hi => absurd hi (hex i), hf.size, hf.defers, fun s hs => ⟨none, fun i hi => absurd hi (hex i), hf.rel s hs⟩, (fun j hj => by cases hj), (fun j j' hj => by cases hj), (fun j hj => by cases hj), (fun j hj => by cases hj), hs', hr.heap rfl rfl, Ext.refl K H⟩
    obtain ⟨pre', suf', f2, H2, tid2, I2, hs2⟩ := Inv.advance C _ _ _ _ _ I
    refine sO C hai (fun K' f' H' a' w' e1 e2 e3 e4 => ⟨.normal, K', f', H', rfl, e1, e2, e3, e4⟩) ops.size _ a _ pre' suf' K f2 H2 tid2 I2 hs2 ?_ rd
    unfold left
    have hlen : ∀ l : List Nat, (l.filter fun i => !(Array.replicate ops.size false).getD i false).length ≤ l.length := fun l => List.length_filter_le _ _
    refine Nat.le_trans (hlen _) ?_
    have := C.nodup
    -- as0 many as0 there are
    have hsub : (nK (fun i => bI ((ops.toList.map (compOp' P n)).getD i .bad)) ops ops.size (List.range ops.size) []).length ≤ (List.range ops.size).length :=
      (List.Nodup.length_le_of_subset this (fun x hx => List.mem_range.2 (C.lt x hx)))
    simpa using hsub
  · cases h
end Go.Eng
end
section
set_option linter.unusedVariables false
set_option linter.unusedSimpArgs false
namespace Go.Eng
open Go
def iY (P : Program) (h : Nat → Bool) (g : FuncId) : Option AFn := KF P (fun n => zJ P n) h g
abbrev aD (P : Program) (g : FuncId) : Option AFn := iY P (fun _ => false) g
theorem aU {P : Program} {hh : Nat → Bool} {g : FuncId} {F : AFn} (hc : iY P hh g = some F) {args : List AV} {H : AH} {R : AV → AH → Prop} (hn : args.length ≤ F.n) (h : F.body.wp P (KG F.res R) (kW args) H) : aC P g args H R :=
  zF hc (fun n => zP P n) hn h
def oo (d : Nat) (i : AI) : AOp := ⟨some d, none, false, i⟩
def oq (d : Nat) (i : AI) : AOp := ⟨some d, none, true, i⟩
def og (d s : Nat) (b : Bool) (i : AI) : AOp := ⟨some d, some (s, b), false, i⟩
def on (i : AI) : AOp := ⟨none, none, false, i⟩
theorem zQ (f : AF) (k s : Nat) (v : AV) : put f (some k) v s = if s = k then v else f s := rfl
end Go.Eng
end
section
set_option linter.unusedVariables false
set_option linter.unusedSimpArgs false
namespace Go.Eng
open Go
inductive Frz : AH → AV → AV → AH → Prop where
  | refl (H : AH) (v : AV) : Frz H v v H
  | nils (H : AH) (sz : Nat) : Frz H .nils (.list sz [] false) H
  | ref {H : AH} {sz t off n c : Nat} {ex : Bool} {es : List AV} (h : obj? H t = some (sz, es)) (hn : off + n ≤ es.length) : Frz H (.ref sz t off n c ex) (.list sz ((es.drop off).take n) false) (List.set H t .dead)
  | tup {H H' : AH} {vs : List AV} {i : Nat} {v v' : AV} (hi : vs[i]? = some v) (h : Frz H v v' H') : Frz H (.tup vs) (.tup (vs.set i v')) H'
  | agg {H H' : AH} {vs : List AV} {i : Nat} {v v' : AV} (hi : vs[i]? = some v) (h : Frz H v v' H') : Frz H (.agg vs) (.agg (vs.set i v')) H'
  | trans {H H1 H2 : AH} {u v x : AV} (h : Frz H u v H1) (g : Frz H1 v x H2) : Frz H u x H2
theorem Frz.sound {H H' : AH} {v v' : AV} (h : Frz H v v' H') : ∀ {K : KW} {w : World} {cv : Value}, Rel K w H → RelV K v cv → ∃ K', Ext K H K' H' ∧ Rel K' w H' ∧ RelV K' v' cv := by
  induction h with
  | refl H v => exact fun hr r => ⟨_, Ext.refl _ _, hr, r⟩
  | nils H sz => exact fun hr r => by cases r; exact ⟨_, Ext.refl _ _, hr, .list0 (fun h => by cases h)⟩
  | ref h hn =>
    intro K w cv hr r
    rename_i H sz t off n c ex es
    cases r with
    | ref hp hz hnc hc he ha =>
      rename_i p A cap
      have hl := obj?_some h
      have L := hr.live t p sz es hp hl
      obtain ⟨o, h1, h2, h3⟩ := hr.frozen hp hl
      refine ⟨_, h3, h2, ?_⟩
      obtain ⟨cs, T, hb, hs, hrd⟩ := L.block
      have ho : o = .cells cs T (0, 0) := by rw [hb] at h1; exact (Option.some.inj h1).symm
      subst ho
      have hlen : ((es.drop off).take n).length = n := by simp; omega
      by_cases hn0 : n = 0
      · subst hn0
        simp only [List.take_zero]
        exact .list0 (fun h => by cases h)
      · obtain ⟨a1, a2⟩ := ha (by omega)
        subst a1
        unfold bK.at
        rw [Nat.add_zero, hz]
        refine .list (K := K.freeze p.b _) (b := p.b) (cs := cs) (T := T) (fr := (0, 0)) (by simp [KW.freeze]) hlen (by omega) (fun h => by cases h) ?_ (fun x hx => L.fit x (List.mem_of_mem_drop (List.mem_of_mem_take hx))) (fun i k x y hx hy => ?_)
        · have : off * sz + n * sz ≤ p.tot * sz := by rw [← Nat.add_mul]; exact Nat.mul_le_mul_right _ (by omega)
          omega
        · rw [List.getElem?_take] at hx
          split at hx
          · rw [List.getElem?_drop] at hx
            have := (hrd _ _ _ _ hx hy).mono h3.le
            rw [Nat.add_mul] at this
            rw [show p.off + off * sz + (i * sz + k) = p.off + (off * sz + i * sz + k) by omega]
            exact this
          · cases hx
  | tup hi h ih =>
    intro K w cv hr r
    cases r with
    | tup hl hrr =>
      rename_i ds
      obtain ⟨K', e1, e2, e3⟩ := ih hr (hrr _ _ hi)
      refine ⟨K', e1, e2, .tup (by simpa using hl) fun j x hx => ?_⟩
      rw [List.getElem?_set] at hx
      split at hx
      · rename_i e
        split at hx
        · cases hx; rw [← e]; exact e3
        · cases hx
      · exact (hrr _ _ hx).mono e1.le
  | agg hi h ih =>
    intro K w cv hr r
    cases r with
    | agg hl hrr =>
      rename_i ds
      obtain ⟨K', e1, e2, e3⟩ := ih hr (hrr _ _ hi)
      refine ⟨K', e1, e2, .agg (by simpa using hl) fun j x hx => ?_⟩
      rw [List.getElem?_set] at hx
      split at hx
      · rename_i e
        split at hx
        · cases hx; rw [← e]; exact e3
        · cases hx
      · exact (hrr _ _ hx).mono e1.le
  | trans h g ih ih' =>
    intro K w cv hr r
    obtain ⟨K', e1, e2, e3⟩ := ih hr r
    obtain ⟨K2, f1, f2, f3⟩ := ih' e2 e3
    exact ⟨K2, e1.trans f1, f2, f3⟩
theorem aC.frz {P : Program} {g : FuncId} {args : List AV} {H : AH} {R R' : AV → AH → Prop} (h : aC P g args H R) (hr : ∀ r H', R r H' → ∃ r' H2, Frz H' r r' H2 ∧ R' r' H2) : aC P g args H R' :=
  ⟨h.1, fun K w cargs a b => (h.2 K w cargs a b).mono fun e w' ⟨v, K', H', r, h1, h2, h3, h4, h5⟩ => by
    obtain ⟨r', H2, f1, f2⟩ := hr _ _ h5
    obtain ⟨K2, g1, g2, g3⟩ := f1.sound h3 h4
    exact ⟨v, K2, H2, r', h1, h2.trans g1, g2, g3, f2⟩⟩
def Own (H0 H : AH) (sz : Nat) (v : AV) (l : List AV) : Prop :=
  (v = .nils ∧ l = []) ∨ ∃ t ex, H0.length ≤ t ∧ v = .ref sz t 0 l.length l.length ex ∧ obj? H t = some (sz, l)
theorem zR {H0 H : AH} (h : H0 <+: H) {t : Nat} (ht : t < H0.length) : H[t]? = H0[t]? := by
  obtain ⟨J, rfl⟩ := h
  rw [List.getElem?_append_left ht]
theorem bB {H0 H : AH} (h : H0 <+: H) {t : Nat} {o : Nat × List AV} (ho : obj? H0 t = some o) : obj? H t = some o := by
  obtain ⟨sz, es⟩ := o
  have h1 := obj?_some ho
  unfold obj?
  rw [zR h (List.getElem?_eq_some_iff.1 h1).1, h1]
theorem bM {H0 H : AH} (h : H0 <+: H) {t : Nat} (ht : H0.length ≤ t) (o : aR) : H0 <+: List.set H t o := by
  obtain ⟨J, rfl⟩ := h
  rw [List.set_append_right _ _ ht]
  exact List.prefix_append _ _
theorem sP {H0 H : AH} (h : H0 <+: H) (J : AH) : H0 <+: H ++ J := h.trans (List.prefix_append _ _)
theorem Own.nil (H0 H : AH) (sz : Nat) : Own H0 H sz .nils [] := .inl ⟨rfl, rfl⟩
theorem aY {H : AH} {t : Nat} {o : Nat × List AV} (h : obj? H t = some o) : t < H.length := by
  obtain ⟨sz, es⟩ := o
  exact (List.getElem?_eq_some_iff.1 (obj?_some h)).1
theorem bA (H : AH) (sz : Nat) (es : List AV) : obj? (H ++ [aR.live sz es]) H.length = some (sz, es) := by
  unfold obj?
  rw [List.getElem?_append_right (Nat.le_refl _), Nat.sub_self]; rfl
theorem Own.app {H0 H : AH} {sz bytes : Nat} {v x : AV} {l xs : List AV} (h : Own H0 H sz v l) (hp : H0 <+: H) (hx : elems sz x H = some xs) (hne : xs ≠ []) (hb : (l.length + xs.length) * bytes ≤ 140737488355328) :
    ∃ v' H', mM sz bytes v x H = some (v', H') ∧ Own H0 H' sz v' (l ++ xs) ∧ H0 <+: H' := by
  have hpos := List.length_pos_iff.2 hne
  rcases h with ⟨rfl, rfl⟩ | ⟨t, ex, ht, rfl, ho⟩
  · refine ⟨.ref sz H.length 0 xs.length xs.length false, H ++ [aR.live sz xs], ?_, .inr ⟨H.length, false, hp.length_le, rfl, bA _ _ _⟩, sP hp _⟩
    have he0 : elems sz .nils H = some [] := rfl
    unfold mM
    simp only [hx, he0, Option.bind_some]
    rw [if_neg hne, if_pos hb]
    rfl
  · have he : elems sz (.ref sz t 0 l.length l.length ex) H = some l := by
      simp [elems, ho]
    have hl : (List.set H t aR.dead).length = H.length := by simp
    cases ex with
    | true =>
      refine ⟨.ref sz H.length 0 (l ++ xs).length (l ++ xs).length false, H ++ [aR.live sz (l ++ xs)], ?_, .inr ⟨H.length, false, hp.length_le, rfl, bA _ _ _⟩, sP hp _⟩
      unfold mM
      simp only [hx, he, Option.bind_some]
      rw [if_neg hne, if_pos hb, if_neg (by omega)]
      rfl
    | false =>
      refine ⟨.ref sz H.length 0 (l ++ xs).length (l ++ xs).length false, List.set H t aR.dead ++ [aR.live sz (l ++ xs)], ?_, .inr ⟨H.length, false, hp.length_le, rfl, ?_⟩, sP (bM hp ht _) _⟩
      · unfold mM
        simp only [hx, he, Option.bind_some]
        rw [if_neg hne, if_pos hb, if_neg (by omega)]
        simp [fresh]
      · have := bA (List.set H t aR.dead) sz (l ++ xs)
        rwa [hl] at this
theorem Own.frz {H0 H : AH} {sz : Nat} {v : AV} {l : List AV} (h : Own H0 H sz v l) (hp : H0 <+: H) : ∃ H', Frz H v (.list sz l false) H' ∧ H0 <+: H' := by
  rcases h with ⟨rfl, rfl⟩ | ⟨t, ex, ht, rfl, ho⟩
  · exact ⟨H, .nils H sz, hp⟩
  · refine ⟨_, ?_, bM hp ht .dead⟩
    have := Frz.ref (off := 0) (n := l.length) (c := l.length) (ex := ex) ho (by omega)
    simpa using this
end Go.Eng
end
section
set_option linter.unusedVariables false
set_option linter.unusedSimpArgs false
namespace Go.Eng
open Go
def JE : AF → List Nat → List AV → AF
  | f, p :: ps, x :: xs => JE (put f (some p) x) ps xs
  | f, _, _ => f
theorem uW {K : KW} {n : Nat} : ∀ (ps : List Nat) (xs : List AV) (vs : List Value) (f : AF) (tmps : Array Value), RelL K xs vs → tmps.size = n → (∀ i, i < n → RelV K (f i) (tmps.getD i Go.undef)) →
    ((ps.zip vs).foldl (fun tmps (p : Nat × Value) => tmps.setIfInBounds p.1 p.2) tmps).size = n ∧ ∀ i, i < n → RelV K (JE f ps xs i) (((ps.zip vs).foldl (fun tmps (p : Nat × Value) => tmps.setIfInBounds p.1 p.2) tmps).getD i Go.undef)
  | [], xs, vs, f, tmps, h, hn, hr => by cases xs <;> exact ⟨by simpa using hn, by simpa [JE] using hr⟩
  | p :: ps, [], [], f, tmps, h, hn, hr => ⟨by simpa using hn, by simpa [JE] using hr⟩
  | p :: ps, [], v :: vs, f, tmps, h, hn, hr => by have := h.1; cases this
  | p :: ps, x :: xs, [], f, tmps, h, hn, hr => by have := h.1; cases this
  | p :: ps, x :: xs, v :: vs, f, tmps, h, hn, hr => by
    have hx := h.2 0 x v rfl rfl
    have ht : RelL K xs vs := ⟨by simpa using h.1, fun i y u a b => h.2 (i + 1) y u (by simpa using a) (by simpa using b)⟩
    refine uW ps xs vs _ _ ht (by simpa using hn) fun i hi => ?_
    by_cases e : i = p
    · subst e
      simp only [put, if_pos]
      rw [Array.getD_eq_getD_getElem?, Array.getElem?_setIfInBounds, if_pos rfl, if_pos (by omega)]
      exact hx
    · simp only [put, if_neg e]
      have := hr i hi
      rw [Array.getD_eq_getD_getElem?] at this ⊢
      rw [Array.getElem?_setIfInBounds, if_neg (Ne.symm e)]
      exact this
def zS (t : Nat) (f : AF) (lp : gG) (R : AV → AH → Prop) (ae : AE) (_ : AF) (H : AH) : Prop :=
  ∃ st pd, H[t]? = some (aR.loop f lp st pd) ∧ match ae with
    | .normal => R (.bool true) (H.set t (.loop f lp .ready none))
    | ae => R (.bool false) (H.set t (.loop f lp .done (some ae)))
theorem uR.ycalls {P : Program} {n : Nat} {lp : gG} {ps : List Nat} {a b : AC} (h : uR P n lp ps a b) {t : Nat} {f : AF} {pd : Option AE} {args : List AV} {H : AH} {R : AV → AH → Prop} (ht : H[t]? = some (.loop f lp .ready pd)) (hl : args.length = ps.length)
    (hwp : a.wp P (qE (fun f1 H1 => ∃ pd, H1[t]? = some (aR.loop f lp .ready pd) ∧ b.wp P (zS t f lp R) f1 (H1.set t (.loop f lp .busy pd))) (fun _ _ _ => False)) (JE f ps args) H) : gI P t args H R := by
  obtain ⟨h1, h2, dr, hh, h3, h4, h5⟩ := h
  intro K w cargs p hr hp hargs
  obtain ⟨tm, d, b1, b2, b3⟩ := (hr.loops.loop _ _ _ _ _ _ hp ht).block
  have hs : cargs.size = lp.params.size := by
    have e1 := hargs.1
    have e2 := congrArg List.length h2
    simp at e1 e2; omega
  refine ⟨_, run_yield b1 hs, ?_⟩
  have hz : (lp.params.zip cargs).foldl (fun tmps (t, a) => tmps.setIfInBounds t a) tm = (ps.zip cargs.toList).foldl (fun tmps (p : Nat × Value) => tmps.setIfInBounds p.1 p.2) tm := by
    rw [← Array.foldl_toList, Array.toList_zip, h2]
  show RoundIn Fence.wide 0 P p.b lp.fn _ lp.assign lp.body w _
  rw [hz]
  obtain ⟨c1, c2⟩ := uW ps args cargs.toList f tm (hargs.rebase K.fz) (b2.trans h1) (fun i hi => (b3 i (by rw [h1]; exact hi)).rebase K.fz)
  have key : ∀ (ae : AE) (H2 : AH) (K2 : KW) (w2 : World), Ext (K.rebase K.fz) H K2 H2 → Rel K2 w2 H2 → zS t f lp R ae f H2 → ∃ v w', (Instr.endRound p.b (match ae with | .normal => none | ae => some ae.code)).run P w2 = .ok v w' ∧ wJ K H R (.returned v) w' := by
    intro ae H2 K2 w2 x2 y2 ⟨st, pd2, q1, q2⟩
    have hp2 : K2.pl t = some p := x2.le.pl _ _ hp
    obtain ⟨tm2, d2, e1, e2, e3⟩ := (y2.loops.loop _ _ _ _ _ _ hp2 q1).block
    refine ⟨_, _, run_endRound _ e1, ?_⟩
    have hlt := (Array.getElem?_eq_some_iff.1 e1).1
    have fin : ∀ (st' : LoopState) (pd' : Option AE) (bb : Bool), R (.bool bb) (H2.set t (.loop f lp st' pd')) → wJ K H R (.returned (.bool bb)) (w2.putObj p.b (.loop { state := st', pending := pd'.map AE.code, fn := lp.fn, tmps := tm2, params := lp.params, assign := lp.assign, body := lp.body, defers := d2 })) := fun st' pd' bb hR => by
      have y3 := y2.setLoop (w' := w2.putObj p.b (.loop { state := st', pending := pd'.map AE.code, fn := lp.fn, tmps := tm2, params := lp.params, assign := lp.assign, body := lp.body, defers := d2 })) hp2 q1 (o := .loop f lp st' pd') (.inr ⟨_, _, rfl, tm2, d2, World.putObj_heap_same hlt, e2, e3⟩) (fun b hb => World.putObj_heap_other hb) rfl
      have x3 := x2.trans (Ext.set hp2 (aR.loop f lp st' pd'))
      exact ⟨_, K2.rebase K.old, _, .bool bb, rfl, ⟨⟨x3.le.pl, x3.le.fz, rfl, x3.le.io⟩, x3.len, x3.abs⟩, y3.rebase _, .bool bb, hR⟩
    cases ae with
    | normal => exact fin .ready none true q2
    | exit id => exact fin .done (some (.exit id)) false q2
    | ret => exact fin .done (some .ret) false q2
  refine roundIn_of_wpIn trivial ?_
  have hwp1 := eW h3 lp.assign false a h4 _ (JE f ps args) H (K.rebase K.fz) { tmps := (ps.zip cargs.toList).foldl (fun tmps (p : Nat × Value) => tmps.setIfInBounds p.1 p.2) tm, defers := [] } w hwp ⟨c1, c2, nF.nil (fun _ _ e => e)⟩ (hr.rebase _) (some p.b) (fun e => by cases e)
  refine Code.wpIn_mono (fun e a1 w1 hp1 => ?_) hwp1
  obtain ⟨ae, K1, f1, H1, rfl, x1, y1, z1, q⟩ := hp1
  cases ae with
  | exit id => exact q.elim
  | ret => exact q.elim
  | normal =>
    obtain ⟨pd1, q1, q2⟩ := q
    have hp1 : K1.pl t = some p := x1.le.pl _ _ hp
    obtain ⟨tm1, d1, e1, e2, e3⟩ := (z1.loops.loop _ _ _ _ _ _ hp1 q1).block
    have hlt := (Array.getElem?_eq_some_iff.1 e1).1
    refine ⟨_, run_beginRound e1 rfl, ?_⟩
    have z2 := z1.setLoop (w' := w1.putObj p.b (.loop { state := .busy, pending := pd1.map AE.code, fn := lp.fn, tmps := tm1, params := lp.params, assign := lp.assign, body := lp.body, defers := d1 })) hp1 q1 (o := .loop f lp .busy pd1) (.inr ⟨_, _, rfl, tm1, d1, World.putObj_heap_same hlt, e2, e3⟩) (fun b hb => World.putObj_heap_other hb) rfl
    have x2 := x1.trans (Ext.set hp1 (aR.loop f lp .busy pd1))
    refine Code.wpIn_mono (fun e a2 w2 hp2 => ?_) (eW h3 lp.body false b h5 _ f1 _ K1 a1 _ q2 y1 z2 (some p.b) (fun e => by cases e))
    obtain ⟨ae, K2, f2, H2, rfl, x3, y3, z3, q3⟩ := hp2
    have := key ae H2 K2 w2 (x2.trans x3) z3 q3
    cases ae with
    | normal => exact this
    | exit id => exact this
    | ret => exact this
end Go.Eng
end
section
set_option linter.unusedVariables false
set_option linter.unusedSimpArgs false
namespace Go.Eng
open Go
def bZ (H : AH) (v : AV) (H' : AH) (v' : AV) : Prop := ∀ (K : KW) (w : World) (cv : Value), Rel K w H → RelV K v cv → ∃ K', Ext K H K' H' ∧ Rel K' w H' ∧ RelV K' v' cv
theorem bZ.refl (H : AH) (v : AV) : bZ H v H v := fun K w cv h r => ⟨K, Ext.refl K H, h, r⟩
theorem bZ.trans {H1 H2 H3 : AH} {u v x : AV} (h : bZ H1 u H2 v) (g : bZ H2 v H3 x) : bZ H1 u H3 x := fun K w cv a r => by
  obtain ⟨K', e1, e2, e3⟩ := h K w cv a r
  obtain ⟨K2, f1, f2, f3⟩ := g K' w cv e2 e3
  exact ⟨K2, e1.trans f1, f2, f3⟩
theorem Frz.weak {H H' : AH} {v v' : AV} (h : Frz H v v' H') : bZ H v H' v' := fun K w cv a r => h.sound a r
theorem aC.weak {P : Program} {g : FuncId} {args : List AV} {H : AH} {R R' : AV → AH → Prop} (h : aC P g args H R) (hr : ∀ r H', R r H' → ∃ r' H2, bZ H' r H2 r' ∧ R' r' H2) : aC P g args H R' :=
  ⟨h.1, fun K w cargs a b => (h.2 K w cargs a b).mono fun e w' ⟨v, K', H', r, h1, h2, h3, h4, h5⟩ => by
    obtain ⟨r', H2, f1, f2⟩ := hr _ _ h5
    obtain ⟨K2, g1, g2, g3⟩ := f1 _ _ _ h3 h4
    exact ⟨v, K2, H2, r', h1, h2.trans g1, g2, g3, f2⟩⟩
def ptk (v : AV) (i k : Nat) : AV :=
  match v with
  | .list sz l _ => .lptr sz l i k
  | .ref _ t off _ _ _ => .ptr t (off + i) k
  | _ => .lptr 0 [] i k
theorem cO (v : AV) (i k off : Nat) : mL off (ptk v i k) = some (ptk v i (k + off)) := by
  cases v <;> rfl
theorem aL {sz : Nat} {v : AV} {H : AH} {es : List AV} (h : elems sz v H = some es) : cZ v = some es.length := by
  unfold elems at h
  split at h
  · cases h; rfl
  · split at h
    · cases h; rfl
    · cases h
  · simp only [Option.bind_eq_some_iff] at h
    obtain ⟨o, h1, h2⟩ := h
    split at h2
    · rename_i hc
      cases h2
      simp only [cZ, List.length_take, List.length_drop]
      congr 1; omega
    · cases h2
  · cases h
theorem aK {sz : Nat} {v : AV} {H : AH} {es : List AV} (h : elems sz v H = some es) {i : Nat} (hi : i < es.length) (κ : IntKind) : aF sz v (.int κ (i : Int)) = some (ptk v i 0) := by
  have hn : nat? (.int κ (i : Int)) = some i := by simp [nat?]
  unfold aF
  rw [hn, Option.bind_some]
  unfold elems at h
  split at h
  · cases h; cases hi
  · split at h
    · rename_i e; cases h
      simp only [ptk, e, hi, and_self, if_true]
    · cases h
  · simp only [Option.bind_eq_some_iff] at h
    obtain ⟨o, h1, h2⟩ := h
    split at h2
    · rename_i hc
      cases h2
      simp only [List.length_take, List.length_drop] at hi
      simp only [ptk]
      rw [if_pos ⟨hc.1.1, by omega⟩]
    · cases h2
  · cases h
theorem zT {sz : Nat} {v : AV} {H : AH} {es : List AV} (h : elems sz v H = some es) {i : Nat} {e : AV} (hi : es[i]? = some e) (ag : Bool) (s k : Nat) : cG ag s (ptk v i k) H = part ag s k e := by
  unfold elems at h
  split at h
  · cases h; cases hi
  · split at h
    · cases h; simp [cG, ptk, hi]
    · cases h
  · simp only [Option.bind_eq_some_iff] at h
    obtain ⟨o, h1, h2⟩ := h
    split at h2
    · cases h2
      rw [List.getElem?_take] at hi
      split at hi
      · rw [List.getElem?_drop] at hi
        simp [cG, ptk, h1, hi]
      · cases hi
    · cases h2
  · cases h
theorem bJ {sz : Nat} {v : AV} {H H' : AH} {es : List AV} (h : elems sz v H = some es) (hp : H <+: H') : elems sz v H' = some es := by
  unfold elems at h ⊢
  split at h
  · exact h
  · exact h
  · simp only [Option.bind_eq_some_iff] at h ⊢
    obtain ⟨o, h1, h2⟩ := h
    exact ⟨o, bB hp h1, h2⟩
  · cases h
end Go.Eng
end
section
set_option linter.unusedVariables false
set_option linter.unusedSimpArgs false
namespace Go.Eng
open Go
theorem mU {P : Program} {i : AI} {q : Bool} {f : AF} {Q1 Q2 : AV → AH → Prop} (hq : ∀ v H, Q1 v H → Q2 v H) {H : AH} (hs : cR P i q Q1 f H) : cR P i q Q2 f H := by
  have key : (match aH i f H with | some (v, H') => (q = true → ∃ J, H' = H ++ J) ∧ Q1 v H' | none => False) → (match aH i f H with | some (v, H') => (q = true → ∃ J, H' = H ++ J) ∧ Q2 v H' | none => False) := fun h => by
    split at h
    · exact ⟨h.1, hq _ _ h.2⟩
    · exact h.elim
  cases i with
  | call g xs => exact hs.mono fun r H' ⟨a, b⟩ => ⟨a, hq _ _ b⟩
  | callv x xs =>
    simp only [cR] at hs ⊢
    split at hs
    · exact hs.mono fun r H' ⟨a, b⟩ => ⟨a, hq _ _ b⟩
    · exact gI.mono hs fun r H' ⟨a, b⟩ => ⟨a, hq _ _ b⟩
    · exact hs.elim
  | nilt neg x =>
    simp only [cR] at hs ⊢
    split at hs
    · exact hq _ _ hs
    · exact ⟨hs.1, fun b => hq _ _ (hs.2 b)⟩
  | _ => exact key hs
theorem iB {P : Program} {Q Q' : AF → AH → Prop} (hq : ∀ f H, Q f H → Q' f H) : ∀ (l : List AOp) (f : AF) (H : AH), dJ P l Q f H → dJ P l Q' f H
  | [], f, H, h => hq f H h
  | o :: l, f, H, h => by
    simp only [dJ] at h ⊢
    split at h
    · exact mU (fun v H' h => iB hq l _ _ h) h
    · split at h
      · exact mU (fun v H' h => iB hq l _ _ h) h
      · exact iB hq l _ _ h
      · exact h.elim
theorem AC.mono {P : Program} : ∀ (c : AC) {Q Q' : AE → AF → AH → Prop} {f H}, (∀ e f H, Q e f H → Q' e f H) → c.wp P Q f H → c.wp P Q' f H
  | .skip, Q, Q', f, H, hq, h => hq _ _ _ h
  | .ops l, Q, Q', f, H, hq, h => iB (hq .normal) l f H h
  | .seq a b, Q, Q', f, H, hq, h => AC.mono a (fun e f H hp => by
      cases e with
      | normal => exact AC.mono b hq hp
      | exit id => exact hq _ _ _ hp
      | ret => exact hq _ _ _ hp) h
  | .cond x a b, Q, Q', f, H, hq, h => by
    simp only [AC.wp] at h ⊢
    split at h
    · exact ⟨fun e => AC.mono a hq (h.1 e), fun e => AC.mono b hq (h.2 e)⟩
    · exact h.elim
  | .block id a, Q, Q', f, H, hq, h => AC.mono a (fun e f H hp => by
      cases e with
      | normal => exact hq _ _ _ hp
      | exit id' =>
        simp only [cU] at hp ⊢
        split at hp
        · rename_i e; rw [if_pos e]; exact hq _ _ _ hp
        · rename_i e; rw [if_neg e]; exact hq _ _ _ hp
      | ret => exact hq _ _ _ hp) h
  | .loop a, Q, Q', f, H, hq, h => by
    obtain ⟨I, μ, h0, hs⟩ := h
    exact ⟨I, μ, h0, fun f H hI => AC.mono a (fun e f H hp => by
      cases e with
      | normal => exact hp
      | exit id => exact hq _ _ _ hp
      | ret => exact hq _ _ _ hp) (hs f H hI)⟩
  | .exit id, Q, Q', f, H, hq, h => hq _ _ _ h
  | .ret, Q, Q', f, H, hq, h => hq _ _ _ h
  | .rangeF n x ps a b, Q, Q', f, H, hq, h => by
    simp only [AC.wp] at h ⊢
    split at h
    · exact fun lp hb => (h lp hb).mono fun r H' ⟨st, pd, h1, h2, h3⟩ => ⟨st, pd, h1, h2, hq _ _ _ h3⟩
    · exact h.elim
theorem aI {P : Program} {a : AC} {Q : AE → AF → AH → Prop} {f : AF} {H : AH} {σ : Type} (I : σ → AF → AH → Prop) (μ : σ → Nat) (s : σ) (h0 : I s f H)
    (h : ∀ s f H, I s f H → a.wp P (qE (fun f' H' => ∃ s', I s' f' H' ∧ μ s' < μ s) Q) f H) : (AC.loop a).wp P Q f H := by
  classical
  let J : AF → AH → Nat → Prop := fun f H m => ∃ s, I s f H ∧ μ s = m
  let M : AF → AH → Nat := fun f H => if h : ∃ m, J f H m ∧ ∀ k, J f H k → m ≤ k then Classical.choose h else 0
  have hM : ∀ f H, (∃ m, J f H m) → J f H (M f H) ∧ ∀ k, J f H k → M f H ≤ k := fun f H h => by
    have h' := jK h
    simp only [M]
    rw [dif_pos h']
    exact Classical.choose_spec h'
  refine ⟨fun f H => ∃ s, I s f H, M, ⟨s, h0⟩, fun f H ⟨s0, hI⟩ => ?_⟩
  obtain ⟨⟨s1, hs1, hm⟩, _⟩ := hM f H ⟨_, s0, hI, rfl⟩
  refine AC.mono _ (fun e f' H' hp => ?_) (h s1 f H hs1)
  cases e with
  | normal =>
    obtain ⟨s', hs', hlt⟩ := hp
    refine ⟨⟨s', hs'⟩, Nat.lt_of_le_of_lt ((hM f' H' ⟨_, s', hs', rfl⟩).2 _ ⟨s', hs', rfl⟩) ?_⟩
    rw [← hm]; exact hlt
  | exit id => exact hp
  | ret => exact hp
end Go.Eng
end
section
set_option linter.unusedVariables false
set_option linter.unusedSimpArgs false
namespace Go.Eng
open Go
mutual
/-- Only objects below 'n' are spoken of. -/
def cl (n : Nat) : AV → Bool
  | .ptr t _ _ => decide (t < n)
  | .lptr _ l _ _ => cls n l
  | .list _ l _ => cls n l
  | .ref _ t _ _ _ _ => decide (t < n)
  | .agg cs => cls n cs
  | .tup cs => cls n cs
  | .fn _ a b => cls n a && cls n b
  | .ifc _ v => cl n v
  | .yld t => decide (t < n)
  | _ => true
def cls (n : Nat) : List AV → Bool
  | [] => true
  | x :: xs => cl n x && cls n xs
end
theorem lA {n : Nat} : ∀ {l : List AV}, cls n l = true ↔ ∀ x ∈ l, cl n x = true
  | [] => by simp [cls]
  | x :: l => by simp [cls, lA (l := l)]
theorem uX {n : Nat} {x : AV} : cl n x = true ↔ ∀ y ∈ cells x, cl n y = true := by
  cases x with
  | agg cs => simp only [cl, cells]; exact lA
  | _ => simp [cells]
theorem eY {n : Nat} {l : List AV} : cls n l = true ↔ ∀ (i : Nat) (x : AV), l[i]? = some x → cl n x = true := by
  rw [lA]
  exact ⟨fun h i x hx => h x (List.mem_of_getElem? hx), fun h x hx => by obtain ⟨i, hi⟩ := List.getElem?_of_mem hx; exact h i x hi⟩
theorem kA {n : Nat} {l : List AV} : cls n l = true ↔ ∀ (i k : Nat) (x y : AV), l[i]? = some x → (cells x)[k]? = some y → cl n y = true := by
  rw [eY]
  exact ⟨fun h i k x y hx hy => uX.1 (h i x hx) y (List.mem_of_getElem? hy), fun h i x hx => uX.2 fun y hy => by obtain ⟨k, hk⟩ := List.getElem?_of_mem hy; exact h i k x y hx hk⟩
theorem RelV.cl {K : KW} {n : Nat} (hd : ∀ t p, K.pl t = some p → t < n) {x : AV} {v : Value} (r : RelV K x v) : cl n x = true := by
  induction r with
  | ptr e => simp only [Eng.cl, decide_eq_true_eq]; exact hd _ _ e
  | lptr hb hn hs hr ih => simp only [Eng.cl]; exact kA.2 ih
  | list hb hl hc he hn hs hr ih => simp only [Eng.cl]; exact kA.2 ih
  | ref e => simp only [Eng.cl, decide_eq_true_eq]; exact hd _ _ e
  | agg hl hr ih => simp only [Eng.cl]; exact eY.2 ih
  | tup hl hr ih => simp only [Eng.cl]; exact eY.2 ih
  | fn hl hr hl' hr' ih ih' => simp only [Eng.cl, Bool.and_eq_true]; exact ⟨eY.2 ih, eY.2 ih'⟩
  | ifc _ ih => simp only [Eng.cl]; exact ih
  | yld e => simp only [Eng.cl, decide_eq_true_eq]; exact hd _ _ e
  | _ => rfl
def KW.cut (K : KW) (n : Nat) : KW := { K with pl := fun t => if t < n then K.pl t else none }
theorem KW.cut_lt {K : KW} {n t : Nat} (h : t < n) : (K.cut n).pl t = K.pl t := if_pos h
theorem RelV.cut {K : KW} {n : Nat} {x : AV} {v : Value} (r : RelV K x v) : Eng.cl n x = true → RelV (K.cut n) x v := by
  induction r with
  | undef v => exact fun _ => .undef v
  | bool b => exact fun _ => .bool b
  | int k n => exact fun _ => .int k n
  | str s => exact fun _ => .str s
  | nilp => exact fun _ => .nilp
  | ptr e => exact fun c => .ptr ((KW.cut_lt (by simpa [Eng.cl] using c)).trans e)
  | lptr hb hn hs hr ih => exact fun c => .lptr (K := K.cut n) hb hn hs fun i k x y a b => ih i k x y a b (kA.1 (by simpa [Eng.cl] using c) i k x y a b)
  | nils => exact fun _ => .nils
  | list0 he => exact fun _ => .list0 he
  | list hb hl hc he hn hs hr ih => exact fun c => .list (K := K.cut n) hb hl hc he hn hs fun i k x y a b => ih i k x y a b (kA.1 (by simpa [Eng.cl] using c) i k x y a b)
  | ref e hz hn hc he ha => exact fun c => .ref ((KW.cut_lt (by simpa [Eng.cl] using c)).trans e) hz hn hc he ha
  | agg hl hr ih => exact fun c => .agg hl fun i x a => ih i x a (eY.1 (by simpa [Eng.cl] using c) i x a)
  | tup hl hr ih => exact fun c => .tup hl fun i x a => ih i x a (eY.1 (by simpa [Eng.cl] using c) i x a)
  | fn hl hr hl' hr' ih ih' =>
    intro c
    simp only [Eng.cl, Bool.and_eq_true] at c
    exact .fn hl (fun i x a => ih i x a (eY.1 c.1 i x a)) hl' (fun i x a => ih' i x a (eY.1 c.2 i x a))
  | nilf => exact fun _ => .nilf
  | ifc _ ih => exact fun c => .ifc (ih (by simpa [Eng.cl] using c))
  | nili => exact fun _ => .nili
  | yld e => exact fun c => .yld ((KW.cut_lt (by simpa [Eng.cl] using c)).trans e)
theorem Rel.cut {K K' : KW} {w w' : World} {H H' : AH} (h : Rel K w H) (h' : Rel K' w' H') (e : Ext K H K' H') (hp : H <+: H') : Rel (K'.cut H.length) w' H := by
  have key : ∀ t p, (K'.cut H.length).pl t = some p → t < H.length ∧ K'.pl t = some p ∧ K.pl t = some p ∧ H'[t]? = H[t]? := fun t p a => by
    by_cases ht : t < H.length
    · rw [KW.cut_lt ht] at a
      refine ⟨ht, a, ?_, zR hp ht⟩
      cases hk : K.pl t with
      | none => rw [(e.abs t ht hk).1] at a; cases a
      | some q => rw [e.le.pl _ _ hk] at a; exact a
    · have : (K'.cut H.length).pl t = none := if_neg ht
      rw [this] at a; cases a
  refine ⟨fun t p a => (key t p a).1, fun t p sz es a b => ?_, fun t t' p p' sz es sz' es' n a b a' b' => ?_, h'.fz, ⟨fun t p f lp st pd a b => ?_, fun t t' p p' f lp st pd f' lp' st' pd' n a b a' b' => ?_⟩, h'.io⟩
  · obtain ⟨k1, k2, k3, k4⟩ := key t p a
    have L := h.live t p sz es k3 b
    have L' := h'.live t p sz es k2 (k4.trans b)
    obtain ⟨cs, T, c1, c2, c3⟩ := L'.block
    obtain ⟨cs0, T0, d1, d2, d3⟩ := L.block
    exact ⟨L'.psz, L'.len, L'.free, L'.fit, cs, T, c1, c2, fun i k x y hx hy => (c3 i k x y hx hy).cut ((d3 i k x y hx hy).cl h.dom)⟩
  · obtain ⟨k1, k2, k3, k4⟩ := key t p a
    obtain ⟨l1, l2, l3, l4⟩ := key t' p' a'
    exact h.inj _ _ _ _ _ _ _ _ n k3 b l3 b'
  · obtain ⟨k1, k2, k3, k4⟩ := key t p a
    have L := h.loops.loop _ _ _ _ _ _ k3 b
    have L' := h'.loops.loop _ _ _ _ _ _ k2 (k4.trans b)
    obtain ⟨tm, d, c1, c2, c3⟩ := L'.block
    obtain ⟨tm0, d0, e1, e2, e3⟩ := L.block
    exact ⟨L'.free, tm, d, c1, c2, fun i hi => (c3 i hi).cut ((e3 i hi).cl h.dom)⟩
  · obtain ⟨k1, k2, k3, k4⟩ := key t p a
    obtain ⟨l1, l2, l3, l4⟩ := key t' p' a'
    exact h.loops.inj _ _ _ _ _ _ _ _ _ _ _ _ n k3 b l3 b'
theorem aC.gc {P : Program} {g : FuncId} {args : List AV} {H : AH} {R : AV → AH → Prop} (h : aC P g args H fun r H' => H <+: H' ∧ cl H.length r = true ∧ R r H') : aC P g args H fun r H' => H' = H ∧ ∃ H2, R r H2 :=
  ⟨h.1, fun K w cargs a b => (h.2 K w cargs a b).mono fun e w' ⟨v, K', H', r, h1, h2, h3, h4, h5, h6, h7⟩ => by
    refine ⟨v, K'.cut H.length, H, r, h1, ⟨⟨fun t p c => ?_, h2.le.fz, h2.le.old, h2.le.io⟩, Nat.le_refl _, fun t c d => ⟨?_, rfl⟩⟩, a.cut h3 h2 h5, h4.cut h6, rfl, _, h7⟩
    · rw [KW.cut_lt (a.dom t p c)]; exact h2.le.pl _ _ c
    · rw [KW.cut_lt c]; exact (h2.abs t c d).1⟩
end Go.Eng
end
section
set_option linter.unusedVariables false
set_option linter.unusedSimpArgs false
namespace Go.Eng
open Go
theorem zU (cs : List AV) : cells (.agg cs) = cs := rfl
theorem FK (k n) : dH (.int k n) = true := rfl
theorem zW (b) : dH (.bool b) = true := rfl
theorem FL (b) : dH (.str b) = true := rfl
theorem zX : dH .nils = true := rfl
theorem zY : dH .nilp = true := rfl
theorem zZ (a b c) : dH (.list a b c) = true := rfl
theorem FM (a b c d e f) : dH (.ref a b c d e f) = true := rfl
theorem FN (a b c) : dH (.ptr a b c) = true := rfl
theorem AA (a b c d) : dH (.lptr a b c d) = true := rfl
theorem KJ (a b c) : dH (.fn a b c) = true := rfl
theorem FO (a b) : dH (.ifc a b) = true := rfl
theorem wP (sz k : Nat) (cs : List AV) : part false sz k (.agg cs) = cs[k]? := rfl
theorem wT (sz k : Nat) (cs : List AV) : part true sz k (.agg cs) = if k + sz ≤ cs.length then some (.agg ((cs.drop k).take sz)) else none := rfl
theorem aB (ag : Bool) (sz t i k : Nat) (H : AH) : cG ag sz (.ptr t i k) H = (obj? H t).bind fun o => (o.2[i]?).bind fun e => part ag sz k e := rfl
theorem wU (off t i k : Nat) : mL off (.ptr t i k) = some (.ptr t i (k + off)) := rfl
theorem fO {H : AH} {sz t : Nat} {es : List AV} (h : t = H.length) : obj? (H ++ [aR.live sz es]) t = some (sz, es) := by rw [h]; exact bA _ _ _
theorem gT {H : AH} {t : Nat} {o : aR} (h : t < H.length) : obj? (H ++ [o]) t = obj? H t := by
  unfold obj?; rw [List.getElem?_append_left h]
theorem lB : ∀ a : List UInt8, Op.bytesLess a a = false
  | [] => rfl
  | x :: a => by simp [Op.bytesLess, lB a]
theorem qK : ∀ a b : List UInt8, (Op.bytesLess a b = true ∧ ¬ a = b ∧ Op.bytesLess b a = false) ∨ (Op.bytesLess a b = false ∧ a = b ∧ Op.bytesLess b a = false) ∨ (Op.bytesLess a b = false ∧ ¬ a = b ∧ Op.bytesLess b a = true)
  | [], [] => by simp [Op.bytesLess]
  | [], _ :: _ => by simp [Op.bytesLess]
  | _ :: _, [] => by simp [Op.bytesLess]
  | x :: a, y :: b => by
    have ih := qK a b
    by_cases h : x = y
    · subst h
      simp [Op.bytesLess]
      exact ih
    · have h' : ¬ y = x := fun e => h e.symm
      by_cases hl : x < y
      · have hg : ¬ y < x := by rw [UInt8.lt_iff_toNat_lt] at *; omega
        left; simp [Op.bytesLess, h, h', hl, hg]
      · have hg : y < x := by
          rw [UInt8.lt_iff_toNat_lt] at *
          have : ¬ x.toNat = y.toNat := fun e => h (UInt8.toNat_inj.1 e)
          omega
        right; right; simp [Op.bytesLess, h, h', hl, hg]
theorem OV (a b : List UInt8) : (!(Op.bytesLess a b || a == b)) = Op.bytesLess b a := by
  rcases qK a b with ⟨h1, h2, h3⟩ | ⟨h1, h2, h3⟩ | ⟨h1, h2, h3⟩ <;> simp [h1, h2, h3]
  exact h2 ▸ lB _
theorem OW {f : AF} {H : AH} {x : X} : aH (.mov x) f H = (some (ev f x, H)) := Eq.trans rfl rfl
theorem KL {f : AF} {H : AH} {c : X} {a : X} {b : X} : aH (.pick c a b) f H = (match ev f c with | .bool t => some (if t then ev f a else ev f b, H) | _ => none) := Eq.trans rfl rfl
theorem OX {f : AF} {H : AH} {op : BinOp} {x : X} {y : X} : aH (.bin op x y) f H = ((cK op (ev f x) (ev f y)).map (·, H)) := Eq.trans rfl rfl
theorem OY {f : AF} {H : AH} {c : Nat} {neg : Bool} {x : X} : aH (.eqn c neg x) f H = ((IQ c (ev f x)).map fun b => (.bool (b != neg), H)) := Eq.trans rfl rfl
theorem OZ {f : AF} {H : AH} {neg : Bool} {x : X} {y : X} : aH (.eqb neg x y) f H = (match ev f x, ev f y with | .bool a, .bool b => some (.bool ((a == b) != neg), H) | _, _ => none) := Eq.trans rfl rfl
theorem PA {f : AF} {H : AH} {neg : Bool} {ks : List Nat} {x : X} {y : X} : aH (.eqa neg ks x y) f H = (match ev f x, ev f y with | .agg xs, .agg ys => (JZ ks xs ys).map fun b => (.bool (b != neg), H) | _, _ => none) := Eq.trans rfl rfl
theorem TG {f : AF} {H : AH} {op : UnOp} {x : X} : aH (.un op x) f H = ((aun op (ev f x)).map (·, H)) := Eq.trans rfl rfl
theorem KM {f : AF} {H : AH} {k : IntKind} {x : X} : aH (.conv k x) f H = (match ev f x with | .int _ n => some (.int k (k.wrap n), H) | _ => none) := Eq.trans rfl rfl
theorem PB {f : AF} {H : AH} {sz : Nat} {x : X} : aH (.box sz x) f H = (if (cells (ev f x)).length = sz ∧ fI (cells (ev f x)) = true then some (.ptr H.length 0 0, H ++ [.live sz [ev f x]]) else none) := Eq.trans rfl rfl
theorem FP {f : AF} {H : AH} {sz : Nat} {z : AV} : aH (.alloc sz z) f H = (some (.ptr H.length 0 0, H ++ [.live sz [z]])) := Eq.trans rfl rfl
theorem FQ {f : AF} {H : AH} {z : List AV} {ps : List (Nat × Nat × X)} : aH (.build z ps) f H = ((fillc f z ps).map fun cs => (.agg cs, H)) := Eq.trans rfl rfl
theorem PC {f : AF} {H : AH} {sz : Nat} {len : Nat} {z : AV} {ps : List (Nat × X)} : aH (.bsl sz len z ps) f H = (if ps.all fun p => decide (p.1 < len) && ((cells (ev f p.2)).length == sz && fI (cells (ev f p.2))) then
      some (fresh H sz (putp f (cQ len z) ps) true) else none) := Eq.trans rfl rfl
theorem KN {f : AF} {H : AH} {sz : Nat} {len : Nat} {z : AV} {ps : List (Nat × X)} : aH (.bslz sz len z ps) f H = (if ps.all fun p => decide (p.1 < len) && ((cells (ev f p.2)).length == sz && fI (cells (ev f p.2))) then
      some (.list sz (putp f (cQ len z) ps) false, H ++ [aR.dead]) else none) := Eq.trans rfl rfl
theorem KO {f : AF} {H : AH} {ag : Bool} {sz : Nat} {x : X} : aH (.load ag sz x) f H = ((cG ag sz (ev f x) H).map (·, H)) := Eq.trans rfl rfl
theorem FR {f : AF} {H : AH} {sz : Nat} {a : X} {x : X} : aH (.store sz a x) f H = ((dS sz (ev f a) (ev f x) H).map (.undef, ·)) := Eq.trans rfl rfl
theorem FS {f : AF} {H : AH} {off : Nat} {x : X} : aH (.faddr off x) f H = ((mL off (ev f x)).map (·, H)) := Eq.trans rfl rfl
theorem FT {f : AF} {H : AH} {ag : Bool} {sz : Nat} {off : Nat} {x : X} : aH (.field ag sz off x) f H = ((uL ag sz off (ev f x)).map (·, H)) := Eq.trans rfl rfl
theorem FU {f : AF} {H : AH} {sz : Nat} {x : X} {i : X} : aH (.iaddr sz x i) f H = ((aF sz (ev f x) (ev f i)).map (·, H)) := Eq.trans rfl rfl
theorem KP {f : AF} {H : AH} {x : X} {i : X} : aH (.sidx x i) f H = ((yG (ev f x) (ev f i)).map (·, H)) := Eq.trans rfl rfl
theorem FV {f : AF} {H : AH} {sz : Nat} {x : X} {lo : Option X} {hi : Option X} {mx : Option X} : aH (.slice sz x lo hi mx) f H = ((dT f sz (ev f x) lo hi mx).map (·, H)) := Eq.trans rfl rfl
theorem AB {f : AF} {H : AH} {x : X} {lo : Option X} {hi : Option X} : aH (.sslice x lo hi) f H = (match ev f x with | .str s => (jR f hi s.size s.size).bind fun h => (jR f lo h 0).map fun l => (.str (s.extract l h), H) | _ => none) := Eq.trans rfl rfl
theorem PD {f : AF} {H : AH} {x : X} {i : Nat} : aH (.ext x i) f H = (match ev f x with | .tup vs => (vs[i]?).map (·, H) | _ => none) := Eq.trans rfl rfl
theorem KQ {f : AF} {H : AH} {x : X} : aH (.nilc x) f H = (match ev f x with | .ptr t i k => some (.ptr t i k, H) | .lptr sz l i k => some (.lptr sz l i k, H) | .fn g a b => some (.fn g a b, H) | _ => none) := Eq.trans rfl rfl
theorem PE {f : AF} {H : AH} {g : FuncId} {a : List X} {b : List X} : aH (.mkf g a b) f H = (some (.fn g (a.map (ev f)) (b.map (ev f)), H)) := Eq.trans rfl rfl
theorem PF {f : AF} {H : AH} {t : TypeId} {x : X} : aH (.mki t x) f H = (some (.ifc t (ev f x), H)) := Eq.trans rfl rfl
theorem PG {f : AF} {H : AH} {x : X} : aH (.len x) f H = ((cZ (ev f x)).map fun (m : Nat) => (AV.int .i64 (m : Int), H)) := Eq.trans rfl rfl
theorem KR {f : AF} {H : AH} {x : X} : aH (.slen x) f H = (match ev f x with | .str s => some (AV.int .i64 (s.size : Int), H) | _ => none) := Eq.trans rfl rfl
theorem TH {f : AF} {H : AH} {x : X} {xs : List X} : aH (.mx x xs) f H = ((mA yH (ev f x) (xs.map (ev f))).map (·, H)) := Eq.trans rfl rfl
theorem TI {f : AF} {H : AH} {x : X} {xs : List X} : aH (.mn x xs) f H = ((mA yI (ev f x) (xs.map (ev f))).map (·, H)) := Eq.trans rfl rfl
theorem PH {f : AF} {H : AH} {sz : Nat} {bytes : Nat} {s : X} {x : X} : aH (.app sz bytes s x) f H = (mM sz bytes (ev f s) (ev f x) H) := Eq.trans rfl rfl
theorem PI {f : AF} {H : AH} {sz : Nat} {bytes : Nat} {z : AV} {l : X} {c : X} : aH (.mks sz bytes z l c) f H = ((nat? (ev f l)).bind fun n => (nat? (ev f c)).bind fun m => if n = m ∧ n * sz ≤ 16777216 ∧ n * bytes ≤ 140737488355328 ∧ n ≤ 140737488355328 then some (fresh H sz (cQ n z) true) else none) := Eq.trans rfl rfl
theorem PJ {f : AF} {H : AH} {x : X} : aH (.cap x) f H = ((SN (ev f x)).map fun (m : Nat) => (AV.int .i64 (m : Int), H)) := Eq.trans rfl rfl
theorem KS {f : AF} {H : AH} {sz : Nat} {bytes : Nat} {z : AV} {s : X} {x : X} : aH (.appz sz bytes z s x) f H = ((nat? (ev f x)).bind fun n => if n * bytes ≤ 140737488355328 ∧ n ≤ 140737488355328 then (match ev f s with | .nils => some (if n = 0 then (.nils, H) else fresh H sz (cQ n z) false) | _ => none) else none) := Eq.trans rfl rfl
theorem PK {f : AF} {H : AH} {sz : Nat} {z : AV} {x : X} : aH (.clr sz z x) f H = ((OM sz z (ev f x) H).map (.tup [], ·)) := Eq.trans rfl rfl
theorem PN {k : IntKind} {a b : Int} : cK .add (.int k a) (.int k b) = some (.int k (k.wrap (a + b))) := by simp [cK]
theorem PO {k : IntKind} {a b : Int} : cK .sub (.int k a) (.int k b) = some (.int k (k.wrap (a - b))) := by simp [cK]
theorem PP {k : IntKind} {a b : Int} : cK .mul (.int k a) (.int k b) = some (.int k (k.wrap (a * b))) := by simp [cK]
theorem PQ {k : IntKind} {a b : Int} : cK .lss (.int k a) (.int k b) = some (.bool (a < b)) := by simp [cK]
theorem PR {k : IntKind} {a b : Int} : cK .leq (.int k a) (.int k b) = some (.bool (a ≤ b)) := by simp [cK]
theorem PT {k : IntKind} {a b : Int} : cK .gtr (.int k a) (.int k b) = some (.bool (a > b)) := by simp [cK]
theorem PU {k : IntKind} {a b : Int} : cK .geq (.int k a) (.int k b) = some (.bool (a ≥ b)) := by simp [cK]
theorem PV {k : IntKind} {a b : Int} : cK .eql (.int k a) (.int k b) = some (.bool (decide (a = b))) := by simp only [cK]; by_cases h : a = b <;> simp [h]
theorem PW {k : IntKind} {a b : Int} : cK .neq (.int k a) (.int k b) = some (.bool !(decide (a = b))) := by simp only [cK]; by_cases h : a = b <;> simp [h]
theorem PX {k : IntKind} {a b : Int} (h : b ≠ 0) : cK .quo (.int k a) (.int k b) = some (.int k (k.wrap (a.tdiv b))) := by simp [cK, h]
theorem PY {k : IntKind} {a b : Int} (h : b ≠ 0) : cK .rem (.int k a) (.int k b) = some (.int k (a.tmod b)) := by simp [cK, h]
theorem JF {k k' : IntKind} {a b : Int} (h : ¬ b < 0) : cK .shl (.int k a) (.int k' b) = some (.int k (k.wrap (a * 2 ^ (min b.toNat k.bits)))) := by simp [cK, h]
theorem AD {k k' : IntKind} {a b : Int} (h : ¬ b < 0) : cK .shr (.int k a) (.int k' b) = some (.int k (a.fdiv (2 ^ (min b.toNat k.bits)))) := by simp [cK, h]
theorem PZ {k : IntKind} {a b : Int} : cK .and (.int k a) (.int k b) = some (.int k (EV (fun _ x y => x &&& y) k a b)) := by simp [cK]
theorem TJ {k : IntKind} {a b : Int} : cK .or (.int k a) (.int k b) = some (.int k (EV (fun _ x y => x ||| y) k a b)) := by simp [cK]
theorem QA {k : IntKind} {a b : Int} : cK .xor (.int k a) (.int k b) = some (.int k (EV (fun _ x y => x ^^^ y) k a b)) := by simp [cK]
theorem QB {a b : ByteArray} : cK .eql (.str a) (.str b) = some (.bool (a.toList == b.toList)) := by simp only [cK]
theorem QC {a b : ByteArray} : cK .neq (.str a) (.str b) = some (.bool !(a.toList == b.toList)) := by simp only [cK]
theorem QD {a b : ByteArray} : cK .lss (.str a) (.str b) = some (.bool (Op.bytesLess a.toList b.toList)) := by simp only [cK]
theorem QE {a b : ByteArray} : cK .leq (.str a) (.str b) = some (.bool (Op.bytesLess a.toList b.toList || a.toList == b.toList)) := by simp only [cK]
theorem QG {a b : ByteArray} : cK .gtr (.str a) (.str b) = some (.bool (Op.bytesLess b.toList a.toList)) := by simp only [cK, OV]
theorem QH {a b : ByteArray} : cK .geq (.str a) (.str b) = some (.bool !(Op.bytesLess a.toList b.toList)) := by simp only [cK]
def nM (P : Program) (l : List AOp) (Q : AF → AH → Prop) (f : AF) (d : Option Nat) (q : Bool) (H : AH) (v : AV) (H' : AH) : Prop :=
  (q = true → ∃ J, H' = H ++ J) ∧ dJ P l Q (put f d v) H'
def xAt (o : Option (AV × AH)) (K : AV → AH → Prop) : Prop :=
  match o with
  | some (v, H') => K v H'
  | none => False
def vAt (P : Program) (v : AV) (xs : List AV) (H : AH) (K : AV → AH → Prop) : Prop :=
  match v with
  | .fn g as0 bs => aC P g (as0 ++ xs ++ bs) H K
  | .yld t => gI P t xs H K
  | _ => False
def nAt (o : Option Bool) (e neg : Bool) (H : AH) (K : AV → AH → Prop) : Prop :=
  match o with
  | some b => K (.bool (b != neg)) H
  | none => e = true ∧ K (.bool true) H ∧ K (.bool false) H
def zAt (P : Program) (i : AI) (f : AF) (H : AH) (K : AV → AH → Prop) : Prop :=
  match i with
  | .call g xs => aC P g (xs.map (ev f)) H K
  | .callv x xs => vAt P (ev f x) (xs.map (ev f)) H K
  | .nilt neg x => nAt (yF (ev f x)) (emp (ev f x)) neg H K
  | i => xAt (aH i f H) K
def gAt (P : Program) (v : AV) (b : Bool) (i : AI) (l : List AOp) (Q : AF → AH → Prop) (f : AF) (d : Option Nat) (H : AH) : Prop :=
  match gv v b with
  | some true => zAt P i f H (nM P l Q f d false H)
  | some false => dJ P l Q (put f d (.tup [])) H
  | none => False
def cAt (P : Program) (v : AV) (a b : AC) (Q : AE → AF → AH → Prop) (f : AF) (H : AH) : Prop :=
  match v with
  | .bool c => if c = true then a.wp P Q f H else b.wp P Q f H
  | _ => False
section
variable {P : Program} {Q : AF → AH → Prop} {l : List AOp} {i : AI} {d s : Nat} {b : Bool} {f : AF} {H : AH}
theorem oZ {d : Option Nat} {q : Bool} (hn : ∀ neg x, i = .nilt neg x → q = false) : cR P i q (fun v H' => dJ P l Q (put f d v) H') f H = zAt P i f H (nM P l Q f d q H) := by
  have key : ∀ o : Option (AV × AH), (match o with | some (v, H') => (q = true → ∃ J, H' = H ++ J) ∧ dJ P l Q (put f d v) H' | none => False) = xAt o (nM P l Q f d q H) := fun o => by
    cases o <;> rfl
  cases i with
  | call g xs => rfl
  | callv x xs =>
    simp only [cR, zAt, vAt]
    generalize ev f x = v
    cases v <;> rfl
  | nilt neg x =>
    have := hn neg x rfl
    subst this
    unfold cR zAt nAt nM
    simp only [Bool.false_eq_true, false_implies, true_and]
    cases yF (ev f x) with
    | some b => rfl
    | none => simp only [Bool.forall_bool, and_comm]
  | mov x => exact key (some (ev f x, H))
  | alloc sz z => exact key (some (.ptr H.length 0 0, H ++ [.live sz [z]]))
  | mkf g a b => exact key (some (.fn g (a.map (ev f)) (b.map (ev f)), H))
  | mki t x => exact key (some (.ifc t (ev f x), H))
  | bad => exact key none
  | _ => exact key (aH _ f H)
theorem oN : dJ P [] Q f H = Q f H := Eq.trans rfl rfl
theorem oO : dJ P (oo d i :: l) Q f H = zAt P i f H (nM P l Q f (some d) false H) := oZ (fun _ _ _ => rfl)
theorem oU : dJ P (on i :: l) Q f H = zAt P i f H (nM P l Q f none false H) := oZ (fun _ _ _ => rfl)
theorem oM {d : Option Nat} : dJ P (⟨d, none, false, i⟩ :: l) Q f H = zAt P i f H (nM P l Q f d false H) := oZ (fun _ _ _ => rfl)
theorem oH {d : Option Nat} : dJ P (⟨d, some (s, b), false, i⟩ :: l) Q f H = gAt P (f s) b i l Q f d H := by
  unfold gAt
  rw [← oZ (fun _ _ _ => rfl)]; rfl
theorem oG : dJ P (og d s b i :: l) Q f H = gAt P (f s) b i l Q f (some d) H := oH
theorem oQ (h : fJ i = false) : dJ P (oq d i :: l) Q f H = zAt P i f H (nM P l Q f (some d) true H) := oZ (i := i) (fun neg x e => by rw [e] at h; cases h)
theorem oQc {g : FuncId} {xs : List X} : dJ P (oq d (.call g xs) :: l) Q f H = aC P g (xs.map (ev f)) H (nM P l Q f (some d) true H) := oQ rfl
theorem oQv {x : X} {xs : List X} : dJ P (oq d (.callv x xs) :: l) Q f H = vAt P (ev f x) (xs.map (ev f)) H (nM P l Q f (some d) true H) := oQ rfl
theorem oQa {sz bytes : Nat} {x y : X} : dJ P (oq d (.app sz bytes x y) :: l) Q f H = xAt (aH (.app sz bytes x y) f H) (nM P l Q f (some d) true H) := oQ rfl
theorem kF {d : Option Nat} {v : AV} {H' : AH} : nM P l Q f d false H v H' = dJ P l Q (put f d v) H' := by simp [nM]
theorem kT {d : Option Nat} {v : AV} {H' : AH} : nM P l Q f d true H v H' = ((∃ J, H' = H ++ J) ∧ dJ P l Q (put f d v) H') := by simp [nM]
theorem gTT {d : Option Nat} : gAt P (.bool true) true i l Q f d H = zAt P i f H (nM P l Q f d false H) := by simp [gAt, gv]
theorem gTF {d : Option Nat} : gAt P (.bool true) false i l Q f d H = dJ P l Q (put f d (.tup [])) H := by simp [gAt, gv]
theorem gU {xs : List AV} {d : Option Nat} : gAt P (.tup xs) b i l Q f d H = dJ P l Q (put f d (.tup [])) H := by simp [gAt, gv]
theorem gFT {d : Option Nat} : gAt P (.bool false) true i l Q f d H = dJ P l Q (put f d (.tup [])) H := by simp [gAt, gv]
theorem gFF {d : Option Nat} : gAt P (.bool false) false i l Q f d H = zAt P i f H (nM P l Q f d false H) := by simp [gAt, gv]
section
variable {K : AV → AH → Prop}
theorem xS {v : AV} {H' : AH} : xAt (some (v, H')) K = K v H' := Eq.trans rfl rfl
theorem vF {g : FuncId} {as0 bs xs : List AV} : vAt P (.fn g as0 bs) xs H K = aC P g (as0 ++ xs ++ bs) H K := Eq.trans rfl rfl
theorem vY {t : Nat} {xs : List AV} : vAt P (.yld t) xs H K = gI P t xs H K := Eq.trans rfl rfl
theorem nS {b e neg : Bool} : nAt (some b) e neg H K = K (.bool (b != neg)) H := Eq.trans rfl rfl
theorem nU {neg : Bool} : nAt none true neg H K = (K (.bool true) H ∧ K (.bool false) H) := by simp [nAt]
theorem zC {g : FuncId} {xs : List X} : zAt P (.call g xs) f H K = aC P g (xs.map (ev f)) H K := Eq.trans rfl rfl
theorem zV {x : X} {xs : List X} : zAt P (.callv x xs) f H K = vAt P (ev f x) (xs.map (ev f)) H K := Eq.trans rfl rfl
theorem zN {neg : Bool} {x : X} : zAt P (.nilt neg x) f H K = nAt (yF (ev f x)) (emp (ev f x)) neg H K := Eq.trans rfl rfl
theorem TK {x' : X} : zAt P (.mov x') f H K = xAt (aH (.mov x') f H) K := Eq.trans rfl rfl
theorem QI {c' : X} {a' : X} {b' : X} : zAt P (.pick c' a' b') f H K = xAt (aH (.pick c' a' b') f H) K := Eq.trans rfl rfl
theorem TL {op' : BinOp} {x' : X} {y' : X} : zAt P (.bin op' x' y') f H K = xAt (aH (.bin op' x' y') f H) K := Eq.trans rfl rfl
theorem TM {c' : Nat} {neg' : Bool} {x' : X} : zAt P (.eqn c' neg' x') f H K = xAt (aH (.eqn c' neg' x') f H) K := Eq.trans rfl rfl
theorem TN {neg' : Bool} {x' : X} {y' : X} : zAt P (.eqb neg' x' y') f H K = xAt (aH (.eqb neg' x' y') f H) K := Eq.trans rfl rfl
theorem TO {neg' : Bool} {ks' : List Nat} {x' : X} {y' : X} : zAt P (.eqa neg' ks' x' y') f H K = xAt (aH (.eqa neg' ks' x' y') f H) K := Eq.trans rfl rfl
theorem WC {op' : UnOp} {x' : X} : zAt P (.un op' x') f H K = xAt (aH (.un op' x') f H) K := Eq.trans rfl rfl
theorem QJ {k' : IntKind} {x' : X} : zAt P (.conv k' x') f H K = xAt (aH (.conv k' x') f H) K := Eq.trans rfl rfl
theorem TP {sz' : Nat} {x' : X} : zAt P (.box sz' x') f H K = xAt (aH (.box sz' x') f H) K := Eq.trans rfl rfl
theorem KT {sz' : Nat} {z' : AV} : zAt P (.alloc sz' z') f H K = xAt (aH (.alloc sz' z') f H) K := Eq.trans rfl rfl
theorem KU {z' : List AV} {parts' : List (Nat × Nat × X)} : zAt P (.build z' parts') f H K = xAt (aH (.build z' parts') f H) K := Eq.trans rfl rfl
theorem TQ {sz' : Nat} {len' : Nat} {z' : AV} {parts' : List (Nat × X)} : zAt P (.bsl sz' len' z' parts') f H K = xAt (aH (.bsl sz' len' z' parts') f H) K := Eq.trans rfl rfl
theorem QK {sz' : Nat} {len' : Nat} {z' : AV} {parts' : List (Nat × X)} : zAt P (.bslz sz' len' z' parts') f H K = xAt (aH (.bslz sz' len' z' parts') f H) K := Eq.trans rfl rfl
theorem QL {ag' : Bool} {sz' : Nat} {x' : X} : zAt P (.load ag' sz' x') f H K = xAt (aH (.load ag' sz' x') f H) K := Eq.trans rfl rfl
theorem KV {sz' : Nat} {a' : X} {x' : X} : zAt P (.store sz' a' x') f H K = xAt (aH (.store sz' a' x') f H) K := Eq.trans rfl rfl
theorem KX {off' : Nat} {x' : X} : zAt P (.faddr off' x') f H K = xAt (aH (.faddr off' x') f H) K := Eq.trans rfl rfl
theorem KY {ag' : Bool} {sz' : Nat} {off' : Nat} {x' : X} : zAt P (.field ag' sz' off' x') f H K = xAt (aH (.field ag' sz' off' x') f H) K := Eq.trans rfl rfl
theorem KZ {sz' : Nat} {x' : X} {i' : X} : zAt P (.iaddr sz' x' i') f H K = xAt (aH (.iaddr sz' x' i') f H) K := Eq.trans rfl rfl
theorem QM {x' : X} {i' : X} : zAt P (.sidx x' i') f H K = xAt (aH (.sidx x' i') f H) K := Eq.trans rfl rfl
theorem LA {sz' : Nat} {x' : X} {lo' : Option X} {hi' : Option X} {mx' : Option X} : zAt P (.slice sz' x' lo' hi' mx') f H K = xAt (aH (.slice sz' x' lo' hi' mx') f H) K := Eq.trans rfl rfl
theorem FW {x' : X} {lo' : Option X} {hi' : Option X} : zAt P (.sslice x' lo' hi') f H K = xAt (aH (.sslice x' lo' hi') f H) K := Eq.trans rfl rfl
theorem TR {x' : X} {i' : Nat} : zAt P (.ext x' i') f H K = xAt (aH (.ext x' i') f H) K := Eq.trans rfl rfl
theorem QO {x' : X} : zAt P (.nilc x') f H K = xAt (aH (.nilc x') f H) K := Eq.trans rfl rfl
theorem TS {f' : FuncId} {first' : List X} {captured' : List X} : zAt P (.mkf f' first' captured') f H K = xAt (aH (.mkf f' first' captured') f H) K := Eq.trans rfl rfl
theorem TT {t' : TypeId} {x' : X} : zAt P (.mki t' x') f H K = xAt (aH (.mki t' x') f H) K := Eq.trans rfl rfl
theorem TU {x' : X} : zAt P (.len x') f H K = xAt (aH (.len x') f H) K := Eq.trans rfl rfl
theorem QP {x' : X} : zAt P (.slen x') f H K = xAt (aH (.slen x') f H) K := Eq.trans rfl rfl
theorem WD {x' : X} {xs' : List X} : zAt P (.mx x' xs') f H K = xAt (aH (.mx x' xs') f H) K := Eq.trans rfl rfl
theorem WE {x' : X} {xs' : List X} : zAt P (.mn x' xs') f H K = xAt (aH (.mn x' xs') f H) K := Eq.trans rfl rfl
theorem TV {sz' : Nat} {bytes' : Nat} {s' : X} {x' : X} : zAt P (.app sz' bytes' s' x') f H K = xAt (aH (.app sz' bytes' s' x') f H) K := Eq.trans rfl rfl
theorem TW {sz' : Nat} {bytes' : Nat} {z' : AV} {l' : X} {c' : X} : zAt P (.mks sz' bytes' z' l' c') f H K = xAt (aH (.mks sz' bytes' z' l' c') f H) K := Eq.trans rfl rfl
theorem TX {x' : X} : zAt P (.cap x') f H K = xAt (aH (.cap x') f H) K := Eq.trans rfl rfl
theorem QR {sz' : Nat} {bytes' : Nat} {z' : AV} {s' : X} {x' : X} : zAt P (.appz sz' bytes' z' s' x') f H K = xAt (aH (.appz sz' bytes' z' s' x') f H) K := Eq.trans rfl rfl
theorem TY {sz' : Nat} {z' : AV} {x' : X} : zAt P (.clr sz' z' x') f H K = xAt (aH (.clr sz' z' x') f H) K := Eq.trans rfl rfl
end
end
section
variable {P : Program} {Q : AE → AF → AH → Prop} {f : AF} {H : AH}
theorem wS : AC.skip.wp P Q f H = Q .normal f H := Eq.trans rfl rfl
theorem wO {l : List AOp} : (AC.ops l).wp P Q f H = dJ P l (Q .normal) f H := Eq.trans rfl rfl
theorem wQ {a b : AC} : (AC.seq a b).wp P Q f H = a.wp P (qE (b.wp P Q) Q) f H := Eq.trans rfl rfl
theorem wC {x : X} {a b : AC} : (AC.cond x a b).wp P Q f H = cAt P (ev f x) a b Q f H := by
  unfold cAt
  simp only [AC.wp]
  generalize ev f x = v
  cases v with
  | bool c => cases c <;> simp
  | _ => rfl
theorem wB {i : Nat} {a : AC} : (AC.block i a).wp P Q f H = a.wp P (cU i Q) f H := Eq.trans rfl rfl
theorem wE {i : Nat} : (AC.exit i).wp P Q f H = Q (.exit i) f H := Eq.trans rfl rfl
theorem wR : AC.ret.wp P Q f H = Q .ret f H := Eq.trans rfl rfl
section
variable {a b : AC}
theorem cT : cAt P (.bool true) a b Q f H = a.wp P Q f H := by simp [cAt]
theorem cF : cAt P (.bool false) a b Q f H = b.wp P Q f H := by simp [cAt]
theorem cD {p : Prop} [Decidable p] : cAt P (.bool (decide p)) a b Q f H = if p then a.wp P Q f H else b.wp P Q f H := by simp [cAt]
theorem cND {p : Prop} [Decidable p] : cAt P (.bool !decide p) a b Q f H = if p then b.wp P Q f H else a.wp P Q f H := by by_cases h : p <;> simp [cAt, h]
theorem cL {x y : List UInt8} : cAt P (.bool (Op.bytesLess x y)) a b Q f H = if Op.bytesLess x y = true then a.wp P Q f H else b.wp P Q f H := rfl
theorem cNL {x y : List UInt8} : cAt P (.bool !Op.bytesLess x y) a b Q f H = if Op.bytesLess x y = true then b.wp P Q f H else a.wp P Q f H := by cases h : Op.bytesLess x y <;> simp [cAt]
theorem cEq {x y : List UInt8} : cAt P (.bool (x == y)) a b Q f H = if x = y then a.wp P Q f H else b.wp P Q f H := by simp [cAt]
end
theorem tN {a : AF → AH → Prop} : qE a Q .normal f H = a f H := Eq.trans rfl rfl
theorem tE {a : AF → AH → Prop} {i : Nat} : qE a Q (.exit i) f H = Q (.exit i) f H := Eq.trans rfl rfl
theorem tR {a : AF → AH → Prop} : qE a Q .ret f H = Q .ret f H := Eq.trans rfl rfl
theorem bN {i : Nat} : cU i Q .normal f H = Q .normal f H := Eq.trans rfl rfl
theorem bR {i : Nat} : cU i Q .ret f H = Q .ret f H := Eq.trans rfl rfl
theorem bE {i : Nat} : cU i Q (.exit i) f H = Q .normal f H := by simp [cU]
theorem bX {i j : Nat} (h : ¬ j = i) : cU i Q (.exit j) f H = Q (.exit j) f H := by simp [cU, h]
end
theorem pS {p : Prop} [Decidable p] {A B : Prop} (h : p → A) (g : ¬ p → B) : if p then A else B := by split <;> rename_i c; exact h c; exact g c
theorem evT {f : AF} {n : Nat} : ev f (.t n) = f n := Eq.trans rfl rfl
theorem evV {f : AF} {a : AV} : ev f (.v a) = a := Eq.trans rfl rfl
theorem pE {f : AF} {k : Nat} {v : AV} : put f (some k) v k = v := by simp [put]
theorem pN {f : AF} {k s : Nat} {v : AV} (h : ¬ s = k) : put f (some k) v s = f s := by simp [put, h]
theorem p0 {f : AF} {s : Nat} {v : AV} : put f none v s = f s := Eq.trans rfl rfl
theorem TZ {H : AH} {sz : Nat} {es : List AV} {ex : Bool} : fresh H sz es ex = (.ref sz H.length 0 es.length es.length ex, H ++ [.live sz es]) := Eq.trans rfl rfl
theorem QS {f : AF} {es : List AV} : putp f es [] = es := Eq.trans rfl rfl
theorem LB {f : AF} {es : List AV} {i : Nat} {x : X} {r : List (Nat × X)} : putp f es ((i, x) :: r) = putp f (es.set i (ev f x)) r := Eq.trans rfl rfl
theorem QT {f : AF} {cs : List AV} : fillc f cs [] = some cs := Eq.trans rfl rfl
theorem LC {f : AF} {cs : List AV} {off sz : Nat} {x : X} {r : List (Nat × Nat × X)} : fillc f cs ((off, sz, x) :: r) = if okc (ev f x) = true ∧ (cells (ev f x)).length = sz ∧ off + sz ≤ cs.length then fillc f (putl cs off (cells (ev f x))) r else none := Eq.trans rfl rfl
theorem zl0 {z : AV} : cQ 0 z = [] := rfl
theorem zl1 {z : AV} : cQ 1 z = [z] := rfl
theorem zl2 {z : AV} : cQ 2 z = [z, z] := rfl
theorem zl3 {z : AV} : cQ 3 z = [z, z, z] := rfl
theorem zl4 {z : AV} : cQ 4 z = [z, z, z, z] := rfl
theorem aN {H H' J : AH} (h : H <+: H') : H <+: H' ++ J := h.trans (List.prefix_append _ _)
theorem aO {sz : Nat} {v : AV} {H : AH} {es : List AV} {i : Nat} {e : AV} (h : elems sz v H = some es) (hi : es[i]? = some e) {H2 : AH} (hp : H <+: H2) (ag : Bool) (s k : Nat) : cG ag s (ptk v i k) H2 = part ag s k e := zT (bJ h hp) hi ag s k
theorem aA (sz t i k : Nat) (x : AV) (H : AH) : dS sz (.ptr t i k) x H = (obj? H t).bind fun o => (o.2[i]?).bind fun e =>
      if (cells x).length = sz ∧ k + sz ≤ (cells e).length ∧ fI (cells x) = true then some (H.set t (.live o.1 (o.2.set i (kK e k (cells x))))) else none := rfl
theorem sQ {H : AH} {t : Nat} {o o' : aR} (h : t = H.length) : List.set (H ++ [o]) t o' = H ++ [o'] := by rw [h, List.set_append_right _ _ (Nat.le_refl _), Nat.sub_self]; rfl
theorem LD {H : AH} {t : Nat} {o o' : aR} (h : t < H.length) : List.set (H ++ [o]) t o' = List.set H t o' ++ [o] := List.set_append_left _ _ h
theorem FY (cs : List AV) (k : Nat) (xs : List AV) : kK (.agg cs) k xs = .agg (putl cs k xs) := rfl
theorem aE {n : Int} (h1 : -9223372036854775808 ≤ n) (h2 : n < 9223372036854775808) : IntKind.i64.wrap n = n := by
  unfold IntKind.wrap
  have hb : IntKind.i64.bits = 64 := rfl
  have hs : IntKind.i64.signed = true := rfl
  simp only [hb, hs, Bool.true_and]
  have e1 : (2 : Int) ^ 64 = 18446744073709551616 := by decide
  have e2 : (2 : Int) ^ (64 - 1) = 9223372036854775808 := by decide
  rw [e1, e2]
  by_cases h : 0 ≤ n
  · have : n % 18446744073709551616 = n := by omega
    rw [this, if_neg (by simp; omega)]
  · have : n % 18446744073709551616 = n + 18446744073709551616 := by omega
    rw [this, if_pos (by simp; omega)]
    omega
theorem aG {P : Program} {hh : Nat → Bool} {g : FuncId} {F : AFn} (hc : iY P hh g = some F) {args : List AV} {H : AH} {v : AV} (hv : ∀ n, cl n v = true) (hn : args.length ≤ F.n) (h : F.body.wp P (KG F.res fun r H' => H <+: H' ∧ r = v) (kW args) H) : aC P g args H fun r H' => r = v ∧ H' = H :=
  (aC.gc (R := fun x _ => x = v) ((aU hc hn h).mono fun x H' ⟨hp, e⟩ => ⟨hp, by rw [e]; exact hv _, e⟩)).mono fun x H' ⟨e, _, e2⟩ => ⟨e2, e⟩
theorem aC.look {P : Program} {g : FuncId} {args : List AV} {H : AH} {v : AV} {R : AV → AH → Prop} (h : aC P g args H fun x H' => x = v ∧ H' = H) (hr : R v H) : aC P g args H R := h.mono fun x H' ⟨a, b⟩ => by rw [a, b]; exact hr
theorem gA (ag : Bool) (sz s i k : Nat) (l : List AV) (H : AH) : cG ag s (.lptr sz l i k) H = (l[i]?).bind fun e => part ag s k e := rfl
theorem sR (off sz i k : Nat) (l : List AV) : mL off (.lptr sz l i k) = some (.lptr sz l i (k + off)) := rfl
theorem AG (sz : Nat) (l : List AV) (ex : Bool) : cZ (.list sz l ex) = some l.length := rfl
theorem FZ (sz t off n c : Nat) (ex : Bool) : cZ (.ref sz t off n c ex) = some n := rfl
theorem AJ : cZ .nils = some 0 := rfl
theorem wV (sz : Nat) (l : List AV) (ex : Bool) (H : AH) : elems sz (.list sz l ex) H = some l := by simp [elems]
theorem wW (sz : Nat) (H : AH) : elems sz .nils H = some [] := rfl
theorem WF (n : Nat) : ((no_index (OfNat.ofNat n) : Nat) : Int) = OfNat.ofNat n := Eq.trans rfl rfl
theorem WG (a b : Nat) : ((a + b : Nat) : Int) = (a : Int) + (b : Int) := Int.natCast_add a b
attribute [push_cast high] WF WG
attribute [push_cast] PZ TJ QA TZ QS LB QT LC zl0 zl1 zl2 zl3 zl4 okc aun uL IQ TB TC yH yI mA SN ite_not AV.int.injEq AV.bool.injEq AV.str.injEq beq_self_eq_true kW FE List.getD_cons_zero List.getD_cons_succ List.map_cons List.map_nil List.nil_append List.append_nil List.cons_append Option.map_some Option.bind_some ne_eq not_true_eq_false not_false_eq_true one true_and and_true true_implies implies_true Bool.false_eq_true false_implies decide_eq_true_eq decide_eq_false_iff_not Bool.not_eq_true Bool.true_eq_false zU fI List.all_cons List.all_nil FK zW FL zX zZ FM FN AA zY KJ FO List.length_cons List.length_nil Bool.and_true and_self wU sR gA List.length_append wP wT List.getElem?_cons_zero List.getElem?_cons_succ Nat.zero_add sQ LD FY putl List.set_cons_zero List.set_cons_succ List.drop_zero List.take_succ_cons List.take_zero List.drop_succ_cons Nat.le_refl fO gT Nat.lt_add_one Nat.add_lt_add_iff_left Bool.and_self beq_iff_eq bne_iff_ne beq_eq_false_iff_ne bne_eq_false_iff_eq AG FZ AJ wV wW decide_true decide_false Bool.not_true Bool.not_false bne_self_eq_false Bool.not_eq_true' Bool.not_eq_false' Bool.not_not KG OW KL OX OY OZ PA TG KM PB FP FQ PC KN KO FR FS FT FU KP FV AB PD KQ PE PF PG KR TH TI PH PI PJ KS PK PN PO PP PQ PR PT PU QB QC QD QE QG QH PV PW PX PY JF AD TK QI TL TM TN TO WC QJ TP KT KU TQ QK QL KV KX KY KZ QM LA FW TR QO TS TT TU QP WD WE TV TW TX QR TY oN oO oU oM oH oG oQc oQv oQa kF kT gU gTT gTF gFT gFF xS vF vY nS nU zC zV zN wS wO wQ wC wB wE wR cT cF cD cND cL cNL cEq tN tE tR bN bR bE bX evT evV pE pN p0
end Go.Eng
end
section
set_option linter.unusedVariables false
set_option linter.unusedSimpArgs false
namespace Go.Eng
open Go
theorem bZ.nils (H : AH) (sz : Nat) : bZ H .nils H (.list sz [] false) := (Frz.nils H sz).weak
theorem bZ.list (H : AH) (sz : Nat) (l : List AV) (ex : Bool) : bZ H (.list sz l ex) H (.list sz l false) := fun K w cv h r => by
  refine ⟨K, Ext.refl K H, h, ?_⟩
  cases r with
  | list0 => exact .list0 (fun h => by cases h)
  | list hb hl hc he hn hs hr => exact .list hb hl hc (fun h => by cases h) hn hs hr
theorem bZ.tup {H H' : AH} {vs : List AV} {i : Nat} {v v' : AV} (h : bZ H v H' v') (hi : vs[i]? = some v) : bZ H (.tup vs) H' (.tup (vs.set i v')) := fun K w cv hr r => by
  cases r with
  | tup hl hrr =>
    obtain ⟨K', e1, e2, e3⟩ := h K w _ hr (hrr _ _ hi)
    refine ⟨K', e1, e2, .tup (by simpa using hl) fun j x hx => ?_⟩
    rw [List.getElem?_set] at hx
    split at hx
    · rename_i e
      split at hx
      · cases hx; rw [← e]; exact e3
      · cases hx
    · exact (hrr _ _ hx).mono e1.le
theorem bZ.agg {H H' : AH} {vs : List AV} {i : Nat} {v v' : AV} (h : bZ H v H' v') (hi : vs[i]? = some v) : bZ H (.agg vs) H' (.agg (vs.set i v')) := fun K w cv hr r => by
  cases r with
  | agg hl hrr =>
    obtain ⟨K', e1, e2, e3⟩ := h K w _ hr (hrr _ _ hi)
    refine ⟨K', e1, e2, .agg (by simpa using hl) fun j x hx => ?_⟩
    rw [List.getElem?_set] at hx
    split at hx
    · rename_i e
      split at hx
      · cases hx; rw [← e]; exact e3
      · cases hx
    · exact (hrr _ _ hx).mono e1.le
theorem Own.weak {H0 H : AH} {sz : Nat} {v : AV} {l : List AV} (h : Own H0 H sz v l) (hp : H0 <+: H) : ∃ H', bZ H v H' (.list sz l false) ∧ H0 <+: H' := by
  obtain ⟨H', a, b⟩ := h.frz hp
  exact ⟨H', a.weak, b⟩
theorem Own.xapp {H0 H : AH} {sz bytes : Nat} {v x : AV} {l xs : List AV} (h : Own H0 H sz v l) (hp : H0 <+: H) (hx : elems sz x H = some xs) (hb : (l.length + xs.length) * bytes ≤ 140737488355328) {K : AV → AH → Prop} (hk : ∀ v' H', Own H0 H' sz v' (l ++ xs) → H0 <+: H' → K v' H') : xAt (mM sz bytes v x H) K := by
  by_cases hne : xs = []
  · subst hne
    have he : elems sz v H = some l := by
      rcases h with ⟨rfl, rfl⟩ | ⟨t, ex, ht, rfl, ho⟩
      · rfl
      · simp [elems, ho]
    have : mM sz bytes v x H = some (v, H) := by simp [mM, hx, he]
    rw [this]
    exact hk v H (by simpa using h) hp
  · obtain ⟨v', H', h1, h2, h3⟩ := h.app hp hx hne hb
    rw [h1]
    exact hk v' H' h2 h3
theorem Own.mono {H0 H J : AH} {sz : Nat} {v : AV} {l : List AV} (h : Own H0 H sz v l) : Own H0 (H ++ J) sz v l := by
  rcases h with h | ⟨t, ex, a, b, c⟩
  · exact .inl h
  · exact .inr ⟨t, ex, a, b, bB (List.prefix_append _ _) c⟩
theorem aC.pre {P : Program} {g : FuncId} {args args' : List AV} {H H' : AH} {R : AV → AH → Prop} (hw : bZ H (.tup args) H' (.tup args')) (h : aC P g args' H' R) : aC P g args H R :=
  ⟨h.1, fun K w cargs a b => by
    obtain ⟨b1, b2⟩ := RelL.toD b
    obtain ⟨K', e1, e2, e3⟩ := hw K w (.tuple cargs) a (.tup b1 b2)
    cases e3 with
    | tup hl hr =>
      refine (h.2 K' w cargs e2 (RelL.ofD hl hr)).mono fun e w' ⟨v, K2, H2, r, h1, h2, h3, h4, h5⟩ => ⟨v, K2, H2, r, h1, e1.trans h2, h3, h4, h5⟩⟩
theorem aW {P : Program} {hh : Nat → Bool} {g : FuncId} {F : AFn} (hc : iY P hh g = some F) {args : List AV} {H : AH} {v : AV} (hv : ∀ n, cl n v = true) (hn : args.length ≤ F.n) (h : F.body.wp P (KG F.res fun r H' => ∃ H2, bZ H' r H2 v ∧ H <+: H2) (kW args) H) : aC P g args H fun r H' => r = v ∧ H' = H :=
  (aC.gc (R := fun x _ => x = v) (((aU hc hn h).weak (R' := fun r H' => H <+: H' ∧ r = v) fun r H' ⟨H2, h1, h2⟩ => ⟨v, H2, h1, h2, rfl⟩).mono fun x H' ⟨hp, e⟩ => ⟨hp, by rw [e]; exact hv _, e⟩)).mono fun x H' ⟨e, _, e2⟩ => ⟨e2, e⟩
end Go.Eng
end
section
namespace Go.Eng
open Go Go.Sort
set_option linter.unusedSimpArgs false
set_option linter.unusedVariables false
set_option linter.unusedSectionVars false
set_option maxRecDepth 10000
section
variable {β : Type} [Inhabited β]
def SH (enc : β → AV) (sz t : Nat) (H : AH) (d : Array β) : AH := List.set H t (.live sz (d.toList.map enc))
structure cY (P : Program) (enc : β → AV) (c : β → β → Int) (sz : Nat) (ag : Bool) (k : FuncId) (as0 bs : List AV) : Prop where
  ld : ∀ x, part ag sz 0 (enc x) = some (enc x)
  pc : ∀ x y, kK (enc x) 0 (cells (enc y)) = enc y
  len : ∀ x, (cells (enc x)).length = sz
  sc : ∀ x, fI (cells (enc x)) = true
  cmp : ∀ x y H, aC P k (as0 ++ [enc x, enc y] ++ bs) H fun r H' => r = .int .i64 (c x y) ∧ H' = H
def ltC (c : β → β → Int) (x y : β) : Bool := decide (c x y < 0)
variable {enc : β → AV} {sz t : Nat} {H : AH} {d : Array β}
theorem gJ : (SH enc sz t H d).length = H.length := by simp [SH]
theorem JG (h : t < H.length) : obj? (SH enc sz t H d) t = some (sz, d.toList.map enc) := by
  unfold SH obj?; rw [List.getElem?_set_self h]
theorem AK {es : List β} (h : obj? H t = some (sz, es.map enc)) : SH enc sz t H es.toArray = H := by
  unfold SH
  have := obj?_some h
  apply List.ext_getElem?
  intro i
  rw [List.getElem?_set]
  by_cases e : t = i
  · subst e; rw [if_pos rfl, if_pos (List.getElem?_eq_some_iff.1 this).1, this]
  · rw [if_neg e]
theorem aP {n cp i : Nat} {ex : Bool} {κ : IntKind} {z : Int} (hz : z = i) (hi : i < n) : aF sz (.ref sz t 0 n cp ex) (.int κ z) = some (.ptr t i 0) := by
  subst hz; simp [aF, nat?, hi]
theorem VW {i : Nat} (hi : i < d.size) : (d.toList.map enc)[i]? = some (enc d[i]!) := by
  rw [List.getElem?_map, Array.getElem?_toList, Array.getElem?_eq_getElem hi, getElem!_pos d i hi]; rfl
variable {P : Program} {c : β → β → Int} {ag : Bool} {k : FuncId} {as0 bs : List AV}
theorem cY.load (E : cY P enc c sz ag k as0 bs) (h : t < H.length) {i : Nat} (hi : i < d.size) : cG ag sz (.ptr t i 0) (SH enc sz t H d) = some (enc d[i]!) := by
  simp only [cG, JG h, Option.bind_some, VW hi, E.ld]
theorem cY.store (E : cY P enc c sz ag k as0 bs) (h : t < H.length) {i : Nat} (hi : i < d.size) (x : β) : dS sz (.ptr t i 0) (enc x) (SH enc sz t H d) = some (SH enc sz t H (d.setIfInBounds i x)) := by
  simp only [dS, JG h, Option.bind_some, VW hi]
  rw [if_pos ⟨E.len x, by rw [E.len]; omega, E.sc x⟩, E.pc]
  unfold SH
  rw [List.set_set, ← List.map_set]
  congr 2
  simp
theorem cY.swap (E : cY P enc c sz ag k as0 bs) (h : t < H.length) {i j : Nat} (hi : i < d.size) (hj : j < d.size) :
    dS sz (.ptr t i 0) (enc d[j]!) (SH enc sz t H d) = some (SH enc sz t H (d.setIfInBounds i d[j]!)) ∧ dS sz (.ptr t j 0) (enc d[i]!) (SH enc sz t H (d.setIfInBounds i d[j]!)) = some (SH enc sz t H (swp d i j)) :=
  ⟨E.store h hi _, by rw [E.store h (by simpa using hj)]; rfl⟩
theorem uY {x y : β} : ltC c x y = true ↔ c x y < 0 := by simp [ltC]
theorem iC {x y : β} : ltC c x y = false ↔ ¬ c x y < 0 := by simp [ltC]
end
theorem aX {z : Int} {n : Nat} (hz : z = n) (hn : n < 9223372036854775808) : IntKind.i64.wrap z = n := by rw [aE (by omega) (by omega), hz]
theorem nN {β : Type} [Inhabited β] (lt : β → β → Bool) {a j : Nat} (h : j ≤ a) (d : Array β) : insInner lt a j d = d := by
  cases j with
  | zero => rfl
  | succ j => unfold insInner; rw [if_neg (by simp; intro h2; omega)]
def JH (sz : Nat) (ag : Bool) : AFn := ⟨53, 4, [], (.seq (.ops [oo 10 (.mov (.t 1)), oo 11 (.bin .add (.t 10) (.v (.int .i64 1))), oo 8 (.mov (.t 11))]) (.block 0 (.loop (.seq (.seq (.ops [oo 12 (.mov (.t 8)), oo 13 (.mov (.t 2)), oo 14 (.bin .lss (.t 12) (.t 13))]) (.cond (.t 14) .skip (.exit 0))) (.seq (.block 1 (.seq (.ops [oo 17 (.mov (.t 8)), oo 9 (.mov (.t 17))]) (.block 2 (.loop (.seq (.seq (.ops [oo 53 (.mov (.t 9)), oo 54 (.mov (.t 1)), oo 55 (.bin .gtr (.t 53) (.t 54)), oo 56 (.mov (.t 55)), og 57 56 true (.mov (.t 3)), og 58 56 true (.mov (.t 0)), og 59 56 true (.mov (.t 9)), og 60 56 true (.iaddr sz (.t 58) (.t 59)), og 61 56 true (.load ag sz (.t 60)), og 62 56 true (.mov (.t 0)), og 63 56 true (.mov (.t 9)), og 64 56 true (.bin .sub (.t 63) (.v (.int .i64 1))), og 65 56 true (.iaddr sz (.t 62) (.t 64)), og 66 56 true (.load ag sz (.t 65)), og 67 56 true (.callv (.t 57) [(.t 61), (.t 66)]), og 68 56 true (.bin .lss (.t 67) (.v (.int .i64 0))), oo 69 (.pick (.t 56) (.t 68) (.v (.bool false))), oo 18 (.mov (.t 53)), oo 19 (.mov (.t 54)), oo 20 (.mov (.t 55)), oo 21 (.mov (.t 56)), oo 22 (.mov (.t 57)), oo 23 (.mov (.t 58)), oo 24 (.mov (.t 59)), oo 25 (.mov (.t 60)), oo 26 (.mov (.t 61)), oo 27 (.mov (.t 62)), oo 28 (.mov (.t 63)), oo 29 (.mov (.t 64)), oo 30 (.mov (.t 65)), oo 31 (.mov (.t 66)), oo 32 (.mov (.t 67)), oo 33 (.mov (.t 68)), oo 34 (.mov (.t 69))]) (.cond (.t 34) .skip (.exit 2))) (.seq (.block 3 (.ops [oo 53 (.mov (.t 0)), oo 54 (.mov (.t 9)), oo 55 (.mov (.t 0)), oo 56 (.mov (.t 9)), oo 57 (.bin .sub (.t 56) (.v (.int .i64 1))), oo 58 (.mov (.t 0)), oo 59 (.mov (.t 9)), oo 60 (.bin .sub (.t 59) (.v (.int .i64 1))), oo 61 (.iaddr sz (.t 58) (.t 60)), oo 62 (.load ag sz (.t 61)), oo 63 (.mov (.t 0)), oo 64 (.mov (.t 9)), oo 65 (.iaddr sz (.t 63) (.t 64)), oo 66 (.load ag sz (.t 65)), oo 67 (.iaddr sz (.t 53) (.t 54)), oo 68 (.store sz (.t 67) (.t 62)), oo 69 (.iaddr sz (.t 55) (.t 57)), oo 70 (.store sz (.t 69) (.t 66)), oo 37 (.mov (.t 53)), oo 38 (.mov (.t 54)), oo 39 (.mov (.t 55)), oo 40 (.mov (.t 56)), oo 41 (.mov (.t 57)), oo 42 (.mov (.t 58)), oo 43 (.mov (.t 59)), oo 44 (.mov (.t 60)), oo 45 (.mov (.t 61)), oo 46 (.mov (.t 62)), oo 47 (.mov (.t 63)), oo 48 (.mov (.t 64)), oo 49 (.mov (.t 65)), oo 50 (.mov (.t 66)), oo 51 (.mov (.t 67)), oo 52 (.mov (.t 69))])) (.ops [oo 35 (.mov (.t 9)), oo 36 (.bin .sub (.t 35) (.v (.int .i64 1))), oo 9 (.mov (.t 36))]))))))) (.ops [oo 15 (.mov (.t 8)), oo 16 (.bin .add (.t 15) (.v (.int .i64 1))), oo 8 (.mov (.t 16))]))))))⟩
section
variable {β : Type} [Inhabited β] {enc : β → AV} {sz t : Nat} {H : AH} {P : Program} {c : β → β → Int} {ag : Bool} {k : FuncId} {as0 bs : List AV}
theorem nO {n : FuncId} (hc : aD P n = some (JH sz ag)) (E : cY P enc c sz ag k as0 bs) (h : t < H.length) (d : Array β) {m cp : Nat} {ex : Bool} (hm : m = d.size) (hs : m < 1099511627776) (a b : Nat) (ha : a < 1099511627776) (hb : b ≤ m) :
    aC P n [.ref sz t 0 m cp ex, .int .i64 a, .int .i64 b, .fn k as0 bs] (SH enc sz t H d) fun r H' => H' = SH enc sz t H (insertionSort (ltC c) d a b) := by
  refine aU hc (by simp [JH]) ?_
  unfold JH insertionSort
  simp only [push_cast, ↓reduceIte, Nat.reduceEqDiff, reduceCtorEq, Nat.reduceAdd, Nat.reduceLT, Nat.reduceLeDiff]
  refine aI (fun (s : Nat × Array β) f H' => s.2.size = m ∧ H' = SH enc sz t H s.2 ∧ s.1 < 1099511627777 ∧ f 0 = .ref sz t 0 m cp ex ∧ f 1 = .int .i64 a ∧ f 2 = .int .i64 b ∧ f 3 = .fn k as0 bs ∧ f 8 = .int .i64 s.1 ∧ insOuter (ltC c) a b s.1 s.2 = insOuter (ltC c) a b (a + 1) d) (fun s => b - s.1) (a + 1, d) ?_ ?_
  · refine ⟨hm.symm, rfl, by show a + 1 < _; omega, ?_⟩
    simp only [push_cast, ↓reduceIte, Nat.reduceEqDiff, reduceCtorEq, Nat.reduceAdd, Nat.reduceLT, Nat.reduceLeDiff, aX (show ((a : Int) + 1) = ((a + 1 : Nat) : Int) by omega) (by omega)]
  · rintro ⟨i, d1⟩ f H' ⟨s1, rfl, s2, e0, e1, e2, e3, e8, hr⟩
    dsimp only at s1 s2 e8 hr ⊢
    by_cases hi : i < b
    case neg =>
      have hi' : ¬ (i : Int) < b := by omega
      simp only [push_cast, ↓reduceIte, Nat.reduceEqDiff, reduceCtorEq, Nat.reduceAdd, Nat.reduceLT, Nat.reduceLeDiff, e0, e1, e2, e3, e8, hi']
      rw [← hr, insOuter, if_neg hi]
    have hi' : (i : Int) < b := by omega
    simp only [push_cast, ↓reduceIte, Nat.reduceEqDiff, reduceCtorEq, Nat.reduceAdd, Nat.reduceLT, Nat.reduceLeDiff, e0, e1, e2, e3, e8, hi']
    refine aI (fun (s : Nat × Array β) f H' => s.2.size = m ∧ H' = SH enc sz t H s.2 ∧ s.1 ≤ i ∧ f 0 = .ref sz t 0 m cp ex ∧ f 1 = .int .i64 a ∧ f 2 = .int .i64 b ∧ f 3 = .fn k as0 bs ∧ f 8 = .int .i64 i ∧ f 9 = .int .i64 s.1 ∧ insInner (ltC c) a s.1 s.2 = insInner (ltC c) a i d1) (fun s => s.1) (i, d1) ?_ ?_
    · refine ⟨s1, rfl, Nat.le_refl _, ?_⟩
      simp only [push_cast, ↓reduceIte, Nat.reduceEqDiff, reduceCtorEq, Nat.reduceAdd, Nat.reduceLT, Nat.reduceLeDiff, e0, e1, e2, e3, e8]
    · rintro ⟨j, d2⟩ f H' ⟨q1, rfl, q2, e0, e1, e2, e3, e8, e9, hq⟩
      dsimp only at q1 q2 e9 hq ⊢
      have fin : (insInner (ltC c) a j d2 = d2) → (∃ s' : Nat × Array β, (s'.2.size = m ∧ SH enc sz t H d2 = SH enc sz t H s'.2 ∧ s'.1 < 1099511627777 ∧ (i : Int) + 1 = s'.1 ∧ insOuter (ltC c) a b s'.1 s'.2 = insOuter (ltC c) a b (a + 1) d) ∧ b - s'.1 < b - i) := fun h0 => by
        refine ⟨(i + 1, d2), ⟨q1, rfl, by show i + 1 < _; omega, by simp, ?_⟩, by show b - (i + 1) < _; omega⟩
        rw [← hr]
        conv => rhs; unfold insOuter
        rw [if_pos hi, ← hq, h0]
      have wi : IntKind.i64.wrap ((i : Int) + 1) = i + 1 := aE (by omega) (by omega)
      by_cases hj : a < j
      case neg =>
        have hj' : ¬ (j : Int) > a := by omega
        simp only [push_cast, ↓reduceIte, Nat.reduceEqDiff, reduceCtorEq, Nat.reduceAdd, Nat.reduceLT, Nat.reduceLeDiff, e0, e1, e2, e3, e8, e9, hj', decide_false, wi]
        exact fin (nN _ (by omega) _)
      obtain ⟨j, rfl⟩ : ∃ p, j = p + 1 := ⟨j - 1, by omega⟩
      have hj' : ((j : Int) + 1) > a := by omega
      have w1 : IntKind.i64.wrap ((j : Int) + 1 - 1) = j := by rw [aE (by omega) (by omega)]; omega
      have i1 : aF sz (.ref sz t 0 m cp ex) (.int .i64 ((j : Int) + 1)) = some (.ptr t (j + 1) 0) := aP (by simp) (by omega)
      have i2 : aF sz (.ref sz t 0 m cp ex) (.int .i64 (j : Int)) = some (.ptr t j 0) := aP rfl (by omega)
      have l1 := E.load (d := d2) h (show j + 1 < d2.size by omega)
      have l2 := E.load (d := d2) h (show j < d2.size by omega)
      have st := E.swap (d := d2) h (show j + 1 < d2.size by omega) (show j < d2.size by omega)
      simp only [push_cast, ↓reduceIte, Nat.reduceEqDiff, reduceCtorEq, Nat.reduceAdd, Nat.reduceLT, Nat.reduceLeDiff, e0, e1, e2, e3, e8, e9, hj', decide_true, w1, i1, i2, l1, l2]
      refine aC.look (E.cmp d2[j + 1]! d2[j]! _) ?_
      simp only [push_cast, ↓reduceIte, Nat.reduceEqDiff, reduceCtorEq, Nat.reduceAdd, Nat.reduceLT, Nat.reduceLeDiff, st.1, st.2, e0, e1, e2, e3, e8, e9, w1, i1, i2, l1, l2, wi]
      refine pS (fun hlt => ?_) (fun hlt => ?_)
      · refine ⟨(j, swp d2 (j + 1) j), ⟨by simp [swp, q1], rfl, by show j ≤ i; omega, rfl, ?_⟩, by show j < j + 1; omega⟩
        rw [← hq]
        conv => rhs; unfold insInner
        rw [if_pos (by simp [ltC, hlt]; omega)]
      · refine fin ?_
        unfold insInner
        rw [if_neg (by simp [ltC]; intro _; omega)]
end
end Go.Eng
end
section
namespace Go.Eng.Stab
open Go.Sort
set_option linter.unusedSectionVars false
set_option linter.unusedSimpArgs false
set_option linter.unusedVariables false
variable {α : Type}
structure Ord (c : α → α → Int) : Prop where
  sw : ∀ x y, c y x = - c x y
  tr : ∀ x y z, c x y ≤ 0 → c y z ≤ 0 → c x z ≤ 0
variable {c : α → α → Int}
theorem Ord.refl (h : Ord c) (x : α) : c x x = 0 := by have := h.sw x x; omega
theorem Ord.le_lt (h : Ord c) {x y z : α} (h1 : c x y ≤ 0) (h2 : c y z < 0) : c x z < 0 := by
  have := h.tr z x y; have := h.sw x z; have := h.sw y z; omega
theorem Ord.lt_le (h : Ord c) {x y z : α} (h1 : c x y < 0) (h2 : c y z ≤ 0) : c x z < 0 := by
  have := h.tr y z x; have := h.sw x z; have := h.sw x y; omega
def Srt (c : α → α → Int) (l : List α) : Prop := l.Pairwise fun x y => c x y ≤ 0
def Keeps (c : α → α → Int) (x y : List α) : Prop := x.length = y.length ∧ ∀ z, x.filter (fun e => decide (c z e = 0)) = y.filter (fun e => decide (c z e = 0))
theorem Keeps.refl (x : List α) : Keeps c x x := ⟨rfl, fun _ => rfl⟩
theorem Keeps.symm {x y : List α} (h : Keeps c x y) : Keeps c y x := ⟨h.1.symm, fun z => (h.2 z).symm⟩
theorem Keeps.trans {x y z : List α} (h : Keeps c x y) (k : Keeps c y z) : Keeps c x z := ⟨h.1.trans k.1, fun e => (h.2 e).trans (k.2 e)⟩
theorem Keeps.app {x y x' y' : List α} (h : Keeps c x x') (k : Keeps c y y') : Keeps c (x ++ y) (x' ++ y') :=
  ⟨by rw [List.length_append, List.length_append, h.1, k.1], fun z => by rw [List.filter_append, List.filter_append, h.2, k.2]⟩
theorem Keeps.swap (x y : List α) (O : Ord c) (h : ∀ a ∈ x, ∀ b ∈ y, c b a < 0) : Keeps c (x ++ y) (y ++ x) := by
  refine ⟨by simp [Nat.add_comm], fun z => ?_⟩
  rw [List.filter_append, List.filter_append]
  by_cases hx : x.filter (fun e => decide (c z e = 0)) = []
  · rw [hx]; simp
  · have hy : y.filter (fun e => decide (c z e = 0)) = [] := by
      rw [List.filter_eq_nil_iff]
      intro b hb hz
      obtain ⟨a, ha⟩ := List.exists_mem_of_ne_nil _ hx
      rw [List.mem_filter] at ha
      have h1 := h a ha.1 b hb
      have h2 : c z a = 0 := of_decide_eq_true ha.2
      have h3 : c z b = 0 := of_decide_eq_true hz
      have h4 := O.le_lt (x := z) (y := b) (z := a) (by omega) h1
      omega
    rw [hy]; simp
theorem srt_app {x y : List α} : Srt c (x ++ y) ↔ Srt c x ∧ Srt c y ∧ ∀ a ∈ x, ∀ b ∈ y, c a b ≤ 0 := List.pairwise_append
theorem srt_nil : Srt c [] := List.Pairwise.nil
theorem srt_one (e : α) : Srt c [e] := List.pairwise_singleton _ _
theorem srt_get (O : Ord c) {l : List α} (h : Srt c l) {s t : Nat} {u v : α} (hst : s ≤ t) (hu : l[s]? = some u) (hv : l[t]? = some v) : c u v ≤ 0 := by
  obtain ⟨hs, rfl⟩ := List.getElem?_eq_some_iff.1 hu
  obtain ⟨ht, rfl⟩ := List.getElem?_eq_some_iff.1 hv
  rcases Nat.lt_or_ge s t with h1 | h1
  · exact List.pairwise_iff_getElem.1 h s t hs ht h1
  · have : s = t := by omega
    subst this
    rw [O.refl]; omega
def Mrg (c : α → α → Int) (x y z : List α) : Prop := Srt c z ∧ Keeps c (x ++ y) z
theorem Mrg.one_right (O : Ord c) {x1 x2 : List α} {e : α} (hs : Srt c (x1 ++ x2)) (h1 : ∀ a ∈ x1, c a e ≤ 0) (h2 : ∀ a ∈ x2, c e a < 0) : Mrg c (x1 ++ x2) [e] (x1 ++ e :: x2) := by
  obtain ⟨k1, k2, k3⟩ := srt_app.1 hs
  refine ⟨srt_app.2 ⟨k1, List.Pairwise.cons (fun a ha => by have := h2 a ha; omega) k2, fun a ha b hb => ?_⟩, ?_⟩
  · rcases List.mem_cons.1 hb with rfl | hb
    · exact h1 a ha
    · exact k3 a ha b hb
  · rw [List.append_assoc]
    exact Keeps.app (Keeps.refl x1) (Keeps.swap x2 [e] O (fun a ha b hb => by rw [List.mem_singleton.1 hb]; exact h2 a ha))
theorem Mrg.one_left (O : Ord c) {y1 y2 : List α} {e : α} (hs : Srt c (y1 ++ y2)) (h1 : ∀ a ∈ y1, c a e < 0) (h2 : ∀ a ∈ y2, c e a ≤ 0) : Mrg c [e] (y1 ++ y2) (y1 ++ e :: y2) := by
  obtain ⟨k1, k2, k3⟩ := srt_app.1 hs
  refine ⟨srt_app.2 ⟨k1, List.Pairwise.cons h2 k2, fun a ha b hb => ?_⟩, ?_⟩
  · rcases List.mem_cons.1 hb with rfl | hb
    · have := h1 a ha; omega
    · exact k3 a ha b hb
  · have := Keeps.app (Keeps.swap [e] y1 O (fun a ha b hb => by rw [List.mem_singleton.1 ha]; exact h1 b hb)) (Keeps.refl (c := c) y2)
    simpa using this
theorem Mrg.halves (O : Ord c) {x1 x2 y1 y2 z1 z2 : List α} (hx : Srt c (x1 ++ x2)) (hy : Srt c (y1 ++ y2)) (h21 : ∀ a ∈ x2, ∀ b ∈ y1, c b a < 0) (h12 : ∀ a ∈ x1, ∀ b ∈ y2, c a b ≤ 0)
    (m1 : Mrg c x1 y1 z1) (m2 : Mrg c x2 y2 z2) : Mrg c (x1 ++ x2) (y1 ++ y2) (z1 ++ z2) := by
  obtain ⟨a1, a2, a3⟩ := srt_app.1 hx
  obtain ⟨b1, b2, b3⟩ := srt_app.1 hy
  have mem : ∀ {x y z : List α}, Mrg c x y z → ∀ a ∈ z, a ∈ x ∨ a ∈ y := by
    intro x y z m a ha
    have h := m.2.2 a
    have : a ∈ z.filter (fun e => decide (c a e = 0)) := List.mem_filter.2 ⟨ha, decide_eq_true (O.refl a)⟩
    rw [← h, List.mem_filter] at this
    exact List.mem_append.1 this.1
  refine ⟨srt_app.2 ⟨m1.1, m2.1, fun a ha b hb => ?_⟩, ?_⟩
  · rcases mem m1 a ha with h1 | h1 <;> rcases mem m2 b hb with h2 | h2
    · exact a3 a h1 b h2
    · exact h12 a h1 b h2
    · have := h21 b h2 a h1; omega
    · exact b3 a h1 b h2
  · have e1 : Keeps c (x1 ++ x2 ++ (y1 ++ y2)) (x1 ++ (y1 ++ x2) ++ y2) := by
      have := Keeps.app (Keeps.app (Keeps.refl (c := c) x1) (Keeps.swap x2 y1 O h21)) (Keeps.refl (c := c) y2)
      simpa [List.append_assoc] using this
    refine e1.trans ?_
    have := Keeps.app m1.2 m2.2
    simpa [List.append_assoc] using this
theorem Mrg.nil_left {y : List α} (h : Srt c y) : Mrg c [] y y := ⟨h, Keeps.refl _⟩
theorem Mrg.nil_right {x : List α} (h : Srt c x) : Mrg c x [] x := ⟨h, by rw [List.append_nil]; exact Keeps.refl _⟩
section
variable [Inhabited α]
theorem LE (p q : List α) (x : α) : (p ++ x :: q).toArray[p.length]! = x := by simp
set_option linter.unnecessarySimpa false
theorem swp_list (p q r : List α) (x y : α) : swp (p ++ x :: (q ++ y :: r)).toArray p.length (p.length + 1 + q.length) = (p ++ y :: (q ++ x :: r)).toArray := by
  have h1 : (p ++ x :: (q ++ y :: r)).toArray[p.length]! = x := by simp
  have h2 : (p ++ x :: (q ++ y :: r)).toArray[p.length + 1 + q.length]! = y := by
    have := LE (p ++ x :: q) r y
    simpa [Nat.add_assoc, Nat.add_comm 1] using this
  unfold swp
  rw [h1, h2]
  apply Array.ext'
  rw [Array.toList_setIfInBounds, Array.toList_setIfInBounds]
  show ((p ++ x :: (q ++ y :: r)).set p.length y).set (p.length + 1 + q.length) x = p ++ y :: (q ++ x :: r)
  have e1 : (p ++ x :: (q ++ y :: r)).set p.length y = p ++ y :: (q ++ y :: r) := by simp
  have e2 : p ++ y :: (q ++ y :: r) = (p ++ y :: q) ++ y :: r := by simp
  have e3 : p.length + 1 + q.length = (p ++ y :: q).length := by simp; omega
  rw [e1, e2, e3]
  simp
theorem LF (p r : List α) (x y : α) : swp (p ++ x :: y :: r).toArray p.length (p.length + 1) = (p ++ y :: x :: r).toArray := swp_list p [] r x y
theorem swp_comm (d : Array α) (i j : Nat) (hi : i < d.size) (hj : j < d.size) : swp d i j = swp d j i := by
  apply Array.ext (by simp [size_swp])
  intro k h1 h2
  have a := swp_get d hi hj k
  have b := swp_get d hj hi k
  rw [getElem!_pos _ k h1] at a
  rw [getElem!_pos _ k h2] at b
  rw [a, b]
  by_cases e : k = j
  · by_cases f : k = i
    · rw [if_pos e, if_pos f, ← e, ← f]
    · rw [if_pos e, if_neg f, if_pos e]
  · by_cases f : k = i
    · rw [if_neg e, if_pos f, if_pos f]
    · rw [if_neg e, if_neg f, if_neg f, if_neg e]
theorem swp_adj' (p r : List α) (x y : α) : swp (p ++ x :: y :: r).toArray (p.length + 1) p.length = (p ++ y :: x :: r).toArray := by
  rw [swp_comm _ _ _ (by simp) (by simp), LF]
end
inductive Blk (c : α → α → Int) (n : Nat) : List α → Prop
  | last (l : List α) (hl : l.length ≤ n) (hs : Srt c l) : Blk c n l
  | cons (x l : List α) (hx : x.length = n) (hs : Srt c x) (h : Blk c n l) : Blk c n (x ++ l)
theorem Blk.whole {n : Nat} {l : List α} (h : Blk c n l) (hl : l.length ≤ n) : Srt c l := by
  cases h with
  | last _ _ hs => exact hs
  | cons x l hx hs h =>
    have : l = [] := by rw [List.length_append] at hl; exact List.length_eq_zero_iff.1 (by omega)
    subst this; simpa using hs
theorem Blk.split {n : Nat} {l : List α} (h : Blk c n l) (hl : n ≤ l.length) : ∃ x r, l = x ++ r ∧ x.length = n ∧ Srt c x ∧ Blk c n r := by
  cases h with
  | last _ h2 hs => exact ⟨l, [], by simp, by omega, hs, .last [] (by simp) srt_nil⟩
  | cons x r hx hs h => exact ⟨x, r, rfl, hx, hs, h⟩
inductive Full (c : α → α → Int) (n : Nat) : List α → Prop
  | nil : Full c n []
  | snoc (l x : List α) (h : Full c n l) (hx : x.length = n) (hs : Srt c x) : Full c n (l ++ x)
theorem Full.blk {n : Nat} {l : List α} (h : Full c n l) : ∀ r, Blk c n r → Blk c n (l ++ r) := by
  induction h with
  | nil => exact fun r hr => hr
  | snoc l x h hx hs ih => intro r hr; rw [List.append_assoc]; exact ih _ (.cons x r hx hs hr)
theorem wX (x : α) {l z : List α} (h : Keeps c l z) : Keeps c (x :: l) (x :: z) :=
  ⟨by simp [h.1], fun e => by rw [List.filter_cons, List.filter_cons, h.2 e]⟩
theorem nP (O : Ord c) : ∀ {x y : List α}, Srt c x → Srt c y → Keeps c x y → x = y := by
  intro x
  induction x with
  | nil =>
    intro y _ _ h
    exact (List.eq_nil_of_length_eq_zero (by have := h.1; simpa using this.symm)).symm
  | cons a x ih =>
    intro y hx hy h
    cases y with
    | nil => have := h.1; simp at this
    | cons b y =>
      have hab : ∀ e ∈ (a :: x), c a e ≤ 0 := by
        intro e he
        rcases List.mem_cons.1 he with rfl | he
        · have := O.refl e; omega
        · exact (List.pairwise_cons.1 hx).1 e he
      have hba : ∀ e ∈ (b :: y), c b e ≤ 0 := by
        intro e he
        rcases List.mem_cons.1 he with rfl | he
        · have := O.refl e; omega
        · exact (List.pairwise_cons.1 hy).1 e he
      have hbx : b ∈ a :: x := by
        have h1 : b ∈ (b :: y).filter (fun e => decide (c b e = 0)) := List.mem_filter.2 ⟨List.mem_cons_self, by simp [O.refl]⟩
        rw [← h.2 b] at h1
        exact (List.mem_filter.1 h1).1
      have hay : a ∈ b :: y := by
        have h1 : a ∈ (a :: x).filter (fun e => decide (c a e = 0)) := List.mem_filter.2 ⟨List.mem_cons_self, by simp [O.refl]⟩
        rw [h.2 a] at h1
        exact (List.mem_filter.1 h1).1
      have e0 : c a b = 0 := by
        have h1 := hab b hbx
        have h2 := hba a hay
        have := O.sw a b
        omega
      have hf := h.2 a
      rw [List.filter_cons, List.filter_cons, if_pos (by simp [O.refl]), if_pos (by simp [e0])] at hf
      injection hf with h1 h2
      subst h1
      have hk : Keeps c x y := ⟨by have := h.1; simpa using this, fun e => by
        have := h.2 e
        rw [List.filter_cons, List.filter_cons] at this
        split at this
        · injection this
        · exact this⟩
      rw [ih (List.pairwise_cons.1 hx).2 (List.pairwise_cons.1 hy).2 hk]
def ins (c : α → α → Int) (x : α) : List α → List α
  | [] => [x]
  | y :: r => if c x y ≤ 0 then x :: y :: r else y :: ins c x r
def sortS (c : α → α → Int) : List α → List α
  | [] => []
  | x :: r => ins c x (sortS c r)
theorem AL (x : α) : ∀ (l : List α) (e : α), e ∈ ins c x l ↔ e = x ∨ e ∈ l := by
  intro l
  induction l with
  | nil => intro e; simp [ins]
  | cons y r ih =>
    intro e
    unfold ins
    split
    · simp
    · simp only [List.mem_cons, ih e]
      constructor
      · rintro (h | h | h) <;> simp [h]
      · rintro (h | h | h) <;> simp [h]
theorem LG (O : Ord c) (x : α) : ∀ {l : List α}, Srt c l → Srt c (ins c x l) := by
  intro l
  induction l with
  | nil => intro _; exact srt_one x
  | cons y r ih =>
    intro h
    unfold ins
    split
    · rename_i hle
      refine List.pairwise_cons.2 ⟨fun e he => ?_, h⟩
      rcases List.mem_cons.1 he with rfl | he
      · exact hle
      · exact O.tr _ _ _ hle ((List.pairwise_cons.1 h).1 e he)
    · rename_i hgt
      refine List.pairwise_cons.2 ⟨fun e he => ?_, ih (List.pairwise_cons.1 h).2⟩
      rcases (AL x r e).1 he with rfl | he
      · have := O.sw e y; omega
      · exact (List.pairwise_cons.1 h).1 e he
theorem AM (O : Ord c) (x : α) : ∀ (l : List α), Keeps c (x :: l) (ins c x l) := by
  intro l
  induction l with
  | nil => exact Keeps.refl _
  | cons y r ih =>
    unfold ins
    split
    · exact Keeps.refl _
    · rename_i hgt
      refine ⟨by have := ih.1; simp at this ⊢; omega, fun e => ?_⟩
      have h := ih.2 e
      rw [List.filter_cons] at h
      simp only [List.filter_cons]
      rw [← h]
      by_cases h1 : c e x = 0
      · have h2 : ¬ c e y = 0 := by
          intro h2
          have a := O.sw e x
          have := O.tr x e y (by omega) (by omega)
          omega
        simp [h1, h2]
      · simp [h1]
theorem sortS_srt (O : Ord c) : ∀ l : List α, Srt c (sortS c l)
  | [] => srt_nil
  | x :: r => LG O x (sortS_srt O r)
theorem eZ (O : Ord c) : ∀ l : List α, Keeps c l (sortS c l)
  | [] => Keeps.refl _
  | x :: r => (wX x (eZ O r)).trans (AM O x (sortS c r))
theorem sortS_unique (O : Ord c) {l z : List α} (hs : Srt c z) (hk : Keeps c l z) : z = sortS c l :=
  nP O hs (sortS_srt O l) (hk.symm.trans (eZ O l))
theorem sortS_mem : ∀ (l : List α) (e : α), e ∈ sortS c l ↔ e ∈ l
  | [], e => Iff.rfl
  | x :: r, e => by show e ∈ ins c x (sortS c r) ↔ _; rw [AL, sortS_mem r e, List.mem_cons]
theorem sortS_len (O : Ord c) (l : List α) : (sortS c l).length = l.length := (eZ O l).1.symm
theorem LI {β : Type} (f : β → α) (x : β) : ∀ l : List β, (ins (fun a b => c (f a) (f b)) x l).map f = ins c (f x) (l.map f) := by
  intro l
  induction l with
  | nil => rfl
  | cons y r ih =>
    unfold ins
    rw [List.map_cons]
    dsimp only
    split
    · rename_i h
      simp only [List.map_cons]
    · rename_i h
      simp only [List.map_cons, ih]
theorem sortS_map {β : Type} (f : β → α) : ∀ l : List β, (sortS (fun a b => c (f a) (f b)) l).map f = sortS c (l.map f) := by
  intro l
  induction l with
  | nil => rfl
  | cons x r ih =>
    show (ins _ x (sortS _ r)).map f = ins c (f x) (sortS c (r.map f))
    rw [LI, ih]
end Go.Eng.Stab
end
section
namespace Go.Eng
open Go Go.Sort
set_option linter.unusedSimpArgs false
set_option linter.unusedVariables false
set_option linter.unusedSectionVars false
set_option linter.unnecessarySimpa false
set_option maxRecDepth 10000
def JI (sz : Nat) (ag : Bool) : AFn := ⟨38, 5, [], (.seq (.ops [oo 10 (.mov (.v (.int .i64 0)))]) (.block 0 (.loop (.seq (.seq (.ops [oo 11 (.mov (.t 10)), oo 12 (.mov (.t 3)), oo 13 (.bin .lss (.t 11) (.t 12))]) (.cond (.t 13) .skip (.exit 0))) (.seq (.block 1 (.ops [oo 38 (.mov (.t 0)), oo 39 (.mov (.t 1)), oo 40 (.mov (.t 10)), oo 41 (.bin .add (.t 39) (.t 40)), oo 42 (.mov (.t 0)), oo 43 (.mov (.t 2)), oo 44 (.mov (.t 10)), oo 45 (.bin .add (.t 43) (.t 44)), oo 46 (.mov (.t 0)), oo 47 (.mov (.t 2)), oo 48 (.mov (.t 10)), oo 49 (.bin .add (.t 47) (.t 48)), oo 50 (.iaddr sz (.t 46) (.t 49)), oo 51 (.load ag sz (.t 50)), oo 52 (.mov (.t 0)), oo 53 (.mov (.t 1)), oo 54 (.mov (.t 10)), oo 55 (.bin .add (.t 53) (.t 54)), oo 56 (.iaddr sz (.t 52) (.t 55)), oo 57 (.load ag sz (.t 56)), oo 58 (.iaddr sz (.t 38) (.t 41)), oo 59 (.store sz (.t 58) (.t 51)), oo 60 (.iaddr sz (.t 42) (.t 45)), oo 61 (.store sz (.t 60) (.t 57)), oo 16 (.mov (.t 38)), oo 17 (.mov (.t 39)), oo 18 (.mov (.t 40)), oo 19 (.mov (.t 41)), oo 20 (.mov (.t 42)), oo 21 (.mov (.t 43)), oo 22 (.mov (.t 44)), oo 23 (.mov (.t 45)), oo 24 (.mov (.t 46)), oo 25 (.mov (.t 47)), oo 26 (.mov (.t 48)), oo 27 (.mov (.t 49)), oo 28 (.mov (.t 50)), oo 29 (.mov (.t 51)), oo 30 (.mov (.t 52)), oo 31 (.mov (.t 53)), oo 32 (.mov (.t 54)), oo 33 (.mov (.t 55)), oo 34 (.mov (.t 56)), oo 35 (.mov (.t 57)), oo 36 (.mov (.t 58)), oo 37 (.mov (.t 60))])) (.ops [oo 14 (.mov (.t 10)), oo 15 (.bin .add (.t 14) (.v (.int .i64 1))), oo 10 (.mov (.t 15))]))))))⟩
def AN (sz : Nat) (ag : Bool) (kw : Nat) : AC := (.block 0 (.loop (.seq (.seq (.ops [oo 18 (.mov (.t 10)), oo 19 (.mov (.t 11)), oo 20 (.bin .neq (.t 18) (.t 19))]) (.cond (.t 20) .skip (.exit 0))) (.block 1 (.seq (.ops [oo 21 (.mov (.t 10)), oo 22 (.mov (.t 11)), oo 23 (.bin .gtr (.t 21) (.t 22))]) (.cond (.t 23) (.seq (.ops [oo 24 (.mov (.t 0)), oo 25 (.mov (.t 2)), oo 26 (.mov (.t 10)), oo 27 (.bin .sub (.t 25) (.t 26)), oo 28 (.mov (.t 2)), oo 29 (.mov (.t 11)), oo 30 (.mov (.t 4)), oo 31 (.call kw [(.t 24), (.t 27), (.t 28), (.t 29), (.t 30)])]) (.ops [oo 32 (.mov (.t 10)), oo 33 (.mov (.t 11)), oo 34 (.bin .sub (.t 32) (.t 33)), oo 10 (.mov (.t 34))])) (.seq (.ops [oo 35 (.mov (.t 0)), oo 36 (.mov (.t 2)), oo 37 (.mov (.t 10)), oo 38 (.bin .sub (.t 36) (.t 37)), oo 39 (.mov (.t 2)), oo 40 (.mov (.t 11)), oo 41 (.bin .add (.t 39) (.t 40)), oo 42 (.mov (.t 10)), oo 43 (.bin .sub (.t 41) (.t 42)), oo 44 (.mov (.t 10)), oo 45 (.mov (.t 4)), oo 46 (.call kw [(.t 35), (.t 38), (.t 43), (.t 44), (.t 45)])]) (.ops [oo 47 (.mov (.t 11)), oo 48 (.mov (.t 10)), oo 49 (.bin .sub (.t 47) (.t 48)), oo 11 (.mov (.t 49))]))))))))
def LJ (sz : Nat) (ag : Bool) (kw : Nat) : AFn := ⟨58, 5, [], (.seq (.ops [oo 12 (.mov (.t 2)), oo 13 (.mov (.t 1)), oo 14 (.bin .sub (.t 12) (.t 13)), oo 10 (.mov (.t 14))]) (.seq (.ops [oo 15 (.mov (.t 3)), oo 16 (.mov (.t 2)), oo 17 (.bin .sub (.t 15) (.t 16)), oo 11 (.mov (.t 17))]) (.seq (AN sz ag kw) (.ops [oo 50 (.mov (.t 0)), oo 51 (.mov (.t 2)), oo 52 (.mov (.t 10)), oo 53 (.bin .sub (.t 51) (.t 52)), oo 54 (.mov (.t 2)), oo 55 (.mov (.t 10)), oo 56 (.mov (.t 4)), oo 57 (.call kw [(.t 50), (.t 53), (.t 54), (.t 55), (.t 56)])]))))⟩
section
variable {β : Type} [Inhabited β] {enc : β → AV} {sz t : Nat} {H : AH} {P : Program} {c : β → β → Int} {ag : Bool} {k : FuncId} {as0 bs : List AV}
def LH (enc : β → AV) (sz t : Nat) (H : AH) (l : List β) : AH := SH enc sz t H l.toArray
theorem LK {l : List β} (h : obj? H t = some (sz, l.map enc)) : LH enc sz t H l = H := AK h
theorem UA {l : List β} : LH enc sz t H l = List.set H t (.live sz (l.map enc)) := rfl
theorem iZ (p r : List β) (x : β) : (p ++ x :: r).toArray[p.length]! = x := by simp
theorem cY.two (E : cY P enc c sz ag k as0 bs) (h : t < H.length) (p q r : List β) (x y : β) :
    cG ag sz (.ptr t p.length 0) (LH enc sz t H (p ++ x :: (q ++ y :: r))) = some (enc x) ∧ cG ag sz (.ptr t (p.length + 1 + q.length) 0) (LH enc sz t H (p ++ x :: (q ++ y :: r))) = some (enc y) ∧
    ∃ H1, dS sz (.ptr t p.length 0) (enc y) (LH enc sz t H (p ++ x :: (q ++ y :: r))) = some H1 ∧ dS sz (.ptr t (p.length + 1 + q.length) 0) (enc x) H1 = some (LH enc sz t H (p ++ y :: (q ++ x :: r))) := by
  have hi : p.length < (p ++ x :: (q ++ y :: r)).toArray.size := by simp
  have hj : p.length + 1 + q.length < (p ++ x :: (q ++ y :: r)).toArray.size := by simp; omega
  have l1 := E.load (d := (p ++ x :: (q ++ y :: r)).toArray) h hi
  have l2 := E.load (d := (p ++ x :: (q ++ y :: r)).toArray) h hj
  have st := E.swap (d := (p ++ x :: (q ++ y :: r)).toArray) h hi hj
  have e1 : (p ++ x :: (q ++ y :: r)).toArray[p.length]! = x := iZ _ _ _
  have e2 : (p ++ x :: (q ++ y :: r)).toArray[p.length + 1 + q.length]! = y := by
    have := iZ (p ++ x :: q) r y
    simpa [Nat.add_assoc, Nat.add_comm 1] using this
  rw [e1] at l1
  rw [e2] at l2
  rw [e1, e2, Stab.swp_list] at st
  exact ⟨l1, l2, _, st.1, st.2⟩
theorem cY.owt (E : cY P enc c sz ag k as0 bs) (h : t < H.length) (p q r : List β) (x y : β) :
    ∃ H1, dS sz (.ptr t (p.length + 1 + q.length) 0) (enc x) (LH enc sz t H (p ++ x :: (q ++ y :: r))) = some H1 ∧ dS sz (.ptr t p.length 0) (enc y) H1 = some (LH enc sz t H (p ++ y :: (q ++ x :: r))) := by
  have hi : p.length < (p ++ x :: (q ++ y :: r)).toArray.size := by simp
  have hj : p.length + 1 + q.length < (p ++ x :: (q ++ y :: r)).toArray.size := by simp; omega
  have st := E.swap (d := (p ++ x :: (q ++ y :: r)).toArray) h hj hi
  have e1 : (p ++ x :: (q ++ y :: r)).toArray[p.length]! = x := iZ _ _ _
  have e2 : (p ++ x :: (q ++ y :: r)).toArray[p.length + 1 + q.length]! = y := by
    have := iZ (p ++ x :: q) r y
    simpa [Nat.add_assoc, Nat.add_comm 1] using this
  rw [e1, e2, Stab.swp_comm _ _ _ hj hi, Stab.swp_list] at st
  exact ⟨_, st.1, st.2⟩
theorem nQ {n : FuncId} (hc : aD P n = some (JI sz ag)) (E : cY P enc c sz ag k as0 bs) (h : t < H.length) (p u q v r : List β) {m cp : Nat} {ex : Bool} (hm : m = (p ++ u ++ q ++ v ++ r).length) (hs : m < 1099511627776) (huv : u.length = v.length) {a b l : Nat} (ha : a = p.length) (hb : b = (p ++ u ++ q).length) (hl : l = u.length) (g : AV) :
    aC P n [.ref sz t 0 m cp ex, .int .i64 a, .int .i64 b, .int .i64 l, g] (LH enc sz t H (p ++ u ++ q ++ v ++ r)) fun x H' => H' = LH enc sz t H (p ++ v ++ q ++ u ++ r) := by
  refine aU hc (by simp [JI]) ?_
  unfold JI
  simp only [push_cast, ↓reduceIte, Nat.reduceEqDiff, reduceCtorEq, Nat.reduceAdd, Nat.reduceLT, Nat.reduceLeDiff]
  refine aI (fun (s : List β × List β × List β × List β) f H' => u = s.1 ++ s.2.1 ∧ v = s.2.2.1 ++ s.2.2.2 ∧ s.1.length = s.2.2.1.length ∧ H' = LH enc sz t H (p ++ s.2.2.1 ++ s.2.1 ++ q ++ s.1 ++ s.2.2.2 ++ r) ∧ f 0 = .ref sz t 0 m cp ex ∧ f 1 = .int .i64 a ∧ f 2 = .int .i64 b ∧ f 3 = .int .i64 l ∧ f 10 = .int .i64 s.1.length) (fun s => s.2.1.length) ([], u, [], v) ?_ ?_
  · refine ⟨rfl, rfl, rfl, by simp, ?_⟩
    simp only [push_cast, ↓reduceIte, Nat.reduceEqDiff, reduceCtorEq, Nat.reduceAdd, Nat.reduceLT, Nat.reduceLeDiff]
  rintro ⟨u1, u2, v1, v2⟩ f H' ⟨h1, h2, h3, rfl, e0, e1, e2, e3, e10⟩
  dsimp only at h1 h2 h3 e10 ⊢
  have hlen : u1.length + u2.length = u.length := by rw [h1, List.length_append]
  have hlen2 : v1.length + v2.length = v.length := by rw [h2, List.length_append]
  simp only [List.length_append] at hm hb
  by_cases hlt : u1.length < l
  · have hlt' : (u1.length : Int) < l := by omega
    cases u2 with
    | nil => simp at hlen; omega
    | cons x u2 =>
      cases v2 with
      | nil => simp at hlen hlen2; omega
      | cons y v2 =>
        simp only [List.length_cons] at hlen hlen2
        have key := E.two h (p ++ v1) (u2 ++ q ++ u1) (v2 ++ r) x y
        simp only [List.length_append, List.append_assoc, List.cons_append] at key ⊢
        obtain ⟨k1, k2, H1, k3, k4⟩ := key
        have w1 : IntKind.i64.wrap ((a : Int) + (u1.length : Nat)) = ((p.length + v1.length : Nat) : Int) := aX (by omega) (by omega)
        have w2 : IntKind.i64.wrap ((b : Int) + (u1.length : Nat)) = ((p.length + v1.length + 1 + (u2.length + (q.length + u1.length)) : Nat) : Int) := aX (by omega) (by omega)
        have w3 : IntKind.i64.wrap (((u1.length : Nat) : Int) + 1) = ((u1.length : Nat) : Int) + 1 := aE (by omega) (by omega)
        have i1 : aF sz (.ref sz t 0 m cp ex) (.int .i64 ((p.length + v1.length : Nat) : Int)) = some (.ptr t (p.length + v1.length) 0) := aP rfl (by omega)
        have i2 : aF sz (.ref sz t 0 m cp ex) (.int .i64 ((p.length + v1.length + 1 + (u2.length + (q.length + u1.length)) : Nat) : Int)) = some (.ptr t (p.length + v1.length + 1 + (u2.length + (q.length + u1.length))) 0) := aP rfl (by omega)
        generalize hA : p.length + v1.length = A at k1 k2 k3 k4 w1 w2 i1 i2
        generalize hB : A + 1 + (u2.length + (q.length + u1.length)) = B at k2 k4 w2 i2
        simp only [push_cast, ↓reduceIte, Nat.reduceEqDiff, reduceCtorEq, Nat.reduceAdd, Nat.reduceLT, Nat.reduceLeDiff, e0, e1, e2, e3, e10, hlt', decide_true, w1, w2, i1, i2, k1, k2, k3, k4, w3]
        refine ⟨(u1 ++ [x], u2, v1 ++ [y], v2), ⟨by rw [h1]; simp, by rw [h2]; simp, by simp [h3], by simp, by simp⟩, by show u2.length < u2.length + 1; omega⟩
  · have hlt' : ¬ (u1.length : Int) < l := by omega
    simp only [push_cast, ↓reduceIte, Nat.reduceEqDiff, reduceCtorEq, Nat.reduceAdd, Nat.reduceLT, Nat.reduceLeDiff, e0, e1, e2, e3, e10, hlt', decide_false]
    have hu : u2 = [] := List.eq_nil_of_length_eq_zero (by omega)
    have hv : v2 = [] := List.eq_nil_of_length_eq_zero (by omega)
    subst hu; subst hv
    simp only [List.append_nil] at h1 h2 ⊢
    subst h1; subst h2
    simp
theorem GA {n kw : FuncId} (hc : aD P n = some (LJ sz ag kw)) (hw : aD P kw = some (JI sz ag)) (E : cY P enc c sz ag k as0 bs) (h : t < H.length) (p u v r : List β) {m cp : Nat} {ex : Bool} (hm : m = (p ++ u ++ v ++ r).length) (hs : m < 1099511627776) {a q b : Nat} (ha : a = p.length) (hq : q = (p ++ u).length) (hb : b = (p ++ u ++ v).length) (hu : 0 < u.length) (hv : 0 < v.length) (g : AV) :
    aC P n [.ref sz t 0 m cp ex, .int .i64 a, .int .i64 q, .int .i64 b, g] (LH enc sz t H (p ++ u ++ v ++ r)) fun x H' => H' = LH enc sz t H (p ++ v ++ u ++ r) := by
  refine aU hc (by simp [LJ]) ?_
  unfold LJ AN
  simp only [List.length_append] at hm hq hb
  have w1 : IntKind.i64.wrap ((q : Int) - a) = ((u.length : Nat) : Int) := aX (by omega) (by omega)
  have w2 : IntKind.i64.wrap ((b : Int) - q) = ((v.length : Nat) : Int) := aX (by omega) (by omega)
  simp only [push_cast, ↓reduceIte, Nat.reduceEqDiff, reduceCtorEq, Nat.reduceAdd, Nat.reduceLT, Nat.reduceLeDiff, w1, w2]
  refine aI (fun (s : List β × List β × List β × List β) f H' => H' = LH enc sz t H (s.1 ++ s.2.1 ++ s.2.2.1 ++ s.2.2.2) ∧ s.1 ++ s.2.2.1 ++ s.2.1 ++ s.2.2.2 = p ++ v ++ u ++ r ∧ s.1.length + s.2.1.length = q ∧ 0 < s.2.1.length ∧ 0 < s.2.2.1.length ∧ f 0 = .ref sz t 0 m cp ex ∧ f 2 = .int .i64 q ∧ f 4 = g ∧ f 10 = .int .i64 s.2.1.length ∧ f 11 = .int .i64 s.2.2.1.length) (fun s => s.2.1.length + s.2.2.1.length) (p, u, v, r) ?_ ?_
  · refine ⟨rfl, rfl, by dsimp only; omega, hu, hv, ?_⟩
    simp only [push_cast, ↓reduceIte, Nat.reduceEqDiff, reduceCtorEq, Nat.reduceAdd, Nat.reduceLT, Nat.reduceLeDiff, w1, w2]
  rintro ⟨p1, u1, v1, r1⟩ f H' ⟨rfl, h1, h2, h3, h4, e0, e2, e4, e10, e11⟩
  dsimp only at h1 h2 h3 h4 e10 e11 ⊢
  have hlen := congrArg List.length h1
  simp only [List.length_append] at hlen
  by_cases hne : u1.length = v1.length
  · have hne' : ((u1.length : Nat) : Int) = (v1.length : Nat) := by omega
    have hz1 : m = (p1 ++ u1 ++ [] ++ v1 ++ r1).length := by simp only [List.length_append, List.length_nil]; omega
    have w3 : IntKind.i64.wrap ((q : Int) - (v1.length : Nat)) = ((p1.length : Nat) : Int) := aX (by omega) (by omega)
    have hsw := nQ hw E h p1 u1 [] v1 r1 (cp := cp) (ex := ex) hz1 hs hne (a := p1.length) (b := q) (l := u1.length) rfl (by simp only [List.length_append, List.length_nil]; omega) rfl g
    simp only [List.append_nil] at hsw
    simp only [push_cast, ↓reduceIte, Nat.reduceEqDiff, reduceCtorEq, Nat.reduceAdd, Nat.reduceLT, Nat.reduceLeDiff, e0, e2, e4, e10, e11, hne', decide_true, decide_false, w3]
    rw [hne'] at *
    refine aC.mono hsw fun x H' hh => ?_
    subst hh
    simp only [push_cast, ↓reduceIte, Nat.reduceEqDiff, reduceCtorEq, Nat.reduceAdd, Nat.reduceLT, Nat.reduceLeDiff]
    rw [h1]
  · have hne' : ¬ ((u1.length : Nat) : Int) = (v1.length : Nat) := by omega
    by_cases hgt : u1.length > v1.length
    · have hgt' : ((u1.length : Nat) : Int) > (v1.length : Nat) := by omega
      obtain ⟨x1, x2, rfl, hx⟩ : ∃ x1 x2, u1 = x1 ++ x2 ∧ x1.length = v1.length := ⟨u1.take v1.length, u1.drop v1.length, (List.take_append_drop _ _).symm, by rw [List.length_take]; omega⟩
      simp only [List.length_append] at hne' hgt hgt' h2 h3 hlen e10 ⊢
      have hz1 : m = (p1 ++ x1 ++ x2 ++ v1 ++ r1).length := by simp only [List.length_append]; omega
      have w3 : IntKind.i64.wrap ((q : Int) - ((x1.length + x2.length : Nat) : Int)) = ((p1.length : Nat) : Int) := aX (by omega) (by omega)
      have w4 : IntKind.i64.wrap (((x1.length + x2.length : Nat) : Int) - (v1.length : Nat)) = ((x2.length : Nat) : Int) := aX (by omega) (by omega)
      have hsw := nQ hw E h p1 x1 x2 v1 r1 (cp := cp) (ex := ex) hz1 hs hx (a := p1.length) (b := q) (l := v1.length) rfl (by simp only [List.length_append]; omega) hx.symm g
      rw [show p1 ++ (x1 ++ x2) ++ v1 ++ r1 = p1 ++ x1 ++ x2 ++ v1 ++ r1 by simp]
      generalize hU : x1.length + x2.length = U at *
      simp only [push_cast, ↓reduceIte, Nat.reduceEqDiff, reduceCtorEq, Nat.reduceAdd, Nat.reduceLT, Nat.reduceLeDiff, e0, e2, e4, e10, e11, hne', decide_true, decide_false, hgt', w3]
      refine aC.mono hsw fun x H' hh => ?_
      subst hh
      simp only [push_cast, ↓reduceIte, Nat.reduceEqDiff, reduceCtorEq, Nat.reduceAdd, Nat.reduceLT, Nat.reduceLeDiff, e0, e2, e4, e10, e11, w4]
      exact ⟨(p1 ++ v1, x2, x1, r1), ⟨rfl, by rw [← h1]; simp, by simp only [List.length_append]; omega, by dsimp only; omega, by dsimp only; omega, rfl, by simp [hx]⟩, by dsimp only; omega⟩
    · have hgt' : ¬ ((u1.length : Nat) : Int) > (v1.length : Nat) := by omega
      obtain ⟨y1, y2, rfl, hy⟩ : ∃ y1 y2, v1 = y1 ++ y2 ∧ y2.length = u1.length := ⟨v1.take (v1.length - u1.length), v1.drop (v1.length - u1.length), (List.take_append_drop _ _).symm, by rw [List.length_drop]; omega⟩
      simp only [List.length_append] at hne' hgt hgt' h4 hlen e11 ⊢
      have hz1 : m = (p1 ++ u1 ++ y1 ++ y2 ++ r1).length := by simp only [List.length_append]; omega
      have w3 : IntKind.i64.wrap ((q : Int) - (u1.length : Nat)) = ((p1.length : Nat) : Int) := aX (by omega) (by omega)
      have w4 : IntKind.i64.wrap (((y1.length + y2.length : Nat) : Int) - (u1.length : Nat)) = ((y1.length : Nat) : Int) := aX (by omega) (by omega)
      have w5 : IntKind.i64.wrap ((q : Int) + ((y1.length + y2.length : Nat) : Int)) = ((q + (y1.length + y2.length) : Nat) : Int) := aX (by omega) (by omega)
      have w6 : IntKind.i64.wrap (((q + (y1.length + y2.length) : Nat) : Int) - (u1.length : Nat)) = ((q + y1.length : Nat) : Int) := aX (by omega) (by omega)
      have hsw := nQ hw E h p1 u1 y1 y2 r1 (cp := cp) (ex := ex) hz1 hs hy.symm (a := p1.length) (b := q + y1.length) (l := u1.length) rfl (by simp only [List.length_append]; omega) rfl g
      rw [show p1 ++ u1 ++ (y1 ++ y2) ++ r1 = p1 ++ u1 ++ y1 ++ y2 ++ r1 by simp]
      generalize hV : y1.length + y2.length = V at *
      generalize hqV : q + V = qV at *
      generalize hqy : q + y1.length = qy at *
      simp only [push_cast, ↓reduceIte, Nat.reduceEqDiff, reduceCtorEq, Nat.reduceAdd, Nat.reduceLT, Nat.reduceLeDiff, e0, e2, e4, e10, e11, hne', decide_true, decide_false, hgt', w3, w5, w6]
      refine aC.mono hsw fun x H' hh => ?_
      subst hh
      simp only [push_cast, ↓reduceIte, Nat.reduceEqDiff, reduceCtorEq, Nat.reduceAdd, Nat.reduceLT, Nat.reduceLeDiff, e0, e2, e4, e10, e11, w4]
      exact ⟨(p1, y2, y1, u1 ++ r1), ⟨by simp, by rw [← h1]; simp, by dsimp only; omega, by dsimp only; omega, by dsimp only; omega, by simp [hy], rfl⟩, by dsimp only; omega⟩
end
end Go.Eng
end
section
namespace Go.Eng
open Go Go.Sort
set_option linter.unusedSimpArgs false
set_option linter.unusedVariables false
set_option linter.unusedSectionVars false
set_option linter.unnecessarySimpa false
set_option maxRecDepth 10000
def sS (sz : Nat) (ag : Bool) (kr : Nat) (kz : Nat) : AC := (.block 8 (.loop (.seq (.seq (.ops [oo 149 (.mov (.t 20)), oo 150 (.mov (.t 21)), oo 151 (.bin .lss (.t 149) (.t 150))]) (.cond (.t 151) .skip (.exit 8))) (.block 9 (.seq (.ops [oo 152 (.mov (.t 20)), oo 153 (.mov (.t 21)), oo 154 (.bin .add (.t 152) (.t 153)), oo 155 (.conv .u64 (.t 154)), oo 156 (.bin .shr (.t 155) (.v (.int .u64 1))), oo 157 (.conv .i64 (.t 156)), oo 23 (.mov (.t 157))]) (.seq (.ops [oo 220 (.mov (.t 4)), oo 221 (.mov (.t 0)), oo 222 (.mov (.t 22)), oo 223 (.mov (.t 23)), oo 224 (.bin .sub (.t 222) (.t 223)), oo 225 (.iaddr sz (.t 221) (.t 224)), oo 226 (.load ag sz (.t 225)), oo 227 (.mov (.t 0)), oo 228 (.mov (.t 23)), oo 229 (.iaddr sz (.t 227) (.t 228)), oo 230 (.load ag sz (.t 229)), oo 231 (.callv (.t 220) [(.t 226), (.t 230)]), oo 232 (.bin .lss (.t 231) (.v (.int .i64 0))), oo 233 (.un .not (.t 232)), oo 158 (.mov (.t 220)), oo 159 (.mov (.t 221)), oo 160 (.mov (.t 222)), oo 161 (.mov (.t 223)), oo 162 (.mov (.t 224)), oo 163 (.mov (.t 225)), oo 164 (.mov (.t 226)), oo 165 (.mov (.t 227)), oo 166 (.mov (.t 228)), oo 167 (.mov (.t 229)), oo 168 (.mov (.t 230)), oo 169 (.mov (.t 231)), oo 170 (.mov (.t 232)), oo 171 (.mov (.t 233))]) (.cond (.t 171) (.ops [oo 172 (.mov (.t 23)), oo 173 (.bin .add (.t 172) (.v (.int .i64 1))), oo 20 (.mov (.t 173))]) (.ops [oo 174 (.mov (.t 23)), oo 21 (.mov (.t 174))]))))))))
def sT (sz : Nat) (ag : Bool) (kr : Nat) (kz : Nat) : AC := (.block 6 (.loop (.seq (.seq (.ops [oo 108 (.mov (.t 17)), oo 109 (.mov (.t 14)), oo 110 (.bin .gtr (.t 108) (.t 109))]) (.cond (.t 110) .skip (.exit 6))) (.seq (.block 7 (.ops [oo 220 (.mov (.t 0)), oo 221 (.mov (.t 17)), oo 222 (.mov (.t 0)), oo 223 (.mov (.t 17)), oo 224 (.bin .sub (.t 223) (.v (.int .i64 1))), oo 225 (.mov (.t 0)), oo 226 (.mov (.t 17)), oo 227 (.bin .sub (.t 226) (.v (.int .i64 1))), oo 228 (.iaddr sz (.t 225) (.t 227)), oo 229 (.load ag sz (.t 228)), oo 230 (.mov (.t 0)), oo 231 (.mov (.t 17)), oo 232 (.iaddr sz (.t 230) (.t 231)), oo 233 (.load ag sz (.t 232)), oo 234 (.iaddr sz (.t 220) (.t 221)), oo 235 (.store sz (.t 234) (.t 229)), oo 236 (.iaddr sz (.t 222) (.t 224)), oo 237 (.store sz (.t 236) (.t 233)), oo 113 (.mov (.t 220)), oo 114 (.mov (.t 221)), oo 115 (.mov (.t 222)), oo 116 (.mov (.t 223)), oo 117 (.mov (.t 224)), oo 118 (.mov (.t 225)), oo 119 (.mov (.t 226)), oo 120 (.mov (.t 227)), oo 121 (.mov (.t 228)), oo 122 (.mov (.t 229)), oo 123 (.mov (.t 230)), oo 124 (.mov (.t 231)), oo 125 (.mov (.t 232)), oo 126 (.mov (.t 233)), oo 127 (.mov (.t 234)), oo 128 (.mov (.t 236))])) (.ops [oo 111 (.mov (.t 17)), oo 112 (.bin .sub (.t 111) (.v (.int .i64 1))), oo 17 (.mov (.t 112))])))))
def sU (sz : Nat) (ag : Bool) (kr : Nat) (kz : Nat) : AC := (.block 4 (.loop (.seq (.seq (.ops [oo 83 (.mov (.t 14)), oo 84 (.mov (.t 15)), oo 85 (.bin .lss (.t 83) (.t 84))]) (.cond (.t 85) .skip (.exit 4))) (.block 5 (.seq (.ops [oo 86 (.mov (.t 14)), oo 87 (.mov (.t 15)), oo 88 (.bin .add (.t 86) (.t 87)), oo 89 (.conv .u64 (.t 88)), oo 90 (.bin .shr (.t 89) (.v (.int .u64 1))), oo 91 (.conv .i64 (.t 90)), oo 16 (.mov (.t 91))]) (.seq (.ops [oo 220 (.mov (.t 4)), oo 221 (.mov (.t 0)), oo 222 (.mov (.t 2)), oo 223 (.iaddr sz (.t 221) (.t 222)), oo 224 (.load ag sz (.t 223)), oo 225 (.mov (.t 0)), oo 226 (.mov (.t 16)), oo 227 (.iaddr sz (.t 225) (.t 226)), oo 228 (.load ag sz (.t 227)), oo 229 (.callv (.t 220) [(.t 224), (.t 228)]), oo 230 (.bin .lss (.t 229) (.v (.int .i64 0))), oo 231 (.un .not (.t 230)), oo 92 (.mov (.t 220)), oo 93 (.mov (.t 221)), oo 94 (.mov (.t 222)), oo 95 (.mov (.t 223)), oo 96 (.mov (.t 224)), oo 97 (.mov (.t 225)), oo 98 (.mov (.t 226)), oo 99 (.mov (.t 227)), oo 100 (.mov (.t 228)), oo 101 (.mov (.t 229)), oo 102 (.mov (.t 230)), oo 103 (.mov (.t 231))]) (.cond (.t 103) (.ops [oo 104 (.mov (.t 16)), oo 105 (.bin .add (.t 104) (.v (.int .i64 1))), oo 14 (.mov (.t 105))]) (.ops [oo 106 (.mov (.t 16)), oo 15 (.mov (.t 106))]))))))))
def sV (sz : Nat) (ag : Bool) (kr : Nat) (kz : Nat) : AC := (.block 2 (.loop (.seq (.seq (.ops [oo 55 (.mov (.t 13)), oo 56 (.mov (.t 10)), oo 57 (.bin .sub (.t 56) (.v (.int .i64 1))), oo 58 (.bin .lss (.t 55) (.t 57))]) (.cond (.t 58) .skip (.exit 2))) (.seq (.block 3 (.ops [oo 220 (.mov (.t 0)), oo 221 (.mov (.t 13)), oo 222 (.mov (.t 0)), oo 223 (.mov (.t 13)), oo 224 (.bin .add (.t 223) (.v (.int .i64 1))), oo 225 (.mov (.t 0)), oo 226 (.mov (.t 13)), oo 227 (.bin .add (.t 226) (.v (.int .i64 1))), oo 228 (.iaddr sz (.t 225) (.t 227)), oo 229 (.load ag sz (.t 228)), oo 230 (.mov (.t 0)), oo 231 (.mov (.t 13)), oo 232 (.iaddr sz (.t 230) (.t 231)), oo 233 (.load ag sz (.t 232)), oo 234 (.iaddr sz (.t 220) (.t 221)), oo 235 (.store sz (.t 234) (.t 229)), oo 236 (.iaddr sz (.t 222) (.t 224)), oo 237 (.store sz (.t 236) (.t 233)), oo 61 (.mov (.t 220)), oo 62 (.mov (.t 221)), oo 63 (.mov (.t 222)), oo 64 (.mov (.t 223)), oo 65 (.mov (.t 224)), oo 66 (.mov (.t 225)), oo 67 (.mov (.t 226)), oo 68 (.mov (.t 227)), oo 69 (.mov (.t 228)), oo 70 (.mov (.t 229)), oo 71 (.mov (.t 230)), oo 72 (.mov (.t 231)), oo 73 (.mov (.t 232)), oo 74 (.mov (.t 233)), oo 75 (.mov (.t 234)), oo 76 (.mov (.t 236))])) (.ops [oo 59 (.mov (.t 13)), oo 60 (.bin .add (.t 59) (.v (.int .i64 1))), oo 13 (.mov (.t 60))])))))
def sW (sz : Nat) (ag : Bool) (kr : Nat) (kz : Nat) : AC := (.block 0 (.loop (.seq (.seq (.ops [oo 31 (.mov (.t 10)), oo 32 (.mov (.t 11)), oo 33 (.bin .lss (.t 31) (.t 32))]) (.cond (.t 33) .skip (.exit 0))) (.block 1 (.seq (.ops [oo 34 (.mov (.t 10)), oo 35 (.mov (.t 11)), oo 36 (.bin .add (.t 34) (.t 35)), oo 37 (.conv .u64 (.t 36)), oo 38 (.bin .shr (.t 37) (.v (.int .u64 1))), oo 39 (.conv .i64 (.t 38)), oo 12 (.mov (.t 39))]) (.seq (.ops [oo 220 (.mov (.t 4)), oo 221 (.mov (.t 0)), oo 222 (.mov (.t 12)), oo 223 (.iaddr sz (.t 221) (.t 222)), oo 224 (.load ag sz (.t 223)), oo 225 (.mov (.t 0)), oo 226 (.mov (.t 1)), oo 227 (.iaddr sz (.t 225) (.t 226)), oo 228 (.load ag sz (.t 227)), oo 229 (.callv (.t 220) [(.t 224), (.t 228)]), oo 230 (.bin .lss (.t 229) (.v (.int .i64 0))), oo 40 (.mov (.t 220)), oo 41 (.mov (.t 221)), oo 42 (.mov (.t 222)), oo 43 (.mov (.t 223)), oo 44 (.mov (.t 224)), oo 45 (.mov (.t 225)), oo 46 (.mov (.t 226)), oo 47 (.mov (.t 227)), oo 48 (.mov (.t 228)), oo 49 (.mov (.t 229)), oo 50 (.mov (.t 230))]) (.cond (.t 50) (.ops [oo 51 (.mov (.t 12)), oo 52 (.bin .add (.t 51) (.v (.int .i64 1))), oo 10 (.mov (.t 52))]) (.ops [oo 53 (.mov (.t 12)), oo 11 (.mov (.t 53))]))))))))
def kB (sz : Nat) (ag : Bool) (kr : Nat) (kz : Nat) : AC := (.cond (.t 28) (.seq (.ops [oo 29 (.mov (.t 2)), oo 10 (.mov (.t 29))]) (.seq (.ops [oo 30 (.mov (.t 3)), oo 11 (.mov (.t 30))]) (.seq (sW sz ag kr kz) (.seq (.seq (.ops [oo 54 (.mov (.t 1)), oo 13 (.mov (.t 54))]) (sV sz ag kr kz)) .ret)))) .skip)
def nR (sz : Nat) (ag : Bool) (kr : Nat) (kz : Nat) : AC := (.cond (.t 80) (.seq (.ops [oo 81 (.mov (.t 1)), oo 14 (.mov (.t 81))]) (.seq (.ops [oo 82 (.mov (.t 2)), oo 15 (.mov (.t 82))]) (.seq (sU sz ag kr kz) (.seq (.seq (.ops [oo 107 (.mov (.t 2)), oo 17 (.mov (.t 107))]) (sT sz ag kr kz)) .ret)))) .skip)
def lC (sz : Nat) (ag : Bool) (kr : Nat) (kz : Nat) : AC := (.cond (.t 140) (.seq (.ops [oo 141 (.mov (.t 19)), oo 142 (.mov (.t 3)), oo 143 (.bin .sub (.t 141) (.t 142)), oo 20 (.mov (.t 143))]) (.ops [oo 144 (.mov (.t 18)), oo 21 (.mov (.t 144))])) (.seq (.ops [oo 145 (.mov (.t 1)), oo 20 (.mov (.t 145))]) (.ops [oo 146 (.mov (.t 2)), oo 21 (.mov (.t 146))])))
def iD (sz : Nat) (ag : Bool) (kr : Nat) (kz : Nat) : AC := (.cond (.t 185) (.ops [oo 186 (.mov (.t 0)), oo 187 (.mov (.t 20)), oo 188 (.mov (.t 2)), oo 189 (.mov (.t 24)), oo 190 (.mov (.t 4)), oo 191 (.call kr [(.t 186), (.t 187), (.t 188), (.t 189), (.t 190)])]) .skip)
def iE (sz : Nat) (ag : Bool) (kr : Nat) (kz : Nat) : AC := (.cond (.t 199) (.ops [oo 200 (.mov (.t 0)), oo 201 (.mov (.t 1)), oo 202 (.mov (.t 20)), oo 203 (.mov (.t 18)), oo 204 (.mov (.t 4)), oo 205 (.call kz [(.t 200), (.t 201), (.t 202), (.t 203), (.t 204)])]) .skip)
def iG (sz : Nat) (ag : Bool) (kr : Nat) (kz : Nat) : AC := (.cond (.t 213) (.ops [oo 214 (.mov (.t 0)), oo 215 (.mov (.t 18)), oo 216 (.mov (.t 24)), oo 217 (.mov (.t 3)), oo 218 (.mov (.t 4)), oo 219 (.call kz [(.t 214), (.t 215), (.t 216), (.t 217), (.t 218)])]) .skip)
def iH (sz : Nat) (ag : Bool) (kr : Nat) (kz : Nat) : AC := (.ops [oo 178 (.mov (.t 20)), oo 179 (.mov (.t 2)), oo 180 (.bin .lss (.t 178) (.t 179)), oo 181 (.mov (.t 180)), og 182 181 true (.mov (.t 2)), og 183 181 true (.mov (.t 24)), og 184 181 true (.bin .lss (.t 182) (.t 183)), oo 185 (.pick (.t 181) (.t 184) (.v (.bool false)))])
def iI (sz : Nat) (ag : Bool) (kr : Nat) (kz : Nat) : AC := (.ops [oo 192 (.mov (.t 1)), oo 193 (.mov (.t 20)), oo 194 (.bin .lss (.t 192) (.t 193)), oo 195 (.mov (.t 194)), og 196 195 true (.mov (.t 20)), og 197 195 true (.mov (.t 18)), og 198 195 true (.bin .lss (.t 196) (.t 197)), oo 199 (.pick (.t 195) (.t 198) (.v (.bool false)))])
def iJ (sz : Nat) (ag : Bool) (kr : Nat) (kz : Nat) : AC := (.ops [oo 206 (.mov (.t 18)), oo 207 (.mov (.t 24)), oo 208 (.bin .lss (.t 206) (.t 207)), oo 209 (.mov (.t 208)), og 210 209 true (.mov (.t 24)), og 211 209 true (.mov (.t 3)), og 212 209 true (.bin .lss (.t 210) (.t 211)), oo 213 (.pick (.t 209) (.t 212) (.v (.bool false)))])
def SP (sz : Nat) (ag : Bool) (kr : Nat) (kz : Nat) : AFn := ⟨220, 5, [], (.seq (.seq (.ops [oo 25 (.mov (.t 2)), oo 26 (.mov (.t 1)), oo 27 (.bin .sub (.t 25) (.t 26)), oo 28 (.bin .eql (.t 27) (.v (.int .i64 1)))]) (kB sz ag kr kz)) (.seq (.seq (.ops [oo 77 (.mov (.t 3)), oo 78 (.mov (.t 2)), oo 79 (.bin .sub (.t 77) (.t 78)), oo 80 (.bin .eql (.t 79) (.v (.int .i64 1)))]) (nR sz ag kr kz)) (.seq (.ops [oo 129 (.mov (.t 1)), oo 130 (.mov (.t 3)), oo 131 (.bin .add (.t 129) (.t 130)), oo 132 (.conv .u64 (.t 131)), oo 133 (.bin .shr (.t 132) (.v (.int .u64 1))), oo 134 (.conv .i64 (.t 133)), oo 18 (.mov (.t 134))]) (.seq (.ops [oo 135 (.mov (.t 18)), oo 136 (.mov (.t 2)), oo 137 (.bin .add (.t 135) (.t 136)), oo 19 (.mov (.t 137))]) (.seq (.ops [oo 20 (.mov (.v (.int .i64 0))), oo 21 (.mov (.v (.int .i64 0)))]) (.seq (.seq (.ops [oo 138 (.mov (.t 2)), oo 139 (.mov (.t 18)), oo 140 (.bin .gtr (.t 138) (.t 139))]) (lC sz ag kr kz)) (.seq (.ops [oo 147 (.mov (.t 19)), oo 148 (.bin .sub (.t 147) (.v (.int .i64 1))), oo 22 (.mov (.t 148))]) (.seq (sS sz ag kr kz) (.seq (.ops [oo 175 (.mov (.t 19)), oo 176 (.mov (.t 20)), oo 177 (.bin .sub (.t 175) (.t 176)), oo 24 (.mov (.t 177))]) (.seq (.seq (iH sz ag kr kz) (iD sz ag kr kz)) (.seq (.seq (iI sz ag kr kz) (iE sz ag kr kz)) (.seq (iJ sz ag kr kz) (iG sz ag kr kz)))))))))))))⟩
theorem GB {i j : Nat} (h : i + j < 4398046511104) : IntKind.i64.wrap ((i : Int) + j) = ((i + j : Nat) : Int) ∧ IntKind.u64.wrap ((i + j : Nat) : Int) = ((i + j : Nat) : Int) ∧ cK .shr (.int .u64 ((i + j : Nat) : Int)) (.int .u64 1) = some (.int .u64 (((i + j) / 2 : Nat) : Int)) ∧ IntKind.i64.wrap (((i + j) / 2 : Nat) : Int) = (((i + j) / 2 : Nat) : Int) := by
  refine ⟨aX (by omega) (by omega), ?_, ?_, aX rfl (by omega)⟩
  · unfold IntKind.wrap
    have hb : IntKind.u64.bits = 64 := rfl
    have hs : IntKind.u64.signed = false := rfl
    simp only [hb, hs, Bool.false_and, Bool.false_eq_true, if_false]
    have e1 : (2 : Int) ^ 64 = 18446744073709551616 := by decide
    rw [e1]; omega
  · rw [AD (by omega)]
    have : min ((1 : Int)).toNat IntKind.u64.bits = 1 := rfl
    rw [this, Int.fdiv_eq_ediv_of_nonneg _ (by decide)]
    congr 2
structure Cut (T : Nat → Prop) (lo hi s : Nat) : Prop where
  lo_ : lo ≤ s
  hi_ : s ≤ hi
  left : ∀ k, lo ≤ k → k < s → T k
  right : ∀ k, s ≤ k → k < hi → ¬ T k
structure AO (T : Nat → Prop) (lo hi i j : Nat) : Prop where
  lo_ : lo ≤ i
  le : i ≤ j
  hi_ : j ≤ hi
  left : ∀ k, lo ≤ k → k < i → T k
  right : ∀ k, j ≤ k → k < hi → ¬ T k
theorem AO.cut {T : Nat → Prop} {lo hi i j : Nat} (h : AO T lo hi i j) (e : ¬ i < j) : Cut T lo hi i := by
  have : i = j := by have := h.le; omega
  subst this
  exact ⟨h.lo_, h.hi_, h.left, h.right⟩
theorem AO.up {T : Nat → Prop} {lo hi i j : Nat} (h : AO T lo hi i j) (mono : ∀ x y, lo ≤ x → x ≤ y → y < hi → T y → T x) (e : i < j) (t : T ((i + j) / 2)) : AO T lo hi ((i + j) / 2 + 1) j := by
  have h1 := h.lo_; have h2 := h.hi_
  exact ⟨by omega, by omega, h.hi_, fun k a b => mono k _ a (by omega) (by omega) t, h.right⟩
theorem AO.down {T : Nat → Prop} {lo hi i j : Nat} (h : AO T lo hi i j) (mono : ∀ x y, lo ≤ x → x ≤ y → y < hi → T y → T x) (e : i < j) (t : ¬ T ((i + j) / 2)) : AO T lo hi i ((i + j) / 2) := by
  have h1 := h.lo_; have h2 := h.hi_
  exact ⟨h.lo_, by omega, by omega, h.left, fun k a b q => t (mono _ k (by omega) a b q)⟩
section
variable {β : Type} [Inhabited β] {enc : β → AV} {sz t : Nat} {H : AH} {P : Program} {c : β → β → Int} {ag : Bool} {k : FuncId} {as0 bs : List AV} {kr kz : FuncId}
theorem jA (p x r : List β) {i : Nat} (h : i < x.length) : (p ++ x ++ r).toArray[p.length + i]! = x[i] := by
  rw [getElem!_pos _ _ (by simp; omega)]
  simp [List.getElem_append, h]
theorem AP (E : cY P enc c sz ag k as0 bs) (h : t < H.length) {d : Array β} {m cp a : Nat} {ex : Bool} (hm : m = d.size) (hs : m < 1099511627776) (ha : a < m) {lo hi : Nat} (hlh : lo ≤ hi) (hhi : hi ≤ m) (mono : ∀ x y, lo ≤ x → x ≤ y → y < hi → c d[y]! d[a]! < 0 → c d[x]! d[a]! < 0) {f : AF} {Q : AE → AF → AH → Prop}
    (e0 : f 0 = .ref sz t 0 m cp ex) (e1 : f 1 = .int .i64 a) (e4 : f 4 = .fn k as0 bs) (e10 : f 10 = .int .i64 lo) (e11 : f 11 = .int .i64 hi)
    (hQ : ∀ (f : AF) (s : Nat), Cut (fun x => c d[x]! d[a]! < 0) lo hi s → f 0 = .ref sz t 0 m cp ex → f 1 = .int .i64 a → f 4 = .fn k as0 bs → f 10 = .int .i64 s → Q .normal f (SH enc sz t H d)) :
    (sW sz ag kr kz).wp P Q f (SH enc sz t H d) := by
  unfold sW
  simp only [push_cast, ↓reduceIte, Nat.reduceEqDiff, reduceCtorEq, Nat.reduceAdd, Nat.reduceLT, Nat.reduceLeDiff]
  refine aI (fun (s : Nat × Nat) f H' => H' = SH enc sz t H d ∧ AO (fun x => c d[x]! d[a]! < 0) lo hi s.1 s.2 ∧ f 0 = .ref sz t 0 m cp ex ∧ f 1 = .int .i64 a ∧ f 4 = .fn k as0 bs ∧ f 10 = .int .i64 s.1 ∧ f 11 = .int .i64 s.2) (fun s => s.2 - s.1) (lo, hi) ⟨rfl, ⟨Nat.le_refl _, hlh, Nat.le_refl _, fun k a b => by dsimp only at b; omega, fun k a b => by dsimp only at a; omega⟩, e0, e1, e4, e10, e11⟩ ?_
  rintro ⟨i, j⟩ f H' ⟨rfl, hh, e0, e1, e4, e10, e11⟩
  dsimp only at hh e10 e11 ⊢
  have hj := hh.hi_
  by_cases hij : i < j
  · have hij' : (i : Int) < j := by omega
    obtain ⟨u1, u2, u3, u4⟩ := GB (i := i) (j := j) (by omega)
    have up := hh.up mono hij
    have dn := hh.down mono hij
    have hb : (i + j) / 2 < j := by omega
    have hb2 : i ≤ (i + j) / 2 := by omega
    generalize hz : (i + j) / 2 = z at u3 u4 up dn hb hb2
    generalize i + j = ij at u1 u2 u3
    have x1 : aF sz (.ref sz t 0 m cp ex) (.int .i64 (z : Int)) = some (.ptr t z 0) := aP rfl (by omega)
    have x2 : aF sz (.ref sz t 0 m cp ex) (.int .i64 (a : Int)) = some (.ptr t a 0) := aP rfl (by omega)
    have y1 := E.load (d := d) h (show z < d.size by omega)
    have y2 := E.load (d := d) h (show a < d.size by omega)
    have w1 : IntKind.i64.wrap ((z : Int) + 1) = (z : Int) + 1 := aE (by omega) (by omega)
    simp only [push_cast, ↓reduceIte, Nat.reduceEqDiff, reduceCtorEq, Nat.reduceAdd, Nat.reduceLT, Nat.reduceLeDiff, e0, e1, e4, e10, e11, hij', decide_true, u1, u2, u3, u4, x1, x2, y1, y2]
    refine aC.look (E.cmp d[z]! d[a]! _) ?_
    by_cases hlt : c d[z]! d[a]! < 0
    · simp only [push_cast, ↓reduceIte, Nat.reduceEqDiff, reduceCtorEq, Nat.reduceAdd, Nat.reduceLT, Nat.reduceLeDiff, e0, e1, e4, e10, e11, hlt, decide_true, w1]
      exact ⟨(z + 1, j), ⟨up hlt, by show (z : Int) + 1 = ((z + 1 : Nat) : Int); omega, rfl⟩, by show j - (z + 1) < j - i; omega⟩
    · simp only [push_cast, ↓reduceIte, Nat.reduceEqDiff, reduceCtorEq, Nat.reduceAdd, Nat.reduceLT, Nat.reduceLeDiff, e0, e1, e4, e10, e11, hlt, decide_false, w1]
      exact ⟨(i, z), ⟨dn hlt, rfl, rfl⟩, by show z - i < j - i; omega⟩
  · have hij' : ¬ (i : Int) < j := by omega
    simp only [push_cast, ↓reduceIte, Nat.reduceEqDiff, reduceCtorEq, Nat.reduceAdd, Nat.reduceLT, Nat.reduceLeDiff, e0, e1, e4, e10, e11, hij', decide_false]
    refine hQ _ i (hh.cut hij) ?_ ?_ ?_ ?_ <;> simp only [push_cast, ↓reduceIte, Nat.reduceEqDiff, reduceCtorEq, Nat.reduceAdd, Nat.reduceLT, Nat.reduceLeDiff, e0, e1, e4, e10, e11]
theorem AQ (E : cY P enc c sz ag k as0 bs) (h : t < H.length) {d : Array β} {m cp a : Nat} {ex : Bool} (hm : m = d.size) (hs : m < 1099511627776) (ha : a < m) {lo hi : Nat} (hlh : lo ≤ hi) (hhi : hi ≤ m) (mono : ∀ x y, lo ≤ x → x ≤ y → y < hi → ¬ c d[a]! d[y]! < 0 → ¬ c d[a]! d[x]! < 0) {f : AF} {Q : AE → AF → AH → Prop}
    (e0 : f 0 = .ref sz t 0 m cp ex) (e1 : f 2 = .int .i64 a) (e4 : f 4 = .fn k as0 bs) (e10 : f 14 = .int .i64 lo) (e11 : f 15 = .int .i64 hi)
    (hQ : ∀ (f : AF) (s : Nat), Cut (fun x => ¬ c d[a]! d[x]! < 0) lo hi s → f 0 = .ref sz t 0 m cp ex → f 2 = .int .i64 a → f 4 = .fn k as0 bs → f 14 = .int .i64 s → Q .normal f (SH enc sz t H d)) :
    (sU sz ag kr kz).wp P Q f (SH enc sz t H d) := by
  unfold sU
  simp only [push_cast, ↓reduceIte, Nat.reduceEqDiff, reduceCtorEq, Nat.reduceAdd, Nat.reduceLT, Nat.reduceLeDiff]
  refine aI (fun (s : Nat × Nat) f H' => H' = SH enc sz t H d ∧ AO (fun x => ¬ c d[a]! d[x]! < 0) lo hi s.1 s.2 ∧ f 0 = .ref sz t 0 m cp ex ∧ f 2 = .int .i64 a ∧ f 4 = .fn k as0 bs ∧ f 14 = .int .i64 s.1 ∧ f 15 = .int .i64 s.2) (fun s => s.2 - s.1) (lo, hi) ⟨rfl, ⟨Nat.le_refl _, hlh, Nat.le_refl _, fun k a b => by dsimp only at b; omega, fun k a b => by dsimp only at a; omega⟩, e0, e1, e4, e10, e11⟩ ?_
  rintro ⟨i, j⟩ f H' ⟨rfl, hh, e0, e1, e4, e10, e11⟩
  dsimp only at hh e10 e11 ⊢
  have hj := hh.hi_
  by_cases hij : i < j
  · have hij' : (i : Int) < j := by omega
    obtain ⟨u1, u2, u3, u4⟩ := GB (i := i) (j := j) (by omega)
    have up := hh.up mono hij
    have dn := hh.down mono hij
    have hb : (i + j) / 2 < j := by omega
    have hb2 : i ≤ (i + j) / 2 := by omega
    generalize hz : (i + j) / 2 = z at u3 u4 up dn hb hb2
    generalize i + j = ij at u1 u2 u3
    have x1 : aF sz (.ref sz t 0 m cp ex) (.int .i64 (z : Int)) = some (.ptr t z 0) := aP rfl (by omega)
    have x2 : aF sz (.ref sz t 0 m cp ex) (.int .i64 (a : Int)) = some (.ptr t a 0) := aP rfl (by omega)
    have y1 := E.load (d := d) h (show z < d.size by omega)
    have y2 := E.load (d := d) h (show a < d.size by omega)
    have w1 : IntKind.i64.wrap ((z : Int) + 1) = (z : Int) + 1 := aE (by omega) (by omega)
    simp only [push_cast, ↓reduceIte, Nat.reduceEqDiff, reduceCtorEq, Nat.reduceAdd, Nat.reduceLT, Nat.reduceLeDiff, e0, e1, e4, e10, e11, hij', decide_true, u1, u2, u3, u4, x1, x2, y1, y2]
    refine aC.look (E.cmp d[a]! d[z]! _) ?_
    by_cases hlt : c d[a]! d[z]! < 0
    · simp only [push_cast, ↓reduceIte, Nat.reduceEqDiff, reduceCtorEq, Nat.reduceAdd, Nat.reduceLT, Nat.reduceLeDiff, e0, e1, e4, e10, e11, hlt, decide_true, w1]
      exact ⟨(i, z), ⟨dn (fun q => q hlt), rfl, rfl⟩, by show z - i < j - i; omega⟩
    · simp only [push_cast, ↓reduceIte, Nat.reduceEqDiff, reduceCtorEq, Nat.reduceAdd, Nat.reduceLT, Nat.reduceLeDiff, e0, e1, e4, e10, e11, hlt, decide_false, w1]
      exact ⟨(z + 1, j), ⟨up hlt, by show (z : Int) + 1 = ((z + 1 : Nat) : Int); omega, rfl⟩, by show j - (z + 1) < j - i; omega⟩
  · have hij' : ¬ (i : Int) < j := by omega
    simp only [push_cast, ↓reduceIte, Nat.reduceEqDiff, reduceCtorEq, Nat.reduceAdd, Nat.reduceLT, Nat.reduceLeDiff, e0, e1, e4, e10, e11, hij', decide_false]
    refine hQ _ i (hh.cut hij) ?_ ?_ ?_ ?_ <;> simp only [push_cast, ↓reduceIte, Nat.reduceEqDiff, reduceCtorEq, Nat.reduceAdd, Nat.reduceLT, Nat.reduceLeDiff, e0, e1, e4, e10, e11]
theorem AS (E : cY P enc c sz ag k as0 bs) (h : t < H.length) {d : Array β} {m cp pp : Nat} {ex : Bool} (hm : m = d.size) (hs : m < 1099511627776) {lo hi : Nat} (hlh : lo ≤ hi) (hhi : hi ≤ m) (hp : hi ≤ pp + 1) (hp2 : pp < m + lo) (mono : ∀ x y, lo ≤ x → x ≤ y → y < hi → ¬ c d[pp - y]! d[y]! < 0 → ¬ c d[pp - x]! d[x]! < 0) {v1 v2 v3 v18 v19 : AV} {f : AF} {Q : AE → AF → AH → Prop}
    (e0 : f 0 = .ref sz t 0 m cp ex) (e1 : f 1 = v1) (e2 : f 2 = v2) (e3 : f 3 = v3) (e4 : f 4 = .fn k as0 bs) (e18 : f 18 = v18) (e19 : f 19 = v19) (e22 : f 22 = .int .i64 pp) (e10 : f 20 = .int .i64 lo) (e11 : f 21 = .int .i64 hi)
    (hQ : ∀ (f : AF) (s : Nat), Cut (fun x => ¬ c d[pp - x]! d[x]! < 0) lo hi s → f 0 = .ref sz t 0 m cp ex → f 1 = v1 → f 2 = v2 → f 3 = v3 → f 4 = .fn k as0 bs → f 18 = v18 → f 19 = v19 → f 20 = .int .i64 s → Q .normal f (SH enc sz t H d)) :
    (sS sz ag kr kz).wp P Q f (SH enc sz t H d) := by
  unfold sS
  simp only [push_cast, ↓reduceIte, Nat.reduceEqDiff, reduceCtorEq, Nat.reduceAdd, Nat.reduceLT, Nat.reduceLeDiff]
  refine aI (fun (s : Nat × Nat) f H' => H' = SH enc sz t H d ∧ AO (fun x => ¬ c d[pp - x]! d[x]! < 0) lo hi s.1 s.2 ∧ f 0 = .ref sz t 0 m cp ex ∧ f 1 = v1 ∧ f 2 = v2 ∧ f 3 = v3 ∧ f 4 = .fn k as0 bs ∧ f 18 = v18 ∧ f 19 = v19 ∧ f 22 = .int .i64 pp ∧ f 20 = .int .i64 s.1 ∧ f 21 = .int .i64 s.2) (fun s => s.2 - s.1) (lo, hi) ⟨rfl, ⟨Nat.le_refl _, hlh, Nat.le_refl _, fun k a b => by dsimp only at b; omega, fun k a b => by dsimp only at a; omega⟩, e0, e1, e2, e3, e4, e18, e19, e22, e10, e11⟩ ?_
  rintro ⟨i, j⟩ f H' ⟨rfl, hh, e0, e1, e2, e3, e4, e18, e19, e22, e10, e11⟩
  dsimp only at hh e10 e11 ⊢
  have hj := hh.hi_
  have hlo := hh.lo_
  by_cases hij : i < j
  · have hij' : (i : Int) < j := by omega
    obtain ⟨u1, u2, u3, u4⟩ := GB (i := i) (j := j) (by omega)
    have up := hh.up mono hij
    have dn := hh.down mono hij
    have hb : (i + j) / 2 < j := by omega
    have hb2 : i ≤ (i + j) / 2 := by omega
    generalize hz : (i + j) / 2 = z at u3 u4 up dn hb hb2
    generalize i + j = ij at u1 u2 u3
    have w2 : IntKind.i64.wrap ((pp : Int) - z) = ((pp - z : Nat) : Int) := aX (by omega) (by omega)
    have hpz : pp - z < m := by omega
    generalize hpze : pp - z = y at w2 up dn hpz
    have x1 : aF sz (.ref sz t 0 m cp ex) (.int .i64 (z : Int)) = some (.ptr t z 0) := aP rfl (by omega)
    have x2 : aF sz (.ref sz t 0 m cp ex) (.int .i64 (y : Int)) = some (.ptr t y 0) := aP rfl (by omega)
    have y1 := E.load (d := d) h (show z < d.size by omega)
    have y2 := E.load (d := d) h (show y < d.size by omega)
    have w1 : IntKind.i64.wrap ((z : Int) + 1) = (z : Int) + 1 := aE (by omega) (by omega)
    simp only [push_cast, ↓reduceIte, Nat.reduceEqDiff, reduceCtorEq, Nat.reduceAdd, Nat.reduceLT, Nat.reduceLeDiff, e0, e4, e22, e10, e11, hij', decide_true, u1, u2, u3, u4, x1, x2, y1, y2, w2]
    refine aC.look (E.cmp d[y]! d[z]! _) ?_
    by_cases hlt : c d[y]! d[z]! < 0
    · simp only [push_cast, ↓reduceIte, Nat.reduceEqDiff, reduceCtorEq, Nat.reduceAdd, Nat.reduceLT, Nat.reduceLeDiff, e0, e1, e2, e3, e4, e18, e19, e22, e10, e11, hlt, decide_true, w1]
      exact ⟨(i, z), ⟨dn (fun q => q hlt), rfl, rfl⟩, by show z - i < j - i; omega⟩
    · simp only [push_cast, ↓reduceIte, Nat.reduceEqDiff, reduceCtorEq, Nat.reduceAdd, Nat.reduceLT, Nat.reduceLeDiff, e0, e1, e2, e3, e4, e18, e19, e22, e10, e11, hlt, decide_false, w1]
      exact ⟨(z + 1, j), ⟨up hlt, by show (z : Int) + 1 = ((z + 1 : Nat) : Int); omega, rfl⟩, by show j - (z + 1) < j - i; omega⟩
  · have hij' : ¬ (i : Int) < j := by omega
    simp only [push_cast, ↓reduceIte, Nat.reduceEqDiff, reduceCtorEq, Nat.reduceAdd, Nat.reduceLT, Nat.reduceLeDiff, e0, e1, e4, e10, e11, hij', decide_false]
    refine hQ _ i (hh.cut hij) ?_ ?_ ?_ ?_ ?_ ?_ ?_ ?_ <;> simp only [push_cast, ↓reduceIte, Nat.reduceEqDiff, reduceCtorEq, Nat.reduceAdd, Nat.reduceLT, Nat.reduceLeDiff, e0, e1, e2, e3, e4, e18, e19, e10, e11]
theorem AU (E : cY P enc c sz ag k as0 bs) (h : t < H.length) (p y r : List β) (e : β) {m cp i : Nat} {ex : Bool} (hm : m = (p ++ e :: (y ++ r)).length) (hs : m < 1099511627776) (hi : i = p.length + 1 + y.length) {f : AF} {Q : AE → AF → AH → Prop}
    (e0 : f 0 = .ref sz t 0 m cp ex) (e10 : f 10 = .int .i64 i) (e13 : f 13 = .int .i64 p.length) (hQ : ∀ f : AF, Q .normal f (LH enc sz t H (p ++ (y ++ e :: r)))) :
    (sV sz ag kr kz).wp P Q f (LH enc sz t H (p ++ e :: (y ++ r))) := by
  unfold sV
  simp only [push_cast, ↓reduceIte, Nat.reduceEqDiff, reduceCtorEq, Nat.reduceAdd, Nat.reduceLT, Nat.reduceLeDiff]
  simp only [List.length_append, List.length_cons] at hm
  refine aI (fun (s : List β × List β) f H' => y = s.1 ++ s.2 ∧ H' = LH enc sz t H (p ++ (s.1 ++ e :: (s.2 ++ r))) ∧ f 0 = .ref sz t 0 m cp ex ∧ f 10 = .int .i64 i ∧ f 13 = .int .i64 ((p.length + s.1.length : Nat) : Int)) (fun s => s.2.length) ([], y) ⟨rfl, rfl, e0, e10, e13⟩ ?_
  rintro ⟨y1, y2⟩ f H' ⟨rfl, rfl, e0, e10, e13⟩
  dsimp only at e10 e13 ⊢
  simp only [List.length_append] at hm hi
  have w0 : IntKind.i64.wrap ((i : Int) - 1) = (i : Int) - 1 := aE (by omega) (by omega)
  cases y2 with
  | nil =>
    have hlt : ¬ (((p.length + y1.length : Nat) : Int) < (i : Int) - 1) := by simp at hi; omega
    generalize p.length + y1.length = A at hlt e13
    simp only [push_cast, ↓reduceIte, Nat.reduceEqDiff, reduceCtorEq, Nat.reduceAdd, Nat.reduceLT, Nat.reduceLeDiff, e0, e10, e13, w0, hlt, decide_false]
    have hQ' : ∀ f : AF, Q .normal f (LH enc sz t H (p ++ (y1 ++ e :: r))) := by simpa using hQ
    exact hQ' _
  | cons z y2 =>
    simp only [List.length_cons] at hi hm
    have hlt : ((p.length + y1.length : Nat) : Int) < (i : Int) - 1 := by omega
    have key := E.two h (p ++ y1) [] (y2 ++ r) e z
    simp only [List.length_append, List.append_assoc, List.nil_append, List.length_nil, Nat.add_zero, List.cons_append] at key ⊢
    obtain ⟨k1, k2, H1, k3, k4⟩ := key
    have hA : p.length + y1.length + 1 < m := by omega
    generalize hAe : p.length + y1.length = A at k1 k2 k3 k4 hA hlt e13
    have w1 : IntKind.i64.wrap ((A : Int) + 1) = (A : Int) + 1 := aE (by omega) (by omega)
    have i1 : aF sz (.ref sz t 0 m cp ex) (.int .i64 (A : Int)) = some (.ptr t A 0) := aP rfl (by omega)
    have i2 : aF sz (.ref sz t 0 m cp ex) (.int .i64 ((A : Int) + 1)) = some (.ptr t (A + 1) 0) := aP (by omega) (by omega)
    simp only [push_cast, ↓reduceIte, Nat.reduceEqDiff, reduceCtorEq, Nat.reduceAdd, Nat.reduceLT, Nat.reduceLeDiff, e0, e10, e13, w0, hlt, decide_true, w1, i1, i2, k1, k2, k3, k4]
    exact ⟨(y1 ++ [z], y2), ⟨by simp, by simp, by simp; omega⟩, by show y2.length < y2.length + 1; omega⟩
theorem AW (E : cY P enc c sz ag k as0 bs) (h : t < H.length) (p x r : List β) (e : β) {m cp i : Nat} {ex : Bool} (hm : m = (p ++ (x ++ e :: r)).length) (hs : m < 1099511627776) (hi : i = p.length) {f : AF} {Q : AE → AF → AH → Prop}
    (e0 : f 0 = .ref sz t 0 m cp ex) (e14 : f 14 = .int .i64 i) (e17 : f 17 = .int .i64 ((p.length + x.length : Nat) : Int)) (hQ : ∀ f : AF, Q .normal f (LH enc sz t H (p ++ e :: (x ++ r)))) :
    (sT sz ag kr kz).wp P Q f (LH enc sz t H (p ++ (x ++ e :: r))) := by
  unfold sT
  simp only [push_cast, ↓reduceIte, Nat.reduceEqDiff, reduceCtorEq, Nat.reduceAdd, Nat.reduceLT, Nat.reduceLeDiff]
  simp only [List.length_append, List.length_cons] at hm
  refine aI (fun (s : List β × List β) f H' => x = s.1.reverse ++ s.2 ∧ H' = LH enc sz t H (p ++ (s.1.reverse ++ e :: (s.2 ++ r))) ∧ f 0 = .ref sz t 0 m cp ex ∧ f 14 = .int .i64 i ∧ f 17 = .int .i64 ((p.length + s.1.length : Nat) : Int)) (fun s => s.1.length) (x.reverse, []) ⟨by simp, by simp, e0, e14, by simpa using e17⟩ ?_
  rintro ⟨x1, x2⟩ f H' ⟨rfl, rfl, e0, e14, e17⟩
  dsimp only at e17 ⊢
  cases x1 with
  | nil =>
    have hgt : ¬ (((p.length + ([] : List β).length : Nat) : Int) > (i : Int)) := by simp; omega
    generalize p.length + ([] : List β).length = A at hgt e17
    simp only [push_cast, ↓reduceIte, Nat.reduceEqDiff, reduceCtorEq, Nat.reduceAdd, Nat.reduceLT, Nat.reduceLeDiff, e0, e14, e17, hgt, decide_false]
    exact hQ _
  | cons z x1 =>
    simp only [List.length_append, List.length_reverse, List.length_cons] at hm
    have hgt : ((p.length + (z :: x1).length : Nat) : Int) > (i : Int) := by simp; omega
    have key := E.two h (p ++ x1.reverse) [] (x2 ++ r) z e
    simp only [List.length_append, List.length_reverse, List.append_assoc, List.nil_append, List.length_nil, Nat.add_zero, List.cons_append] at key
    simp only [List.reverse_cons, List.append_assoc, List.cons_append, List.nil_append, List.length_cons] at hgt e17 ⊢
    obtain ⟨k1, k2, H1, k3, k4⟩ := key
    have key2 := E.owt h (p ++ x1.reverse) [] (x2 ++ r) z e
    simp only [List.length_append, List.length_reverse, List.append_assoc, List.nil_append, List.length_nil, Nat.add_zero, List.cons_append] at key2
    obtain ⟨H2, k5, k6⟩ := key2
    have hA : p.length + x1.length + 1 < m := by omega
    rw [← Nat.add_assoc] at hgt e17
    generalize hAe : p.length + x1.length = A at k1 k2 k3 k4 k5 k6 hA hgt e17
    have w1 : IntKind.i64.wrap (((A + 1 : Nat) : Int) - 1) = (A : Int) := aX (by omega) (by omega)
    have i1 : aF sz (.ref sz t 0 m cp ex) (.int .i64 (A : Int)) = some (.ptr t A 0) := aP rfl (by omega)
    have i2 : aF sz (.ref sz t 0 m cp ex) (.int .i64 ((A + 1 : Nat) : Int)) = some (.ptr t (A + 1) 0) := aP rfl (by omega)
    have hx : (A : Int) = ((p.length + x1.length : Nat) : Int) := by omega
    generalize A + 1 = B at k2 k3 k4 k5 k6 w1 i2 hgt e17
    simp only [push_cast, ↓reduceIte, Nat.reduceEqDiff, reduceCtorEq, Nat.reduceAdd, Nat.reduceLT, Nat.reduceLeDiff, e0, e14, e17, hgt, decide_true, w1, i1, i2, k1, k2, k5, k6]
    exact ⟨(x1, z :: x2), ⟨by simp, by simp, hx⟩, by show x1.length < x1.length + 1; omega⟩
end
end Go.Eng
end
section
namespace Go.Eng
open Go Go.Sort
set_option linter.unusedSimpArgs false
set_option linter.unusedVariables false
set_option linter.unusedSectionVars false
set_option linter.unnecessarySimpa false
set_option maxRecDepth 10000
section
variable {β : Type} [Inhabited β] {enc : β → AV} {sz t : Nat} {H : AH} {P : Program} {c : β → β → Int} {ag : Bool} {k : FuncId} {as0 bs : List AV} {kr kw kz : FuncId}
theorem sX {f : AF} {Q : AE → AF → AH → Prop} {x y v : Nat} (ea : f 20 = .int .i64 x) (eb : f 2 = .int .i64 y) (ed : f 24 = .int .i64 v)
    (hQ : ∀ (f' : AF) (z : Bool), (z = true ↔ x < y ∧ y < v) → f' 185 = .bool z → f' 0 = f 0 → f' 1 = f 1 → f' 2 = f 2 → f' 3 = f 3 → f' 4 = f 4 → f' 18 = f 18 → f' 20 = f 20 → f' 24 = f 24 → Q .normal f' H) :
    (iH sz ag kr kz).wp P Q f H := by
  unfold iH
  by_cases h1 : x < y
  · have h1' : (x : Int) < y := by omega
    by_cases h2 : y < v
    · have h2' : (y : Int) < v := by omega
      simp only [push_cast, ↓reduceIte, Nat.reduceEqDiff, reduceCtorEq, Nat.reduceAdd, Nat.reduceLT, Nat.reduceLeDiff, ea, eb, ed, h1', h2', decide_true]
      refine hQ _ true (by simp [h1, h2]) ?_ ?_ ?_ ?_ ?_ ?_ ?_ ?_ ?_ <;> simp only [push_cast, ↓reduceIte, Nat.reduceEqDiff, reduceCtorEq, Nat.reduceAdd, Nat.reduceLT, Nat.reduceLeDiff, ea, eb, ed]
    · have h2' : ¬ (y : Int) < v := by omega
      simp only [push_cast, ↓reduceIte, Nat.reduceEqDiff, reduceCtorEq, Nat.reduceAdd, Nat.reduceLT, Nat.reduceLeDiff, ea, eb, ed, h1', h2', decide_true, decide_false]
      refine hQ _ false (by simp [h2]) ?_ ?_ ?_ ?_ ?_ ?_ ?_ ?_ ?_ <;> simp only [push_cast, ↓reduceIte, Nat.reduceEqDiff, reduceCtorEq, Nat.reduceAdd, Nat.reduceLT, Nat.reduceLeDiff, ea, eb, ed]
  · have h1' : ¬ (x : Int) < y := by omega
    simp only [push_cast, ↓reduceIte, Nat.reduceEqDiff, reduceCtorEq, Nat.reduceAdd, Nat.reduceLT, Nat.reduceLeDiff, ea, eb, ed, h1', decide_false]
    refine hQ _ false (by simp [h1]) ?_ ?_ ?_ ?_ ?_ ?_ ?_ ?_ ?_ <;> simp only [push_cast, ↓reduceIte, Nat.reduceEqDiff, reduceCtorEq, Nat.reduceAdd, Nat.reduceLT, Nat.reduceLeDiff, ea, eb, ed]
theorem sY {f : AF} {Q : AE → AF → AH → Prop} {x y v : Nat} (ea : f 1 = .int .i64 x) (eb : f 20 = .int .i64 y) (ed : f 18 = .int .i64 v)
    (hQ : ∀ (f' : AF) (z : Bool), (z = true ↔ x < y ∧ y < v) → f' 199 = .bool z → f' 0 = f 0 → f' 1 = f 1 → f' 2 = f 2 → f' 3 = f 3 → f' 4 = f 4 → f' 18 = f 18 → f' 20 = f 20 → f' 24 = f 24 → Q .normal f' H) :
    (iI sz ag kr kz).wp P Q f H := by
  unfold iI
  by_cases h1 : x < y
  · have h1' : (x : Int) < y := by omega
    by_cases h2 : y < v
    · have h2' : (y : Int) < v := by omega
      simp only [push_cast, ↓reduceIte, Nat.reduceEqDiff, reduceCtorEq, Nat.reduceAdd, Nat.reduceLT, Nat.reduceLeDiff, ea, eb, ed, h1', h2', decide_true]
      refine hQ _ true (by simp [h1, h2]) ?_ ?_ ?_ ?_ ?_ ?_ ?_ ?_ ?_ <;> simp only [push_cast, ↓reduceIte, Nat.reduceEqDiff, reduceCtorEq, Nat.reduceAdd, Nat.reduceLT, Nat.reduceLeDiff, ea, eb, ed]
    · have h2' : ¬ (y : Int) < v := by omega
      simp only [push_cast, ↓reduceIte, Nat.reduceEqDiff, reduceCtorEq, Nat.reduceAdd, Nat.reduceLT, Nat.reduceLeDiff, ea, eb, ed, h1', h2', decide_true, decide_false]
      refine hQ _ false (by simp [h2]) ?_ ?_ ?_ ?_ ?_ ?_ ?_ ?_ ?_ <;> simp only [push_cast, ↓reduceIte, Nat.reduceEqDiff, reduceCtorEq, Nat.reduceAdd, Nat.reduceLT, Nat.reduceLeDiff, ea, eb, ed]
  · have h1' : ¬ (x : Int) < y := by omega
    simp only [push_cast, ↓reduceIte, Nat.reduceEqDiff, reduceCtorEq, Nat.reduceAdd, Nat.reduceLT, Nat.reduceLeDiff, ea, eb, ed, h1', decide_false]
    refine hQ _ false (by simp [h1]) ?_ ?_ ?_ ?_ ?_ ?_ ?_ ?_ ?_ <;> simp only [push_cast, ↓reduceIte, Nat.reduceEqDiff, reduceCtorEq, Nat.reduceAdd, Nat.reduceLT, Nat.reduceLeDiff, ea, eb, ed]
theorem sZ {f : AF} {Q : AE → AF → AH → Prop} {x y v : Nat} (ea : f 18 = .int .i64 x) (eb : f 24 = .int .i64 y) (ed : f 3 = .int .i64 v)
    (hQ : ∀ (f' : AF) (z : Bool), (z = true ↔ x < y ∧ y < v) → f' 213 = .bool z → f' 0 = f 0 → f' 1 = f 1 → f' 2 = f 2 → f' 3 = f 3 → f' 4 = f 4 → f' 18 = f 18 → f' 20 = f 20 → f' 24 = f 24 → Q .normal f' H) :
    (iJ sz ag kr kz).wp P Q f H := by
  unfold iJ
  by_cases h1 : x < y
  · have h1' : (x : Int) < y := by omega
    by_cases h2 : y < v
    · have h2' : (y : Int) < v := by omega
      simp only [push_cast, ↓reduceIte, Nat.reduceEqDiff, reduceCtorEq, Nat.reduceAdd, Nat.reduceLT, Nat.reduceLeDiff, ea, eb, ed, h1', h2', decide_true]
      refine hQ _ true (by simp [h1, h2]) ?_ ?_ ?_ ?_ ?_ ?_ ?_ ?_ ?_ <;> simp only [push_cast, ↓reduceIte, Nat.reduceEqDiff, reduceCtorEq, Nat.reduceAdd, Nat.reduceLT, Nat.reduceLeDiff, ea, eb, ed]
    · have h2' : ¬ (y : Int) < v := by omega
      simp only [push_cast, ↓reduceIte, Nat.reduceEqDiff, reduceCtorEq, Nat.reduceAdd, Nat.reduceLT, Nat.reduceLeDiff, ea, eb, ed, h1', h2', decide_true, decide_false]
      refine hQ _ false (by simp [h2]) ?_ ?_ ?_ ?_ ?_ ?_ ?_ ?_ ?_ <;> simp only [push_cast, ↓reduceIte, Nat.reduceEqDiff, reduceCtorEq, Nat.reduceAdd, Nat.reduceLT, Nat.reduceLeDiff, ea, eb, ed]
  · have h1' : ¬ (x : Int) < y := by omega
    simp only [push_cast, ↓reduceIte, Nat.reduceEqDiff, reduceCtorEq, Nat.reduceAdd, Nat.reduceLT, Nat.reduceLeDiff, ea, eb, ed, h1', decide_false]
    refine hQ _ false (by simp [h1]) ?_ ?_ ?_ ?_ ?_ ?_ ?_ ?_ ?_ <;> simp only [push_cast, ↓reduceIte, Nat.reduceEqDiff, reduceCtorEq, Nat.reduceAdd, Nat.reduceLT, Nat.reduceLeDiff, ea, eb, ed]
theorem tA {f : AF} {Q : AE → AF → AH → Prop} {a q b mid n : Nat} (hn : n = mid + q) (hnb : q > mid → b ≤ n) (hs : n < 4398046511104) (e1 : f 1 = .int .i64 a) (e2 : f 2 = .int .i64 q) (e3 : f 3 = .int .i64 b) (e18 : f 18 = .int .i64 mid) (e19 : f 19 = .int .i64 n) (e140 : f 140 = .bool (decide ((q : Int) > mid)))
    (hQ : ∀ (f' : AF) (lo hi : Nat), (q > mid ∧ lo = n - b ∧ hi = mid ∨ q ≤ mid ∧ lo = a ∧ hi = q) → f' 20 = .int .i64 lo → f' 21 = .int .i64 hi → f' 0 = f 0 → f' 1 = f 1 → f' 2 = f 2 → f' 3 = f 3 → f' 4 = f 4 → f' 18 = f 18 → f' 19 = f 19 → Q .normal f' H) :
    (lC sz ag kr kz).wp P Q f H := by
  unfold lC
  by_cases h1 : q > mid
  · have h1' : (q : Int) > mid := by omega
    have w1 : IntKind.i64.wrap ((n : Int) - b) = ((n - b : Nat) : Int) := aX (by have := hnb h1; omega) (by omega)
    simp only [push_cast, ↓reduceIte, Nat.reduceEqDiff, reduceCtorEq, Nat.reduceAdd, Nat.reduceLT, Nat.reduceLeDiff, e1, e2, e3, e18, e19, e140, h1', decide_true, w1]
    refine hQ _ (n - b) mid (.inl ⟨h1, rfl, rfl⟩) ?_ ?_ ?_ ?_ ?_ ?_ ?_ ?_ ?_ <;> simp only [push_cast, ↓reduceIte, Nat.reduceEqDiff, reduceCtorEq, Nat.reduceAdd, Nat.reduceLT, Nat.reduceLeDiff, w1]
  · have h1' : ¬ (q : Int) > mid := by omega
    simp only [push_cast, ↓reduceIte, Nat.reduceEqDiff, reduceCtorEq, Nat.reduceAdd, Nat.reduceLT, Nat.reduceLeDiff, e1, e2, e3, e18, e19, e140, h1', decide_false]
    refine hQ _ a q (.inr ⟨by omega, rfl, rfl⟩) ?_ ?_ ?_ ?_ ?_ ?_ ?_ ?_ ?_ <;> simp only [push_cast, ↓reduceIte, Nat.reduceEqDiff, reduceCtorEq, Nat.reduceAdd, Nat.reduceLT, Nat.reduceLeDiff]
theorem tB (hr : aD P kr = some (LJ sz ag kw)) (hw : aD P kw = some (JI sz ag)) (E : cY P enc c sz ag k as0 bs) (h : t < H.length) (p x y r : List β) {m cp : Nat} {ex : Bool} (hm : m = (p ++ x ++ y ++ r).length) (hs : m < 1099511627776) {s q e : Nat} (h1 : s = p.length) (h2 : q = (p ++ x).length) (h3 : e = (p ++ x ++ y).length) {f : AF} {Q : AE → AF → AH → Prop} {z : Bool} (hz : z = true ↔ s < q ∧ q < e) (e185 : f 185 = .bool z)
    (e0 : f 0 = .ref sz t 0 m cp ex) (e2 : f 2 = .int .i64 q) (e4 : f 4 = .fn k as0 bs) (e20 : f 20 = .int .i64 s) (e24 : f 24 = .int .i64 e)
    (hQ : ∀ f' : AF, f' 0 = f 0 → f' 1 = f 1 → f' 2 = f 2 → f' 3 = f 3 → f' 4 = f 4 → f' 18 = f 18 → f' 20 = f 20 → f' 24 = f 24 → Q .normal f' (LH enc sz t H (p ++ y ++ x ++ r))) :
    (iD sz ag kr kz).wp P Q f (LH enc sz t H (p ++ x ++ y ++ r)) := by
  unfold iD
  simp only [List.length_append] at h2 h3
  cases z with
  | false =>
    have hno : ¬ (s < q ∧ q < e) := fun hh => by have := hz.2 hh; cases this
    have he : p ++ x ++ y ++ r = p ++ y ++ x ++ r := by
      by_cases hx : x.length = 0
      · rw [List.eq_nil_of_length_eq_zero hx]; simp
      · have hy : y.length = 0 := by omega
        rw [List.eq_nil_of_length_eq_zero hy]; simp
    simp only [push_cast, ↓reduceIte, Nat.reduceEqDiff, reduceCtorEq, Nat.reduceAdd, Nat.reduceLT, Nat.reduceLeDiff, e185]
    rw [he]
    exact hQ f rfl rfl rfl rfl rfl rfl rfl rfl
  | true =>
    have hh := hz.1 rfl
    simp only [push_cast, ↓reduceIte, Nat.reduceEqDiff, reduceCtorEq, Nat.reduceAdd, Nat.reduceLT, Nat.reduceLeDiff, e185, e0, e2, e4, e20, e24]
    refine (GA hr hw E h p x y r hm hs h1 (by simp only [List.length_append]; exact h2) (by simp only [List.length_append]; exact h3) (by omega) (by omega) _).mono fun _ H' hH => ?_
    subst hH
    simp only [push_cast, ↓reduceIte, Nat.reduceEqDiff, reduceCtorEq, Nat.reduceAdd, Nat.reduceLT, Nat.reduceLeDiff]
    refine hQ _ ?_ ?_ ?_ ?_ ?_ ?_ ?_ ?_ <;> simp only [push_cast, ↓reduceIte, Nat.reduceEqDiff, reduceCtorEq, Nat.reduceAdd, Nat.reduceLT, Nat.reduceLeDiff]
def SQ (P : Program) (enc : β → AV) (c : β → β → Int) (sz t : Nat) (H : AH) (kz k : FuncId) (as0 bs : List AV) (m cp : Nat) (ex : Bool) (N : Nat) : Prop :=
  ∀ (p x y r : List β), x.length + y.length < N → m = (p ++ x ++ y ++ r).length → 0 < x.length → 0 < y.length → Stab.Srt c x → Stab.Srt c y → ∀ a q b : Nat, a = p.length → q = (p ++ x).length → b = (p ++ x ++ y).length →
    aC P kz [.ref sz t 0 m cp ex, .int .i64 a, .int .i64 q, .int .i64 b, .fn k as0 bs] (LH enc sz t H (p ++ x ++ y ++ r)) fun _ H' => ∃ z, Stab.Mrg c x y z ∧ H' = LH enc sz t H (p ++ z ++ r)
theorem tC (p x y r : List β) {m cp N : Nat} {ex : Bool} (R : SQ P enc c sz t H kz k as0 bs m cp ex N) (hm : m = (p ++ x ++ y ++ r).length) (hN : x.length + y.length < N) (sx : Stab.Srt c x) (sy : Stab.Srt c y) {s q e : Nat} (h1 : s = p.length) (h2 : q = (p ++ x).length) (h3 : e = (p ++ x ++ y).length) {f : AF} {Q : AE → AF → AH → Prop} {z : Bool} (hz : z = true ↔ s < q ∧ q < e) (ez : f 199 = .bool z)
    (e0 : f 0 = .ref sz t 0 m cp ex) (ea : f 1 = .int .i64 s) (eq : f 20 = .int .i64 q) (eb : f 18 = .int .i64 e) (e4 : f 4 = .fn k as0 bs)
    (hQ : ∀ (f' : AF) (zz : List β), Stab.Mrg c x y zz → f' 0 = f 0 → f' 1 = f 1 → f' 2 = f 2 → f' 3 = f 3 → f' 4 = f 4 → f' 18 = f 18 → f' 20 = f 20 → f' 24 = f 24 → Q .normal f' (LH enc sz t H (p ++ zz ++ r))) :
    (iE sz ag kr kz).wp P Q f (LH enc sz t H (p ++ x ++ y ++ r)) := by
  unfold iE
  have h2' := h2
  have h3' := h3
  simp only [List.length_append] at h2' h3'
  cases z with
  | false =>
    have hno : ¬ (s < q ∧ q < e) := fun hh => by have := hz.2 hh; cases this
    simp only [push_cast, ↓reduceIte, Nat.reduceEqDiff, reduceCtorEq, Nat.reduceAdd, Nat.reduceLT, Nat.reduceLeDiff, ez]
    by_cases hx : x.length = 0
    · have hx0 := List.eq_nil_of_length_eq_zero hx
      subst hx0
      have := hQ f y (Stab.Mrg.nil_left sy) rfl rfl rfl rfl rfl rfl rfl rfl
      simpa using this
    · have hy0 := List.eq_nil_of_length_eq_zero (show y.length = 0 by omega)
      subst hy0
      have := hQ f x (Stab.Mrg.nil_right sx) rfl rfl rfl rfl rfl rfl rfl rfl
      simpa using this
  | true =>
    have hh := hz.1 rfl
    simp only [push_cast, ↓reduceIte, Nat.reduceEqDiff, reduceCtorEq, Nat.reduceAdd, Nat.reduceLT, Nat.reduceLeDiff, ez, e0, ea, eq, eb, e4]
    refine (R p x y r hN hm (by omega) (by omega) sx sy s q e h1 h2 h3).mono fun _ H' ⟨zz, g1, g2⟩ => ?_
    subst g2
    simp only [push_cast, ↓reduceIte, Nat.reduceEqDiff, reduceCtorEq, Nat.reduceAdd, Nat.reduceLT, Nat.reduceLeDiff]
    refine hQ _ zz g1 ?_ ?_ ?_ ?_ ?_ ?_ ?_ ?_ <;> simp only [push_cast, ↓reduceIte, Nat.reduceEqDiff, reduceCtorEq, Nat.reduceAdd, Nat.reduceLT, Nat.reduceLeDiff]
theorem tD (p x y r : List β) {m cp N : Nat} {ex : Bool} (R : SQ P enc c sz t H kz k as0 bs m cp ex N) (hm : m = (p ++ x ++ y ++ r).length) (hN : x.length + y.length < N) (sx : Stab.Srt c x) (sy : Stab.Srt c y) {s q e : Nat} (h1 : s = p.length) (h2 : q = (p ++ x).length) (h3 : e = (p ++ x ++ y).length) {f : AF} {Q : AE → AF → AH → Prop} {z : Bool} (hz : z = true ↔ s < q ∧ q < e) (ez : f 213 = .bool z)
    (e0 : f 0 = .ref sz t 0 m cp ex) (ea : f 18 = .int .i64 s) (eq : f 24 = .int .i64 q) (eb : f 3 = .int .i64 e) (e4 : f 4 = .fn k as0 bs)
    (hQ : ∀ (f' : AF) (zz : List β), Stab.Mrg c x y zz → f' 0 = f 0 → f' 1 = f 1 → f' 2 = f 2 → f' 3 = f 3 → f' 4 = f 4 → f' 18 = f 18 → f' 20 = f 20 → f' 24 = f 24 → Q .normal f' (LH enc sz t H (p ++ zz ++ r))) :
    (iG sz ag kr kz).wp P Q f (LH enc sz t H (p ++ x ++ y ++ r)) := by
  unfold iG
  have h2' := h2
  have h3' := h3
  simp only [List.length_append] at h2' h3'
  cases z with
  | false =>
    have hno : ¬ (s < q ∧ q < e) := fun hh => by have := hz.2 hh; cases this
    simp only [push_cast, ↓reduceIte, Nat.reduceEqDiff, reduceCtorEq, Nat.reduceAdd, Nat.reduceLT, Nat.reduceLeDiff, ez]
    by_cases hx : x.length = 0
    · have hx0 := List.eq_nil_of_length_eq_zero hx
      subst hx0
      have := hQ f y (Stab.Mrg.nil_left sy) rfl rfl rfl rfl rfl rfl rfl rfl
      simpa using this
    · have hy0 := List.eq_nil_of_length_eq_zero (show y.length = 0 by omega)
      subst hy0
      have := hQ f x (Stab.Mrg.nil_right sx) rfl rfl rfl rfl rfl rfl rfl rfl
      simpa using this
  | true =>
    have hh := hz.1 rfl
    simp only [push_cast, ↓reduceIte, Nat.reduceEqDiff, reduceCtorEq, Nat.reduceAdd, Nat.reduceLT, Nat.reduceLeDiff, ez, e0, ea, eq, eb, e4]
    refine (R p x y r hN hm (by omega) (by omega) sx sy s q e h1 h2 h3).mono fun _ H' ⟨zz, g1, g2⟩ => ?_
    subst g2
    simp only [push_cast, ↓reduceIte, Nat.reduceEqDiff, reduceCtorEq, Nat.reduceAdd, Nat.reduceLT, Nat.reduceLeDiff]
    refine hQ _ zz g1 ?_ ?_ ?_ ?_ ?_ ?_ ?_ ?_ <;> simp only [push_cast, ↓reduceIte, Nat.reduceEqDiff, reduceCtorEq, Nat.reduceAdd, Nat.reduceLT, Nat.reduceLeDiff]
end
end Go.Eng
end
section
namespace Go.Eng
open Go Go.Sort
set_option linter.unusedSimpArgs false
set_option linter.unusedVariables false
set_option linter.unusedSectionVars false
set_option linter.unnecessarySimpa false
set_option maxRecDepth 10000
set_option maxHeartbeats 4000000
section
variable {β : Type} [Inhabited β] {enc : β → AV} {sz t : Nat} {H : AH} {P : Program} {c : β → β → Int} {ag : Bool} {k : FuncId} {as0 bs : List AV} {kr kw kz : FuncId}
theorem eM {x : List β} (O : Stab.Ord c) (h : Stab.Srt c x) {i j : Nat} (hij : i ≤ j) (hj : j < x.length) : c x[i] x[j] ≤ 0 :=
  Stab.srt_get O h hij (List.getElem?_eq_getElem (by omega)) (List.getElem?_eq_getElem hj)
theorem mem_take' {x : List β} {n : Nat} {e : β} (h : e ∈ x.take n) : ∃ i, ∃ hi : i < x.length, i < n ∧ e = x[i] := by
  obtain ⟨i, hi, rfl⟩ := List.mem_iff_getElem.1 h
  rw [List.length_take] at hi
  exact ⟨i, by omega, by omega, by rw [List.getElem_take]⟩
theorem mem_drop' {x : List β} {n : Nat} {e : β} (h : e ∈ x.drop n) : ∃ i, ∃ hi : i < x.length, n ≤ i ∧ e = x[i] := by
  obtain ⟨i, hi, rfl⟩ := List.mem_iff_getElem.1 h
  rw [List.length_drop] at hi
  exact ⟨n + i, by omega, by omega, by rw [List.getElem_drop]⟩
theorem LL (O : Stab.Ord c) (p x y r : List β) (sx : Stab.Srt c x) (sy : Stab.Srt c y) {a q b n pp lo hi s : Nat} (ha : a = p.length) (hq : q = p.length + x.length) (hb : b = p.length + x.length + y.length) (l1 : a ≤ lo) (l3 : hi ≤ q) (l4 : n ≤ hi + b) (l5 : q + hi ≤ n) (l6 : n ≤ b + lo) (hpp : pp = n - 1) (hhi : hi = q ∨ q + hi = n) (hlo : lo = a ∨ n = b + lo)
    (hcut : Cut (fun u => ¬ c (p ++ x ++ y ++ r).toArray[pp - u]! (p ++ x ++ y ++ r).toArray[u]! < 0) lo hi s) :
    ∃ x1 x2 y1 y2, x = x1 ++ x2 ∧ y = y1 ++ y2 ∧ x1.length = s - a ∧ y1.length = n - s - q ∧ (∀ u ∈ x2, ∀ v ∈ y1, c v u < 0) ∧ (∀ u ∈ x1, ∀ v ∈ y2, c u v ≤ 0) := by
  have hc1 := hcut.lo_
  have hc2 := hcut.hi_
  have left := hcut.left
  have right := hcut.right
  clear hcut
  have Dx : ∀ i (hi : i < x.length), (p ++ x ++ y ++ r).toArray[a + i]! = x[i] := fun i hi => by
    have := jA p x (y ++ r) hi
    rw [ha]; simpa using this
  have Dy : ∀ i (hi : i < y.length), (p ++ x ++ y ++ r).toArray[q + i]! = y[i] := fun i hi => by
    have := jA (p ++ x) y r hi
    rw [hq]; simpa using this
  generalize hen : n - s = en
  have e1 : (x.take (s - a)).length = s - a := by rw [List.length_take]; omega
  have e2 : (y.take (en - q)).length = en - q := by rw [List.length_take]; omega
  refine ⟨x.take (s - a), x.drop (s - a), y.take (en - q), y.drop (en - q), (List.take_append_drop _ _).symm, (List.take_append_drop _ _).symm, e1, e2, fun u hu v hv => ?_, fun u hu v hv => ?_⟩
  · obtain ⟨i, h1, h2, rfl⟩ := mem_drop' hu
    obtain ⟨j, h3, h4, rfl⟩ := mem_take' hv
    have := right s (Nat.le_refl _) (by omega)
    have g1 := Dx (s - a) (by omega)
    have g2 := Dy (en - 1 - q) (by omega)
    rw [show a + (s - a) = s by omega] at g1
    rw [show q + (en - 1 - q) = pp - s by omega] at g2
    rw [g1, g2] at this
    exact O.lt_le (O.le_lt (eM O sy (show j ≤ en - 1 - q by omega) (by omega)) (Classical.not_not.1 this)) (eM O sx h2 h1)
  · obtain ⟨i, h1, h2, rfl⟩ := mem_take' hu
    obtain ⟨j, h3, h4, rfl⟩ := mem_drop' hv
    have := left (s - 1) (by omega) (by omega)
    have g1 := Dx (s - 1 - a) (by omega)
    have g2 := Dy (en - q) (by omega)
    rw [show a + (s - 1 - a) = s - 1 by omega] at g1
    rw [show q + (en - q) = pp - (s - 1) by omega] at g2
    rw [g1, g2] at this
    have sw := O.sw y[en - q] x[s - 1 - a]
    exact O.tr _ _ _ (O.tr _ _ _ (eM O sx (show i ≤ s - 1 - a by omega) (by omega)) (by omega)) (eM O sy h4 h3)
theorem GC (hr : aD P kr = some (LJ sz ag kw)) (hw : aD P kw = some (JI sz ag)) (E : cY P enc c sz ag k as0 bs) (O : Stab.Ord c) (h : t < H.length) (p x1 x2 y1 y2 r : List β) {m cp N : Nat} {ex : Bool} (ih : SQ P enc c sz t H kz k as0 bs m cp ex N) (hm : m = (p ++ (x1 ++ x2) ++ (y1 ++ y2) ++ r).length) (hs : m < 1099511627776) (hN : x1.length + y1.length < N) (hN2 : x2.length + y2.length < N) (sx1 : Stab.Srt c x1) (sx2 : Stab.Srt c x2) (sy1 : Stab.Srt c y1) (sy2 : Stab.Srt c y2)
    {a q b mid n s en : Nat} (a_ : a = p.length) (s_ : s = p.length + x1.length) (q_ : q = p.length + x1.length + x2.length) (mid_ : mid = p.length + x1.length + y1.length) (en_ : en = p.length + x1.length + x2.length + y1.length) (b_ : b = p.length + x1.length + x2.length + y1.length + y2.length) (n_ : n = s + en)
    {f : AF} {Q : AE → AF → AH → Prop} (e0 : f 0 = .ref sz t 0 m cp ex) (e1 : f 1 = .int .i64 a) (e2 : f 2 = .int .i64 q) (e3 : f 3 = .int .i64 b) (e4 : f 4 = .fn k as0 bs) (e18 : f 18 = .int .i64 mid) (e19 : f 19 = .int .i64 n) (e20 : f 20 = .int .i64 s)
    (hQ : ∀ (f : AF) (z1 z2 : List β), Stab.Mrg c x1 y1 z1 → Stab.Mrg c x2 y2 z2 → Q .normal f (LH enc sz t H (p ++ (z1 ++ z2) ++ r))) :
    (AC.seq (.ops [oo 175 (.mov (.t 19)), oo 176 (.mov (.t 20)), oo 177 (.bin .sub (.t 175) (.t 176)), oo 24 (.mov (.t 177))]) (.seq (.seq (iH sz ag kr kz) (iD sz ag kr kz)) (.seq (.seq (iI sz ag kr kz) (iE sz ag kr kz)) (.seq (iJ sz ag kr kz) (iG sz ag kr kz))))).wp P Q f (LH enc sz t H (p ++ (x1 ++ x2) ++ (y1 ++ y2) ++ r)) := by
  have w5 : IntKind.i64.wrap ((n : Int) - s) = ((en : Nat) : Int) := aX (by omega) (by simp only [List.length_append] at hm; omega)
  have hlist : p ++ (x1 ++ x2) ++ (y1 ++ y2) ++ r = (p ++ x1) ++ x2 ++ y1 ++ (y2 ++ r) := by simp
  have hlist2 : (p ++ x1) ++ y1 ++ x2 ++ (y2 ++ r) = p ++ x1 ++ y1 ++ (x2 ++ y2 ++ r) := by simp
  have hm1 : m = ((p ++ x1) ++ x2 ++ y1 ++ (y2 ++ r)).length := by rw [hm, hlist]
  have hm2 : m = (p ++ x1 ++ y1 ++ (x2 ++ y2 ++ r)).length := by rw [hm1]; simp only [List.length_append]; omega
  have c1 : s = (p ++ x1).length := by rw [List.length_append]; exact s_
  have c2 : q = (p ++ x1 ++ x2).length := by rw [List.length_append, List.length_append]; exact q_
  have c3 : en = (p ++ x1 ++ x2 ++ y1).length := by rw [List.length_append, List.length_append, List.length_append]; exact en_
  have c4 : mid = (p ++ x1 ++ y1).length := by rw [List.length_append, List.length_append]; exact mid_
  have fin : ∀ zz1 : List β, Stab.Mrg c x1 y1 zz1 → p ++ zz1 ++ (x2 ++ y2 ++ r) = (p ++ zz1) ++ x2 ++ y2 ++ r ∧ m = ((p ++ zz1) ++ x2 ++ y2 ++ r).length ∧ mid = (p ++ zz1).length ∧ en = (p ++ zz1 ++ x2).length ∧ b = (p ++ zz1 ++ x2 ++ y2).length := fun zz1 mg1 => by
    have hzl : zz1.length = x1.length + y1.length := by have := mg1.2.1; rw [List.length_append] at this; exact this.symm
    refine ⟨by simp, by rw [hm2]; simp only [List.length_append]; omega, by rw [List.length_append]; omega, by rw [List.length_append, List.length_append]; omega, by rw [List.length_append, List.length_append, List.length_append]; omega⟩
  clear hm s_ q_ mid_ en_ b_ n_
  rw [hlist]
  simp only [push_cast, ↓reduceIte, Nat.reduceEqDiff, reduceCtorEq, Nat.reduceAdd, Nat.reduceLT, Nat.reduceLeDiff, e19, e20, w5]
  refine sX (kr := kr) (kz := kz) (sz := sz) (ag := ag) (x := s) (y := q) (v := en) ?_ ?_ ?_ fun f1 z1 hz1 c185 d0 d1 d2 d3 d4 d18 d20 d24 => ?_
  all_goals first | (simp only [push_cast, ↓reduceIte, Nat.reduceEqDiff, reduceCtorEq, Nat.reduceAdd, Nat.reduceLT, Nat.reduceLeDiff, e0, e1, e2, e3, e4, e18, e19, e20, w5]; done) | skip
  have d0 : f1 0 = .ref sz t 0 m cp ex := by rw [d0]; simp only [push_cast, ↓reduceIte, Nat.reduceEqDiff, reduceCtorEq, Nat.reduceAdd, Nat.reduceLT, Nat.reduceLeDiff, e0]
  have d1 : f1 1 = .int .i64 a := by rw [d1]; simp only [push_cast, ↓reduceIte, Nat.reduceEqDiff, reduceCtorEq, Nat.reduceAdd, Nat.reduceLT, Nat.reduceLeDiff, e1]
  have d2 : f1 2 = .int .i64 q := by rw [d2]; simp only [push_cast, ↓reduceIte, Nat.reduceEqDiff, reduceCtorEq, Nat.reduceAdd, Nat.reduceLT, Nat.reduceLeDiff, e2]
  have d3 : f1 3 = .int .i64 b := by rw [d3]; simp only [push_cast, ↓reduceIte, Nat.reduceEqDiff, reduceCtorEq, Nat.reduceAdd, Nat.reduceLT, Nat.reduceLeDiff, e3]
  have d4 : f1 4 = .fn k as0 bs := by rw [d4]; simp only [push_cast, ↓reduceIte, Nat.reduceEqDiff, reduceCtorEq, Nat.reduceAdd, Nat.reduceLT, Nat.reduceLeDiff, e4]
  have d18 : f1 18 = .int .i64 mid := by rw [d18]; simp only [push_cast, ↓reduceIte, Nat.reduceEqDiff, reduceCtorEq, Nat.reduceAdd, Nat.reduceLT, Nat.reduceLeDiff, e18]
  have d20 : f1 20 = .int .i64 s := by rw [d20]; simp only [push_cast, ↓reduceIte, Nat.reduceEqDiff, reduceCtorEq, Nat.reduceAdd, Nat.reduceLT, Nat.reduceLeDiff, e20]
  have d24 : f1 24 = .int .i64 en := by rw [d24]; simp only [push_cast, ↓reduceIte, Nat.reduceEqDiff, reduceCtorEq, Nat.reduceAdd, Nat.reduceLT, Nat.reduceLeDiff, w5]
  clear e0 e1 e2 e3 e4 e18 e19 e20
  simp only [push_cast, ↓reduceIte, Nat.reduceEqDiff, reduceCtorEq, Nat.reduceAdd, Nat.reduceLT, Nat.reduceLeDiff]
  refine tB (kr := kr) (kz := kz) hr hw E h (p ++ x1) x2 y1 (y2 ++ r) hm1 hs (cp := cp) (ex := ex) (s := s) (q := q) (e := en) c1 c2 c3 hz1 c185 d0 d2 d4 d20 d24 fun f2 m0 m1 m2 m3 m4 m18 m20 m24 => ?_
  rw [d0] at m0; rw [d1] at m1; rw [d3] at m3; rw [d4] at m4; rw [d18] at m18; rw [d20] at m20; rw [d24] at m24
  clear d0 d1 d2 d3 d4 d18 d20 d24 c185 m2 hz1
  rw [hlist2]
  simp only [push_cast, ↓reduceIte, Nat.reduceEqDiff, reduceCtorEq, Nat.reduceAdd, Nat.reduceLT, Nat.reduceLeDiff]
  refine sY (kr := kr) (kz := kz) (sz := sz) (ag := ag) (x := a) (y := s) (v := mid) m1 m20 m18 fun f3 z3 hz3 c199 d0 d1 d2 d3 d4 d18 d20 d24 => ?_
  rw [m0] at d0; rw [m1] at d1; rw [m3] at d3; rw [m4] at d4; rw [m18] at d18; rw [m20] at d20; rw [m24] at d24
  clear m0 m1 m3 m4 m18 m20 m24 d2
  simp only [push_cast, ↓reduceIte, Nat.reduceEqDiff, reduceCtorEq, Nat.reduceAdd, Nat.reduceLT, Nat.reduceLeDiff]
  refine tC (kr := kr) (kz := kz) (sz := sz) (ag := ag) p x1 y1 (x2 ++ y2 ++ r) ih hm2 hN sx1 sy1 (s := a) (q := s) (e := mid) a_ c1 c4 hz3 c199 d0 d1 d20 d18 d4 fun f4 zz1 mg1 m0 m1 m2 m3 m4 m18 m20 m24 => ?_
  rw [d0] at m0; rw [d3] at m3; rw [d4] at m4; rw [d18] at m18; rw [d24] at m24
  clear d0 d1 d3 d4 d18 d20 d24 c199 m1 m2 m20 hz3
  obtain ⟨g1, g2, g3, g4, g5⟩ := fin zz1 mg1
  rw [g1]
  simp only [push_cast, ↓reduceIte, Nat.reduceEqDiff, reduceCtorEq, Nat.reduceAdd, Nat.reduceLT, Nat.reduceLeDiff]
  refine sZ (kr := kr) (kz := kz) (sz := sz) (ag := ag) (x := mid) (y := en) (v := b) m18 m24 m3 fun f5 z5 hz5 c213 d0 d1 d2 d3 d4 d18 d20 d24 => ?_
  rw [m0] at d0; rw [m3] at d3; rw [m4] at d4; rw [m18] at d18; rw [m24] at d24
  simp only [push_cast, ↓reduceIte, Nat.reduceEqDiff, reduceCtorEq, Nat.reduceAdd, Nat.reduceLT, Nat.reduceLeDiff]
  refine tD (kr := kr) (kz := kz) (sz := sz) (ag := ag) (p ++ zz1) x2 y2 r ih g2 hN2 sx2 sy2 (s := mid) (q := en) (e := b) g3 g4 g5 hz5 c213 d0 d18 d24 d3 d4 fun f6 zz2 mg2 n0 n1 n2 n3 n4 n18 n20 n24 => ?_
  have := hQ f6 zz1 zz2 mg1 mg2
  simpa using this
theorem GD (hc : aD P kz = some (SP sz ag kr kz)) (hr : aD P kr = some (LJ sz ag kw)) (hw : aD P kw = some (JI sz ag)) (E : cY P enc c sz ag k as0 bs) (O : Stab.Ord c) (h : t < H.length) {m cp : Nat} {ex : Bool} (hs : m < 1099511627776) : ∀ N, SQ P enc c sz t H kz k as0 bs m cp ex N := by
  intro N
  induction N with
  | zero => intro p x y r h1; omega
  | succ N ih =>
  intro p x y r hN hm hx0 hy0 sx sy a q b ha hq hb
  refine aU hc (by simp [SP]) ?_
  unfold SP
  have hq' := hq
  have hb' := hb
  have hm' := hm
  simp only [List.length_append] at hq' hb' hm'
  have Dx : ∀ i (hi : i < x.length), (p ++ x ++ y ++ r).toArray[a + i]! = x[i] := fun i hi => by
    have := jA p x (y ++ r) hi
    rw [ha]; simpa using this
  have Dy : ∀ i (hi : i < y.length), (p ++ x ++ y ++ r).toArray[q + i]! = y[i] := fun i hi => by
    have := jA (p ++ x) y r hi
    rw [hq]; simpa using this
  have hsz : m = (p ++ x ++ y ++ r).toArray.size := by simpa using hm
  have hLS : LH enc sz t H (p ++ x ++ y ++ r) = SH enc sz t H (p ++ x ++ y ++ r).toArray := rfl
  have w1 : IntKind.i64.wrap ((q : Int) - a) = ((x.length : Nat) : Int) := aX (by omega) (by omega)
  have w2 : IntKind.i64.wrap ((b : Int) - q) = ((y.length : Nat) : Int) := aX (by omega) (by omega)
  by_cases hx1 : x.length = 1
  · obtain ⟨e, rfl⟩ := List.length_eq_one_iff.1 hx1
    have w1 : IntKind.i64.wrap ((q : Int) - a) = 1 := by rw [w1]; simp
    have De : (p ++ [e] ++ y ++ r).toArray[a]! = e := by simpa using Dx 0 (by simp)
    simp only [push_cast, ↓reduceIte, Nat.reduceEqDiff, reduceCtorEq, Nat.reduceAdd, Nat.reduceLT, Nat.reduceLeDiff, w1, decide_true]
    unfold kB
    simp only [push_cast, ↓reduceIte, Nat.reduceEqDiff, reduceCtorEq, Nat.reduceAdd, Nat.reduceLT, Nat.reduceLeDiff]
    rw [hLS]
    refine AP (kr := kr) (kz := kz) E h hsz hs (a := a) (cp := cp) (ex := ex) (by omega) (lo := q) (hi := b) (by omega) (by omega) (fun u v h1 h2 h3 h4 => ?_) ?_ ?_ ?_ ?_ ?_ fun f s hcut e0 e1 e4 e10 => ?_
    · rw [De] at h4 ⊢
      have e1 := Dy (u - q) (by omega)
      have e2 := Dy (v - q) (by omega)
      rw [show q + (u - q) = u by omega] at e1
      rw [show q + (v - q) = v by omega] at e2
      rw [e2] at h4
      rw [e1]
      exact O.le_lt (eM O sy (by omega) (by omega)) h4
    all_goals first | (simp only [push_cast, ↓reduceIte, Nat.reduceEqDiff, reduceCtorEq, Nat.reduceAdd, Nat.reduceLT, Nat.reduceLeDiff]; done) | skip
    have hc1 := hcut.lo_
    have hc2 := hcut.hi_
    have hl1 : (y.take (s - q)).length = s - q := by rw [List.length_take]; omega
    have hlist : p ++ [e] ++ y ++ r = p ++ e :: (y.take (s - q) ++ (y.drop (s - q) ++ r)) := by
      have : y.take (s - q) ++ (y.drop (s - q) ++ r) = y ++ r := by rw [← List.append_assoc, List.take_append_drop]
      rw [this]; simp
    have b1 : ∀ u ∈ y.take (s - q), c u e < 0 := fun u hu => by
      obtain ⟨i, hi, hi2, rfl⟩ := mem_take' hu
      have := hcut.left (q + i) (by omega) (by omega)
      rw [De, Dy i hi] at this
      exact this
    have b2 : ∀ u ∈ y.drop (s - q), c e u ≤ 0 := fun u hu => by
      obtain ⟨i, hi, hi2, rfl⟩ := mem_drop' hu
      have := hcut.right (q + i) (by omega) (by omega)
      rw [De, Dy i hi] at this
      have sw := O.sw y[i] e
      omega
    have mg := Stab.Mrg.one_left (e := e) O (by rw [List.take_append_drop]; exact sy) b1 b2
    rw [List.take_append_drop] at mg
    rw [← hLS, hlist]
    simp only [List.length_cons, List.length_nil] at hq'
    simp only [push_cast, ↓reduceIte, Nat.reduceEqDiff, reduceCtorEq, Nat.reduceAdd, Nat.reduceLT, Nat.reduceLeDiff, e1]
    refine AU (kr := kr) (kz := kz) E h p (y.take (s - q)) (y.drop (s - q) ++ r) e (m := m) (cp := cp) (ex := ex) (i := s) (by rw [← hlist]; exact hm) hs (by omega) ?_ ?_ ?_ fun f => ?_
    · simp only [push_cast, ↓reduceIte, Nat.reduceEqDiff, reduceCtorEq, Nat.reduceAdd, Nat.reduceLT, Nat.reduceLeDiff, e0]
    · simp only [push_cast, ↓reduceIte, Nat.reduceEqDiff, reduceCtorEq, Nat.reduceAdd, Nat.reduceLT, Nat.reduceLeDiff, e10]
    · simp only [push_cast, ↓reduceIte, Nat.reduceEqDiff, reduceCtorEq, Nat.reduceAdd, Nat.reduceLT, Nat.reduceLeDiff, ha]
    simp only [push_cast, ↓reduceIte, Nat.reduceEqDiff, reduceCtorEq, Nat.reduceAdd, Nat.reduceLT, Nat.reduceLeDiff]
    exact ⟨_, mg, by simp⟩
  have hx1' : ¬ ((x.length : Nat) : Int) = 1 := by omega
  by_cases hy1 : y.length = 1
  · obtain ⟨e, rfl⟩ := List.length_eq_one_iff.1 hy1
    have w2 : IntKind.i64.wrap ((b : Int) - q) = 1 := by rw [w2]; simp
    have De : (p ++ x ++ [e] ++ r).toArray[q]! = e := by simpa using Dy 0 (by simp)
    generalize hxl : x.length = xl at w1 hx1'
    simp only [push_cast, ↓reduceIte, Nat.reduceEqDiff, reduceCtorEq, Nat.reduceAdd, Nat.reduceLT, Nat.reduceLeDiff, w1, w2, hx1', decide_true, decide_false]
    subst hxl
    unfold kB
    simp only [push_cast, ↓reduceIte, Nat.reduceEqDiff, reduceCtorEq, Nat.reduceAdd, Nat.reduceLT, Nat.reduceLeDiff, w2]
    unfold nR
    simp only [push_cast, ↓reduceIte, Nat.reduceEqDiff, reduceCtorEq, Nat.reduceAdd, Nat.reduceLT, Nat.reduceLeDiff]
    rw [hLS]
    refine AQ (kr := kr) (kz := kz) E h hsz hs (a := q) (cp := cp) (ex := ex) (by simp at hb'; omega) (lo := a) (hi := q) (by omega) (by omega) (fun u v h1 h2 h3 h4 => ?_) ?_ ?_ ?_ ?_ ?_ fun f s hcut e0 e2 e4 e14 => ?_
    · rw [De] at h4 ⊢
      have e1 := Dx (u - a) (by omega)
      have e2 := Dx (v - a) (by omega)
      rw [show a + (u - a) = u by omega] at e1
      rw [show a + (v - a) = v by omega] at e2
      rw [e2] at h4
      rw [e1]
      intro h5
      have := eM O sx (show u - a ≤ v - a by omega) (by omega)
      have := O.lt_le h5 this
      omega
    all_goals first | (simp only [push_cast, ↓reduceIte, Nat.reduceEqDiff, reduceCtorEq, Nat.reduceAdd, Nat.reduceLT, Nat.reduceLeDiff]; done) | skip
    have hc1 := hcut.lo_
    have hc2 := hcut.hi_
    have hl1 : (x.take (s - a)).length = s - a := by rw [List.length_take]; omega
    have hl2 : (x.drop (s - a)).length = q - s := by rw [List.length_drop]; omega
    have hlist : p ++ x ++ [e] ++ r = (p ++ x.take (s - a)) ++ (x.drop (s - a) ++ e :: r) := by
      have : x.take (s - a) ++ (x.drop (s - a) ++ e :: r) = x ++ e :: r := by rw [← List.append_assoc, List.take_append_drop]
      rw [List.append_assoc p (x.take (s - a)), this]; simp
    have b1 : ∀ u ∈ x.take (s - a), c u e ≤ 0 := fun u hu => by
      obtain ⟨i, hi, hi2, rfl⟩ := mem_take' hu
      have := hcut.left (a + i) (by omega) (by omega)
      rw [De, Dx i hi] at this
      have sw := O.sw e x[i]
      omega
    have b2 : ∀ u ∈ x.drop (s - a), c e u < 0 := fun u hu => by
      obtain ⟨i, hi, hi2, rfl⟩ := mem_drop' hu
      have := hcut.right (a + i) (by omega) (by omega)
      rw [De, Dx i hi] at this
      exact Classical.not_not.1 this
    have mg := Stab.Mrg.one_right (e := e) O (by rw [List.take_append_drop]; exact sx) b1 b2
    rw [List.take_append_drop] at mg
    rw [← hLS, hlist]
    simp only [push_cast, ↓reduceIte, Nat.reduceEqDiff, reduceCtorEq, Nat.reduceAdd, Nat.reduceLT, Nat.reduceLeDiff, e2]
    refine AW (kr := kr) (kz := kz) E h (p ++ x.take (s - a)) (x.drop (s - a)) r e (m := m) (cp := cp) (ex := ex) (i := s) (by rw [← hlist]; exact hm) hs (by rw [List.length_append]; omega) ?_ ?_ ?_ fun f => ?_
    · simp only [push_cast, ↓reduceIte, Nat.reduceEqDiff, reduceCtorEq, Nat.reduceAdd, Nat.reduceLT, Nat.reduceLeDiff, e0]
    · simp only [push_cast, ↓reduceIte, Nat.reduceEqDiff, reduceCtorEq, Nat.reduceAdd, Nat.reduceLT, Nat.reduceLeDiff, e14]
    · have : (p ++ x.take (s - a)).length + (x.drop (s - a)).length = q := by rw [List.length_append, hl1, hl2]; omega
      rw [this]
      simp only [push_cast, ↓reduceIte, Nat.reduceEqDiff, reduceCtorEq, Nat.reduceAdd, Nat.reduceLT, Nat.reduceLeDiff]
    simp only [push_cast, ↓reduceIte, Nat.reduceEqDiff, reduceCtorEq, Nat.reduceAdd, Nat.reduceLT, Nat.reduceLeDiff]
    exact ⟨_, mg, by simp⟩
  have hy1' : ¬ ((y.length : Nat) : Int) = 1 := by omega
  obtain ⟨u1, u2, u3, u4⟩ := GB (i := a) (j := b) (by omega)
  have hmid : 2 * ((a + b) / 2) ≤ a + b ∧ a + b ≤ 2 * ((a + b) / 2) + 1 := by omega
  generalize hmd : (a + b) / 2 = mid at u3 u4 hmid
  have w3 : IntKind.i64.wrap ((mid : Int) + q) = ((mid + q : Nat) : Int) := aX (by omega) (by omega)
  have w4 : IntKind.i64.wrap (((mid + q : Nat) : Int) - 1) = ((mid + q - 1 : Nat) : Int) := aX (by omega) (by omega)
  generalize hxl : x.length = xl at w1 hx1'
  generalize hyl : y.length = yl at w2 hy1'
  generalize hab : a + b = ab at u1 u2 u3
  generalize hn : mid + q = n at w3 w4
  generalize hpp : n - 1 = pp at w4
  simp only [push_cast, ↓reduceIte, Nat.reduceEqDiff, reduceCtorEq, Nat.reduceAdd, Nat.reduceLT, Nat.reduceLeDiff, w1, hx1', decide_false]
  unfold kB
  simp only [push_cast, ↓reduceIte, Nat.reduceEqDiff, reduceCtorEq, Nat.reduceAdd, Nat.reduceLT, Nat.reduceLeDiff, w2, hy1', decide_false]
  unfold nR
  simp only [push_cast, ↓reduceIte, Nat.reduceEqDiff, reduceCtorEq, Nat.reduceAdd, Nat.reduceLT, Nat.reduceLeDiff, u1, u2, u3, u4, w3]
  refine tA (kr := kr) (kz := kz) (sz := sz) (ag := ag) (a := a) (q := q) (b := b) (mid := mid) (n := n) hn.symm (by omega) (by omega) ?_ ?_ ?_ ?_ ?_ ?_ fun f lo hi hlh k20 k21 k0 k1 k2 k3 k4 k18 k19 => ?_
  all_goals first | (simp only [push_cast, ↓reduceIte, Nat.reduceEqDiff, reduceCtorEq, Nat.reduceAdd, Nat.reduceLT, Nat.reduceLeDiff, u1, u2, u3, u4, w3]; done) | skip
  have e0 : f 0 = .ref sz t 0 m cp ex := by rw [k0]; simp only [push_cast, ↓reduceIte, Nat.reduceEqDiff, reduceCtorEq, Nat.reduceAdd, Nat.reduceLT, Nat.reduceLeDiff]
  have e1 : f 1 = .int .i64 a := by rw [k1]; simp only [push_cast, ↓reduceIte, Nat.reduceEqDiff, reduceCtorEq, Nat.reduceAdd, Nat.reduceLT, Nat.reduceLeDiff]
  have e2 : f 2 = .int .i64 q := by rw [k2]; simp only [push_cast, ↓reduceIte, Nat.reduceEqDiff, reduceCtorEq, Nat.reduceAdd, Nat.reduceLT, Nat.reduceLeDiff]
  have e3 : f 3 = .int .i64 b := by rw [k3]; simp only [push_cast, ↓reduceIte, Nat.reduceEqDiff, reduceCtorEq, Nat.reduceAdd, Nat.reduceLT, Nat.reduceLeDiff]
  have e4 : f 4 = .fn k as0 bs := by rw [k4]; simp only [push_cast, ↓reduceIte, Nat.reduceEqDiff, reduceCtorEq, Nat.reduceAdd, Nat.reduceLT, Nat.reduceLeDiff]
  have e18 : f 18 = .int .i64 mid := by rw [k18]; simp only [push_cast, ↓reduceIte, Nat.reduceEqDiff, reduceCtorEq, Nat.reduceAdd, Nat.reduceLT, Nat.reduceLeDiff, u4]
  have e19 : f 19 = .int .i64 n := by rw [k19]; simp only [push_cast, ↓reduceIte, Nat.reduceEqDiff, reduceCtorEq, Nat.reduceAdd, Nat.reduceLT, Nat.reduceLeDiff, u4, w3]
  clear k0 k1 k2 k3 k4 k18 k19
  have hlo : a ≤ lo ∧ lo ≤ hi ∧ hi ≤ q ∧ n ≤ hi + b ∧ q + hi ≤ n ∧ n ≤ b + lo := by rcases hlh with ⟨h1, h2, h3⟩ | ⟨h1, h2, h3⟩ <;> omega
  obtain ⟨l1, l2, l3, l4, l5, l6⟩ := hlo
  simp only [push_cast, ↓reduceIte, Nat.reduceEqDiff, reduceCtorEq, Nat.reduceAdd, Nat.reduceLT, Nat.reduceLeDiff, e19, w4]
  rw [hLS]
  refine AS (kr := kr) (kz := kz) E h hsz hs (cp := cp) (ex := ex) (pp := pp) (lo := lo) (hi := hi) (v1 := .int .i64 a) (v2 := .int .i64 q) (v3 := .int .i64 b) (v18 := .int .i64 mid) (v19 := .int .i64 n) l2 (by omega) (by omega) (by omega) (fun u v h1 h2 h3 h4 => ?_) ?_ ?_ ?_ ?_ ?_ ?_ ?_ ?_ ?_ ?_ fun f s hcut e0 e1 e2 e3 e4 e18 e19 e20 => ?_
  · have a1 := Dx (u - a) (by omega)
    have a2 := Dx (v - a) (by omega)
    have a3 := Dy (pp - u - q) (by omega)
    have a4 := Dy (pp - v - q) (by omega)
    rw [show a + (u - a) = u by omega] at a1
    rw [show a + (v - a) = v by omega] at a2
    rw [show q + (pp - u - q) = pp - u by omega] at a3
    rw [show q + (pp - v - q) = pp - v by omega] at a4
    rw [a1, a3]
    rw [a2, a4] at h4
    have b1 := eM O sx (show u - a ≤ v - a by omega) (by omega)
    have b2 := eM O sy (show pp - v - q ≤ pp - u - q by omega) (by omega)
    intro h5
    have s1 := O.sw y[pp - v - q] x[v - a]
    have c1 := O.tr _ _ _ b1 (show c x[v - a] y[pp - v - q] ≤ 0 by omega)
    have c2 := O.tr _ _ _ c1 b2
    have s2 := O.sw y[pp - u - q] x[u - a]
    omega
  all_goals first | (simp only [push_cast, ↓reduceIte, Nat.reduceEqDiff, reduceCtorEq, Nat.reduceAdd, Nat.reduceLT, Nat.reduceLeDiff, e0, e1, e2, e3, e4, e18, e19, k20, k21]; done) | skip
  have hn' : n = mid + q := hn.symm
  obtain ⟨x1, x2, y1, y2, rfl, rfl, hx1l, hy1l, h21, h12⟩ := LL O p x y r sx sy (a := a) (q := q) (b := b) (n := n) (pp := pp) (lo := lo) (hi := hi) (s := s) ha hq' hb' l1 l3 l4 l5 l6 hpp.symm (by clear w1 w2 w3 w4 u1 u2 u3 u4 Dx Dy hcut; rcases hlh with ⟨h1, h2, h3⟩ | ⟨h1, h2, h3⟩ <;> omega) (by clear w1 w2 w3 w4 u1 u2 u3 u4 Dx Dy hcut; rcases hlh with ⟨h1, h2, h3⟩ | ⟨h1, h2, h3⟩ <;> omega) hcut
  have hc1 := hcut.lo_
  have hc2 := hcut.hi_
  rw [← hLS]
  obtain ⟨sx1, sx2, sx3⟩ := Stab.srt_app.1 sx
  obtain ⟨sy1, sy2, sy3⟩ := Stab.srt_app.1 sy
  simp only [List.length_append] at hq' hb' hm' hN hxl hyl
  clear w1 w2 w3 w4 u1 u2 u3 u4 Dx Dy hcut hLS hsz hlh
  simp only [tN]
  have N1 : x1.length + y1.length < N := by simp only [List.length_append] at hx0 hy0; omega
  have N2 : x2.length + y2.length < N := by simp only [List.length_append] at hx0 hy0; omega
  refine GC (kr := kr) (kz := kz) hr hw E O h p x1 x2 y1 y2 r (cp := cp) (ex := ex) (N := N) ih hm hs N1 N2 sx1 sx2 sy1 sy2 (a := a) (q := q) (b := b) (mid := mid) (n := n) (s := s) (en := n - s) ha (by omega) (by omega) (by omega) (by omega) (by omega) (by omega) e0 e1 e2 e3 e4 e18 e19 e20 fun f z1 z2 mg1 mg2 => ?_
  simp only [push_cast, ↓reduceIte, Nat.reduceEqDiff, reduceCtorEq, Nat.reduceAdd, Nat.reduceLT, Nat.reduceLeDiff]
  exact ⟨z1 ++ z2, Stab.Mrg.halves O sx sy h21 h12 mg1 mg2, rfl⟩
end
end Go.Eng
end
