/- Up, Range, Box, Runs, Stab, Stab2, SortB, SortUp. -/
import Derived.Test.YtpflmgbpjhbmnaaGreatQBm4
import Derived.Test.YtpflmgbpjhbmnaaGreatQBm5
import Derived.RangeFuncCalls
import Derived.RangeFuncLeaves
import Derived.OrdersHeld
import Derived.OrdersIn
import Derived.Deep.RegionHeld3
import Derived.Test.YtpflmgbpjhbmnaaGreatQBm1
import Derived.RangeFuncNested
import Derived.Shelf.RegionOpen
import Derived.OwnWalkIn
import Derived.TacticsInMore
import Derived.LoopNIn
import Derived.LoopIn
import Derived.StillTailTactics
import Derived.Sort.LotA
import Derived.Shelf.SlicesQ.Reverse
import Derived.Shelf.SlSortFuncK.RowK2
import Derived.Lib.QuietBelow
import Derived.Test.YtpflmgbpjhbmnaaGreatProg
import Derived.WalkKit
import Derived.Deep.LoopGhost
import Derived.Shelf.SlSortCmp.KitK
import Derived.Deep.RegionWith
import Derived.KernelRfl
section
namespace Go.Proofs.YtpflmgbpjhbmnaaGreat.B
open Go Go.RowKit Go.Proofs Go.Proofs.YtpflmgbpjhbmnaaGreatW.PrintWords Go.Proofs.YtpflmgbpjhbmnaaGreatW.PrintLast Go.Proofs.YtpflmgbpjhbmnaaGreatW.PrintMore
set_option linter.unusedVariables false
set_option linter.unusedSimpArgs false
set_option maxRecDepth 100000
def cY (x y : S61) : Int := if dV x.f0 y.f0 = 0 then eM x.f1 y.f1 else dV x.f0 y.f0
theorem eV (x y : S61) : cY y x = - cY x y := by
 have h := fH x.f0 y.f0
 have h2 := gJ x.f1 y.f1
 unfold cY
 by_cases h0 : dV x.f0 y.f0 = 0
 ·rw [if_pos h0, if_pos (by omega)]; exact h2
 ·rw [if_neg h0, if_neg (by omega)]; exact h
theorem kZ (x y z : S61) (h1 : cY x y ≤ 0) (h2 : cY y z ≤ 0) : cY x z ≤ 0 := by
 have a := iL x.f0 y.f0 z.f0
 have b := iL z.f0 x.f0 y.f0
 have c := iL y.f0 z.f0 x.f0
 have c2 := iL z.f0 y.f0 x.f0
 have d := tU x.f1 y.f1 z.f1
 have e1 := fH x.f0 y.f0
 have e2 := fH y.f0 z.f0
 have e3 := fH x.f0 z.f0
 unfold cY at *
 split at h1 <;> split at h2 <;> split <;> omega
theorem lV (x y : S59) : dS.f x.f0 x.f1 y.f0 y.f1 = some (eM x y) := by
 unfold dS.f dA.f eM
 by_cases h : x.f0 = y.f0
 ·simp [h, kF]
 ·simp [h, kF]
theorem oI (x y : S61) : gA.f x.f0 x.f1.f0 x.f1.f1 x.f2 y.f0 y.f1.f0 y.f1.f1 y.f2 = some (cY x y) := by
 unfold gA.f dX.f cY
 rw [Option.bind_some, lV]
 split <;> rfl
def UpR (w : World) : Type := { u : Option Addr × Nat × S61 // u.2.2.f0.length ≤ u.2.1 ∧ Kd.C k85 w u.1 u.2.2.f0.length u.2.2.f0 }
def UpR.up {w : World} (x : UpR w) : S61 := x.1.2.2
instance (w : World) : Inhabited (UpR w) := ⟨⟨(none, 0, z61), Nat.le_refl _, Kd.C_nil _ _⟩⟩
def nV {w : World} (x : UpR w) : List Value := [.slice x.1.1 x.up.f0.length x.1.2.1, .int .i64 x.up.f1.f0, .int .i64 x.up.f1.f1, .int .i64 x.up.f2]
theorem nD {w : World} (x : UpR w) : (nV x).length = 4 := rfl
theorem qY {w : World} (x : UpR w) : ∀ v ∈ nV x, v.oneCell' = true := by
 intro v hv
 simp [nV] at hv
 rcases hv with rfl | rfl | rfl | rfl <;> rfl
def kUR (w0 : World) : Kd (UpR w0) where
 sz := 4
 E := []
 K := fun _ x cs => cs = nV x
 M := fun _ _ _ x cs => cs = nV x
 K_len := fun h => by rw [h]; rfl
 K_one := fun h => by rw [h]; exact qY _
 K_below := fun _ h => h
 K_of_M := fun h => h
 M_mono := fun _ h => h
 M_bound := fun h => h
 M_move := fun _ h => h
 M_lower := fun _ h => h
theorem wU {α : Type} {n : Nat} {p : Nat → α → Prop} (h : ∀ i, i < n → ∃ x, p i x) : ∃ l : List α, l.length = n ∧ ∀ i x, l[i]? = some x → p i x := by
 induction n with
 | zero => exact ⟨[], rfl, fun i x hx => by simp at hx⟩
 | succ n ih =>
  obtain ⟨l, hl, hp⟩ := ih (fun i hi => h i (by omega))
  obtain ⟨x, hx⟩ := h n (by omega)
  refine ⟨l ++ [x], by simp [hl], fun i y hy => ?_⟩
  by_cases hi : i < l.length
  ·rw [List.getElem?_append_left hi] at hy; exact hp i y hy
  ·rw [List.getElem?_append_right (by omega)] at hy
   have hin : i = n := by
    have := (List.getElem?_eq_some_iff.1 hy).1
    simp at this; omega
   subst hin
   rw [hl, Nat.sub_self] at hy
   simp at hy
   exact hy ▸ hx
theorem wV {w : World} {A : Option Addr} {n : Nat} {l : List S61} (h : Kd.C k61 w A n l) : ∃ zs : List (UpR w), zs.map UpR.up = l ∧ Kd.C (kUR w) w A n zs := by
 have hn : l.length = n := h.1
 rcases Nat.eq_zero_or_pos n with h0 | hpos
 ·subst h0
  obtain rfl := List.eq_nil_of_length_eq_zero hn
  exact ⟨[], rfl, rfl, h.2.1, fun hp => absurd hp (Nat.lt_irrefl 0)⟩
 ·obtain ⟨ad, hA, hc⟩ := h.2.2 hpos
  obtain ⟨zs, hz, hp⟩ := wU (n := n) (p := fun i (x : UpR w) => l[i]? = some x.up ∧ ∀ j u, (nV x)[j]? = some u → w.cell? (ad.add (i * 4 + j)) = some u) (by
   intro i hi
   have hil : i < l.length := by omega
   obtain ⟨c, _, hK, hcell⟩ := hc i _ (List.getElem?_eq_getElem hil)
   obtain ⟨A0, c0, rfl, hl0, hC0⟩ := kE hK
   exact ⟨⟨(A0, c0, l[i]), hl0, hC0⟩, List.getElem?_eq_getElem hil, hcell⟩)
  refine ⟨zs, ?_, hz, h.2.1, fun _ => ⟨ad, hA, fun j p hj => ?_⟩⟩
  ·apply List.ext_getElem?
   intro i
   rw [List.getElem?_map]
   by_cases hi : i < n
   ·obtain ⟨x, hx⟩ : ∃ x, zs[i]? = some x := ⟨_, List.getElem?_eq_getElem (by omega)⟩
    rw [hx, (hp i x hx).1]; rfl
   ·rw [List.getElem?_eq_none (by omega), List.getElem?_eq_none (by omega)]; rfl
  ·exact ⟨nV p, rfl, rfl, (hp j p hj).2⟩
theorem jZ {w0 : World} (x y : UpR w0) (W : World) (hB : Below w0.heap.size w0 W) :
  Calls Tryz.prog 80 #[.agg (nV x).toArray, .agg (nV y).toArray] W fun e w' => e = .returned (.int .i64 (cY x.up y.up)) ∧ Below W.heap.size W w' :=
 gA.calls x.1.1 x.1.2.1 x.up.f0 x.up.f1.f0 x.up.f1.f1 x.up.f2 y.1.1 y.1.2.1 y.up.f0 y.up.f1.f0 y.up.f1.f1 y.up.f2 _ W (Kd.C_below x.2.2 hB) x.2.1 (Kd.C_below y.2.2 hB) y.2.1 (oI x.up y.up)
theorem mH : (Tryz.prog.info? 61).map (fun i => (i.zero, i.size, i.bytes)) = some (some (.agg #[.slice none 0 0, .int .i64 0, .int .i64 0, .int .i64 0]), 4, 48) := by kernel_rfl
set_option maxHeartbeats 2000000 in
theorem wW (A0 : Option Addr) (c0 : Nat) (w0 w : World) (zs : List (UpR w0)) (hr0 : Kd.C (kUR w0) w A0 zs.length zs) (hc0 : zs.length ≤ c0) (hl : zs.length * 48 ≤ 140737488355328) :
  Calls Tryz.prog 104 #[.slice A0 zs.length c0] w fun e w' => ∃ v0_ : Value, e = .returned (v0_) ∧ Kd.R (kUR w0) 61 w' w.heap.size (fun _ => True) v0_ zs ∧ Below w.heap.size w w' := by
 cases A0 with
 | none =>
  have h0 : zs = [] := by
   cases zs with
   | nil => rfl
   | cons a b => obtain ⟨ad, e, _⟩ := hr0.2.2 (by simp); cases e
  subst h0
  have hn := fun W => Lib.run_eql_slice_nil (P := Tryz.prog) W 22 61 none 0 c0 0 0 Tryz.underlying22
  go_enter Tryz.func104, Tryz.ntmps104
  go_wp2
  go_ret
  exact ⟨_, rfl, Kd.R_nil _ _ _ _ _, Below.refl _ _⟩
 | some ad =>
  have HR0 := aA.mk hr0
  have HL := aA.mk hl
  clear hr0 hl
  have hn := fun W => Lib.run_eql_slice_nil (P := Tryz.prog) W 22 61 (some ad) zs.length c0 0 0 Tryz.underlying22
  go_enter Tryz.func104, Tryz.ntmps104
  go_wp2_with (first
   | ((with_reducible refine bK (N := 5) rfl ?_); refine Kd.R_lit (kUR w0) _ 61 ?hg (N := 5) ?hd (xs := ([] : List (UpR w0))) (inner := []) (ok := fun _ => True) (okp := fun _ => True) ?hr ?hp (fun _ hk => hk) trivial (Below.refl _ _) (Nat.le_refl _) (by simp) ?_; (case hd => rfl); (case hg => rfl); (case hr => first | (go_simp; done) | (go_simp; rfl)); (case hp => exact (Reps.none _ _)); intro v1 w1 ho hb hg hnew; have HO := aA.mk ho; have HB := aA.mk hb; clear ho hb hg hnew)
   | ((with_reducible refine cI (b := .append) (xs := #[.tmp 5, .tmp 6]) rfl ?_); at_builtin; refine Kd.R_append_rows (kUR w0) (w0 := w) w.heap.size rfl (.tmp 5) (.tmp 6) 22 61 (.agg #[.slice none 0 0, .int .i64 0, .int .i64 0, .int .i64 0]) 48 rfl Tryz.underlying22 mH rfl (Nat.succ_pos 3) (by omega) v1 ([] : List (UpR w0)) zs (some ad) zs.length c0 (fun _ => True) (fun _ => False) rfl rfl HO.out (Kd.C_below HR0.out HB.out) (fun _ _ h => h) (fun _ h => h.elim) (fun _ _ => trivial) HB.out HB.out.size (by have := HL.out; simpa using this) ?_; intro v2 w2 ho hb hg hat; have HO2 := aA.mk ho; have HB2 := aA.mk hb; clear ho hb hg hat))
  go_ret
  exact ⟨_, rfl, by simpa using HO2.out, HB2.out⟩
end Go.Proofs.YtpflmgbpjhbmnaaGreat.B
end
section
namespace Go.Proofs.YtpflmgbpjhbmnaaGreat.Rg
open Go Go.RowKit
set_option linter.unusedVariables false
set_option linter.unusedSimpArgs false
variable {P : Program}
structure dP (X : Nat → Prop) (W W' : World) : Prop where
 size : W.heap.size ≤ W'.heap.size
 os : W'.os = W.os
 tape : W'.tape = W.tape
 output : W'.output = W.output
 block : ∀ k, k < W.heap.size → ¬ X k → W'.heap[k]? = W.heap[k]?
section
variable {X Y : Nat → Prop} {W W1 W2 : World}
theorem dP.refl (X : Nat → Prop) (W : World) : dP X W W := ⟨Nat.le_refl _, rfl, rfl, rfl, fun _ _ _ => rfl⟩
theorem dP.trans (h : dP X W W1) (k : dP X W1 W2) : dP X W W2 :=
 ⟨Nat.le_trans h.size k.size, k.os.trans h.os, k.tape.trans h.tape, k.output.trans h.output, fun i hi hn => (k.block i (Nat.lt_of_lt_of_le hi h.size) hn).trans (h.block i hi hn)⟩
theorem dP.mono (h : dP X W W1) (hs : ∀ k, k < W.heap.size → X k → Y k) : dP Y W W1 := ⟨h.size, h.os, h.tape, h.output, fun i hi hn => h.block i hi (fun hx => hn (hs i hi hx))⟩
theorem dP.of_below (h : Below W.heap.size W W1) (X : Nat → Prop) : dP X W W1 := ⟨h.size, h.os, h.tape, h.output, fun i hi _ => h.block i hi⟩
theorem dP.put (W : World) (l : Nat) (o : Obj) (hl : X l) : dP X W (W.putObj l o) :=
 ⟨by simp, rfl, rfl, rfl, fun i hi hn => World.putObj_heap_other (fun e => hn (e ▸ hl))⟩
theorem dP.setCell (W : World) (p : Addr) (v : Value) (hp : X p.block) : dP X W (W.setCell p v) :=
 ⟨by simp [World.setCell], rfl, rfl, rfl, fun i hi hn => Below.heap_setCell W p v i (fun e => hn (e ▸ hp))⟩
theorem dP.alloc (W : World) (o : Obj) (X : Nat → Prop) : dP X W (W.alloc o) := dP.of_below ((Below.refl _ _).alloc (Nat.le_refl _) o) X
theorem dP.drew (W : World) (X : Nat → Prop) : dP X W W.drew := ⟨Nat.le_refl _, rfl, rfl, rfl, fun _ _ _ => rfl⟩
theorem dP.below (h : dP X W W1) {B : Nat} (hB : B ≤ W.heap.size) (hX : ∀ k, X k → B ≤ k) : Below B W W1 :=
 ⟨h.os, h.tape, h.output, h.size, fun i hi => h.block i (Nat.lt_of_lt_of_le hi hB) (fun hx => by have := hX i hx; omega)⟩
theorem dP.cell (h : dP X W W1) {a : Addr} {v : Value} (hc : W.cell? a = some v) (hn : ¬ X a.block) : W1.cell? a = some v := by
 have := h.block a.block (World.block_lt_of_cell? W a hc) hn
 simpa [World.cell?, this] using hc
end
def Abx {β : Type} (X : Nat → Prop) (J : β → World → Prop) : Prop := ∀ s W W', J s W → dP X W W' → J s W'
theorem zJ {l n : Nat} {o : Oper} {a : Act} {next : Act → World → Prop} {Q : Exit → Act → World → Prop} {r : Result Next} (h : o.upon P a next Q r) : o.uponIn (Fence.wide.inRound l) n P a next Q r := by
 unfold Oper.upon at h
 unfold Oper.uponIn
 split at h
 ·exact h
 ·exact h
 ·exact h
 ·exact ⟨fun h => by simp [Fence.wide] at h, CallsIn.inRound l (callsIn_wide.2 h)⟩
 ·exact ⟨fun h => by simp [Fence.wide] at h, fun c cs _ => let ⟨v, w', r, s⟩ := h c cs; ⟨v, w', r, stepsIn_wide.2 s⟩⟩
 ·exact h
 ·exact h.elim
def pQ (ops : Array Oper) : Bool := ops.all fun o => match o.op with | .defer _ => false | _ => true
theorem oJ {ops : Array Oper} (h : pQ ops = true) {i : Nat} {o : Oper} (ho : ops[i]? = some o) (c : Call) : o.op ≠ .defer c := by
 intro heq
 have := Array.all_eq_true_iff_forall_mem.1 h o (Array.mem_of_getElem? ho)
 simp [heq] at this
theorem zK {l n : Nat} {o : Oper} {a : Act} {w : World} {next next' : Act → World → Prop} {Q : Exit → Act → World → Prop} (hd : ∀ c, o.op ≠ .defer c) (hn : ∀ a w, next a w → next' a w) (h : o.wp P a w next Q) : o.wpIn (Fence.wide.inRound l) n P a w next' Q := by
 refine ⟨fun f _ => trivial, ?_⟩
 rw [Oper.semAt_eq _ _ _ hd]
 exact zJ (Oper.wp_mono hn h)
theorem wX {l n : Nat} {ops : Array Oper} {Q : Exit → Act → World → Prop} (hd : pQ ops = true) (hno : ∀ a w, ¬ Q .outgrown a w) : ∀ (is : List Nat) (a : Act) (w : World), wpOps P ops Q is a w → wpOpsIn (Fence.wide.inRound l) n P ops Q is a w := by
 intro is
 induction is with
 | nil => intro a w h; exact h
 | cons i is ih =>
  intro a w h
  rw [wpOps_cons] at h
  rw [wpOpsIn_cons]
  unfold wpOp at h
  unfold wpOpIn
  cases ho : ops[i]? with
  | none => rw [ho] at h; exact ih a w h
  | some o =>
   rw [ho] at h
   dsimp only at h ⊢
   by_cases hw : Region.wanted o (yielded ops a.tmps) = true
   ·rw [if_pos hw] at h ⊢
    rcases h with h | ⟨_, a0, w0, h⟩
    ·exact zK (fun c => oJ hd ho c) ih h
    ·exact absurd h (hno a0 w0)
   ·rw [if_neg hw] at h ⊢
    exact ⟨fun f _ => trivial, ih _ _ h⟩
theorem oK {l n id : Nat} {ops : Array Oper} {Q : Exit → Act → World → Prop} {S : World → Prop} {a : Act} {w : World} (hm : P.follows .mixedOrders = true) (hd : pQ ops = true) (hno : ∀ a w, ¬ Q .outgrown a w) (hS : S w.drew)
  (h : S w.drew → wpAnyH P .any ops Q S ops.size (Array.replicate ops.size false) a w.drew) : (Code.region id ops true).wpIn (Fence.wide.inRound l) n P Q a w :=
 wpIn_region_draw fun t => by
  simp only [Region.schedule, hm, Bool.true_or, if_true]
  exact wX hd hno _ _ _ (wpAny_sound ops.size t _ a _ (wpAny_of_held _ _ _ _ (h hS)))
theorem take_ {ops : Array Oper} {Q : Exit → Act → World → Prop} {S : World → Prop} {md : Region.Mode} {i : Nat} {oi : Oper} {v : Value} {N : Option Tmp} {fuel : Nat} {listed : Array Bool} {a : Act} {w : World} (hi : ops[i]? = some oi) (hN : oi.dst = N)
  (hs : Region.noSelect ops = true) (hf : Region.free md ops listed i = true) (hr : (Region.ready md ops listed).contains i = true)
  (hQ : ∀ c a w, Q (.panic c) (a.put N v) w → Q (.panic c) a w) (hw : Region.wanted oi (yielded ops a.tmps) = true) (hy : ∀ w, S w → (execOp a.eval oi).run P w = .ok (.value v) w) (hS : S w)
  (h : wpAnyH P md ops Q S fuel (listed.setIfInBounds i true) (a.put N v) w) : wpAnyH P md ops Q S (fuel + 1) listed a w := by
 subst hN
 exact wpAnyH_take hi hs hf hr hQ (Or.inl ⟨hw, hy⟩) hS h
def wY {α : Type} (Y : Nat → Prop) (I : List α → World → Prop) (Ix : Code → List α → World → Prop) (xs : List α) (W : World) : Exit → Act → World → Prop
 | .normal, _, W' => dP Y W W' ∧ I xs W'
 | .ret, _, W' => dP Y W W' ∧ Ix .ret xs W'
 | .exit id, _, W' => dP Y W W' ∧ Ix (.exit id) xs W'
 | .goto t, _, W' => dP Y W W' ∧ Ix (.goto t) xs W'
 | .panic _, _, _ => False
 | .outgrown, _, _ => False
def BN {α : Type} (P : Program) (g : Nat) (lb : Array Value) (encs : α → Array Value) (X Y : Nat → Prop) (L : List α) (w : World) : Prop :=
 ∀ (l : Nat) (J Jx : List α → World → Prop) (W : World), Below w.heap.size w W → Abx X J → Abx X Jx →
  (∀ pre x rest W1, L = pre ++ x :: rest → J pre W1 → YieldAt Fence.wide 0 P l (encs x) W1 fun e W' =>
   (e = .returned (.bool true) ∧ J (pre ++ [x]) W' ∧ dP Y W1 W') ∨ (e = .returned (.bool false) ∧ Jx (pre ++ [x]) W')) →
  J [] W →
  Calls P g (#[.func (.yield l) #[] #[]] ++ lb) W fun e W' => (∃ v, e = .returned v) ∧ (J L W' ∨ (∃ pre x rest, L = pre ++ x :: rest ∧ Jx (pre ++ [x]) W'))
theorem zL {α : Type} {n : Nat} {g : Operand} {ps : Array Tmp} {assign body : Code} {Q : Exit → Act → World → Prop} {a : Act} {w : World} {gf : Nat} {lb : Array Value}
  (hg : a.eval g = .func (.func gf) #[] lb) (eg : ∀ args w, (callFunc gf args).run P w = .ok (.enter gf args) w)
  {encs : α → Array Value} {X Y : Nat → Prop} {L : List α} (hseq : BN P gf lb encs X (fun k => Y k ∨ w.heap.size ≤ k) L w) (hX : ∀ k, X k → k < w.heap.size) (hY : ∀ k, Y k → k < w.heap.size ∨ w.heap.size + 2 ≤ k)
  (hps : ∀ x, (encs x).size = ps.size)
  (I : List α → World → Prop) (Ix : Code → List α → World → Prop) (hI : Abx (fun k => X k ∨ k = w.heap.size ∨ k = w.heap.size + 1) I) (hIx : ∀ c, Abx (fun k => X k ∨ k = w.heap.size ∨ k = w.heap.size + 1) (Ix c))
  (h0 : ∀ W1, Below w.heap.size w W1 → W1.heap.size = w.heap.size + 2 → I [] W1) (a₁ : α → Act)
  (hassign : ∀ (l : Nat) (x : α) (W : World) (K : Act → World → Prop), K (a₁ x) W →
   assign.wpIn (Fence.wide.inRound l) 0 P (Exit.then K (fun _ _ _ => False)) { tmps := (ps.zip (encs x)).foldl (fun t (p, v) => t.setIfInBounds p v) a.tmps, defers := [] } W)
  (hbody : ∀ (l : Nat) (pre : List α) (x : α) (rest : List α) (W : World), L = pre ++ x :: rest → I pre W → w.heap.size + 2 ≤ W.heap.size → body.wpIn (Fence.wide.inRound l) 0 P (wY (fun k => Y k ∨ w.heap.size + 2 ≤ k) I Ix (pre ++ [x]) W) (a₁ x) W)
  (hdone : ∀ (W : World), I L W → W.heap[w.heap.size]? = some (.deferred (some [])) → Q .normal { a with defers := { target := .collected w.heap.size, args := #[] } :: a.defers } W)
  (hstop : ∀ (c : Code) (pre : List α) (x : α) (rest : List α) (W : World), L = pre ++ x :: rest → Ix c (pre ++ [x]) W → W.heap[w.heap.size]? = some (.deferred (some [])) → c.wpIn Fence.wide n P Q { a with defers := { target := .collected w.heap.size, args := #[] } :: a.defers } W) :
  (Code.rangeFunc g ps assign body).wpIn Fence.wide n P Q a w := by
 refine wpIn_rangeFunc ?_
 intro fn hfn
 obtain ⟨rec, hrec⟩ : ∃ rec : LoopState → Option Code → Loop, rec = fun st pe => { state := st, pending := pe, fn, tmps := a.tmps, params := ps, assign, body, defers := w.heap.size } := ⟨_, rfl⟩
 obtain ⟨W1, hW1⟩ : ∃ W1, (w.alloc (.deferred (some []))).alloc (.loop (rec .ready none)) = W1 := ⟨_, rfl⟩
 have hL1 : W1.heap[w.heap.size + 1]? = some (.loop (rec .ready none)) := by
  rw [← hW1]; have := World.alloc_heap_new (w.alloc (.deferred (some []))) (.loop (rec .ready none)); rwa [World.size_alloc] at this
 have hD1 : W1.heap[w.heap.size]? = some (.deferred (some [])) := by
  rw [← hW1]; exact (Below.heap_alloc _ _ _ (by simp)).trans (World.alloc_heap_new w _)
 have hb1 : Below w.heap.size w W1 := by
  rw [← hW1]; exact ((Below.refl _ w).alloc (Nat.le_refl _) _).alloc (by simp) _
 have hs1 : W1.heap.size = w.heap.size + 2 := by rw [← hW1]; simp
 have hnl : ¬ X (w.heap.size + 1) := fun h => by have := hX _ h; omega
 have hnD : ¬ X w.heap.size := fun h => by have := hX _ h; omega
 have keep : ∀ {A B : World} {k : Nat} {o : Obj}, ¬ X k → dP X A B → A.heap[k]? = some o → B.heap[k]? = some o := fun hn hs ho => (hs.block _ (Array.getElem?_eq_some_iff.1 ho).1 hn).trans ho
 refine ⟨w.heap.size + 1, [{ target := .collected w.heap.size, args := #[] }], W1, { target := .fn (.func gf) lb, args := #[.func (.yield (w.heap.size + 1)) #[] #[]] }, W1, gf,
  #[.func (.yield (w.heap.size + 1)) #[] #[]] ++ lb, W1, ?_, ?_, fun _ _ => trivial, ?_, fun h => by simp [Fence.wide] at h, ?_⟩
 ·rw [← hW1, hrec]; exact run_enterLoop_outer _ _ _ _ _
 ·simp only [resolve, hg]
  simp [go_sem]
 ·simp [invoke, go_sem, eg]
 ·refine callsIn_wide.2 ?_
  refine (hseq (w.heap.size + 1)
   (fun pre W => I pre W ∧ W.heap[w.heap.size + 1]? = some (.loop (rec .ready none)) ∧ W.heap[w.heap.size]? = some (.deferred (some [])))
   (fun pre W => ∃ c, Ix c pre W ∧ W.heap[w.heap.size + 1]? = some (.loop (rec .done (some c))) ∧ W.heap[w.heap.size]? = some (.deferred (some [])))
   W1 hb1
   (fun s A B hs st => ⟨hI s A B hs.1 (st.mono fun _ _ h => .inl h), keep hnl st hs.2.1, keep hnD st hs.2.2⟩)
   (fun s A B hs st => by
    obtain ⟨c, hc, hl, hk⟩ := hs
    exact ⟨c, hIx c s A B hc (st.mono fun _ _ h => .inl h), keep hnl st hl, keep hnD st hk⟩)
   ?_ ⟨h0 W1 hb1 hs1, hL1, hD1⟩).mono ?_
  ·rintro pre x rest W hL ⟨hi, hl, hk⟩
   have hlt : w.heap.size + 1 < W.heap.size := (Array.getElem?_eq_some_iff.1 hl).1
   have hy := run_yield (P := P) (args := encs x) hl (by rw [hrec]; exact hps x)
   rw [hrec] at hy
   refine ⟨fn, _, assign, body, hy, roundIn_of_wpIn hfn (hassign _ x W _ ⟨_, run_beginRound hl (by rw [hrec]), ?_⟩)⟩
   obtain ⟨B0, hB0⟩ : ∃ B0, W.putObj (w.heap.size + 1) (.loop { rec .ready none with state := .busy }) = B0 := ⟨_, rfl⟩
   rw [hB0]
   have hl2 : B0.heap[w.heap.size + 1]? = some (.loop { rec .ready none with state := .busy }) := by rw [← hB0]; exact World.putObj_heap_same hlt
   have hk2 : B0.heap[w.heap.size]? = some (.deferred (some [])) := by rw [← hB0]; exact (World.putObj_heap_other (by omega)).trans hk
   have hsB : B0.heap.size = W.heap.size := by rw [← hB0]; simp
   have hw2 : dP (fun k => Y k ∨ w.heap.size ≤ k) W B0 := by rw [← hB0]; exact dP.put _ _ _ (.inr (by omega))
   have hiB : I pre B0 := by rw [← hB0]; exact hI _ _ _ hi (dP.put _ _ _ (.inr (.inr rfl)))
   refine wpIn_mono (hbody _ pre x rest B0 hL hiB (by omega)) ?_
   have fin : ∀ (jump : Option Code) (W3 : World), dP (fun k => Y k ∨ w.heap.size + 2 ≤ k) B0 W3 →
     (Instr.endRound (w.heap.size + 1) jump).run P W3 = .ok (.bool jump.isNone) (W3.putObj (w.heap.size + 1) (.loop (rec (if jump.isNone then .ready else .done) jump))) ∧
     (W3.putObj (w.heap.size + 1) (.loop (rec (if jump.isNone then .ready else .done) jump))).heap[w.heap.size + 1]? = some (.loop (rec (if jump.isNone then .ready else .done) jump)) ∧
     (W3.putObj (w.heap.size + 1) (.loop (rec (if jump.isNone then .ready else .done) jump))).heap[w.heap.size]? = some (.deferred (some [])) ∧
     dP (fun k => Y k ∨ w.heap.size ≤ k) W (W3.putObj (w.heap.size + 1) (.loop (rec (if jump.isNone then .ready else .done) jump))) := fun jump W3 hk3 => by
    have n1 : ¬ (Y (w.heap.size + 1) ∨ w.heap.size + 2 ≤ w.heap.size + 1) := fun h => by rcases h with h | h; (have := hY _ h; omega); omega
    have n0 : ¬ (Y w.heap.size ∨ w.heap.size + 2 ≤ w.heap.size) := fun h => by rcases h with h | h; (have := hY _ h; omega); omega
    have hl3 := (hk3.block _ (by omega) n1).trans hl2
    have hk4 := (hk3.block _ (by omega) n0).trans hk2
    have := run_endRound (P := P) jump hl3
    rw [hrec] at this ⊢
    exact ⟨this, World.putObj_heap_same (Array.getElem?_eq_some_iff.1 hl3).1, (World.putObj_heap_other (by omega)).trans hk4,
     (hw2.trans (hk3.mono fun k _ h => h.imp id (fun h => by omega))).trans (dP.put _ _ _ (.inr (by omega)))⟩
   rintro e a3 W3 hp
   cases e with
   | normal =>
    obtain ⟨hk3, hi3⟩ := hp
    obtain ⟨hr, hl4, hk4, hst⟩ := fin none W3 hk3
    exact ⟨_, _, hr, .inl ⟨rfl, ⟨hI _ _ _ hi3 (dP.put _ _ _ (.inr (.inr rfl))), hl4, hk4⟩, hst⟩⟩
   | ret =>
    obtain ⟨hk3, hi3⟩ := hp
    obtain ⟨hr, hl4, hk4, hst⟩ := fin (some .ret) W3 hk3
    exact ⟨_, _, hr, .inr ⟨rfl, .ret, hIx _ _ _ _ hi3 (dP.put _ _ _ (.inr (.inr rfl))), hl4, hk4⟩⟩
   | exit id =>
    obtain ⟨hk3, hi3⟩ := hp
    obtain ⟨hr, hl4, hk4, hst⟩ := fin (some (.exit id)) W3 hk3
    exact ⟨_, _, hr, .inr ⟨rfl, .exit id, hIx _ _ _ _ hi3 (dP.put _ _ _ (.inr (.inr rfl))), hl4, hk4⟩⟩
   | goto t =>
    obtain ⟨hk3, hi3⟩ := hp
    obtain ⟨hr, hl4, hk4, hst⟩ := fin (some (.goto t)) W3 hk3
    exact ⟨_, _, hr, .inr ⟨rfl, .goto t, hIx _ _ _ _ hi3 (dP.put _ _ _ (.inr (.inr rfl))), hl4, hk4⟩⟩
   | panic ch => exact hp.elim
   | outgrown => exact hp.elim
  ·rintro e W2 ⟨⟨v, rfl⟩, (⟨hi, hl, hk⟩ | ⟨pre, x, rest, hL, c, hi, hl, hk⟩)⟩
   ·exact ⟨none, _, by have := run_endLoop (P := P) hl (by rw [hrec]; simp); rw [hrec] at this; exact this, hdone _ (hI _ _ _ hi (dP.put _ _ _ (.inr (.inr rfl)))) ((World.putObj_heap_other (by omega)).trans hk)⟩
   ·exact ⟨some c, _, by have := run_endLoop (P := P) hl (by rw [hrec]; simp); rw [hrec] at this; exact this, hstop c pre x rest _ hL (hIx c _ _ _ hi (dP.put _ _ _ (.inr (.inr rfl)))) ((World.putObj_heap_other (by omega)).trans hk)⟩
end Go.Proofs.YtpflmgbpjhbmnaaGreat.Rg
end
section
namespace Go.Proofs.YtpflmgbpjhbmnaaGreat.B
open Go.RowKit Go.Proofs.YtpflmgbpjhbmnaaGreatW.PrintWords Go.Proofs.YtpflmgbpjhbmnaaGreatW.PrintLast Go.Proofs.YtpflmgbpjhbmnaaGreatW.PrintMore Go.Proofs.YtpflmgbpjhbmnaaGreat.Rg
set_option linter.unusedVariables false
set_option linter.unusedSimpArgs false
def Box (w : World) (b : Nat) (v : Value) (t : Nat) : Prop := w.heap[b]? = some (.cells #[v] t (0, 0))
theorem Box.cell {w : World} {b : Nat} {v : Value} {t : Nat} (h : Box w b v t) : w.cell? ⟨b, 0, none⟩ = some v := by
 unfold Box at h; simp [World.cell?, h]
theorem Box.frozen {w : World} {b : Nat} {v : Value} {t : Nat} (h : Box w b v t) : w.frozen? ⟨b, 0, none⟩ = false := by
 unfold Box at h; simp [World.frozen?, h]
theorem Box.lt {w : World} {b : Nat} {v : Value} {t : Nat} (h : Box w b v t) : b < w.heap.size := by
 unfold Box at h; exact (Array.getElem?_eq_some_iff.1 h).1
theorem Box.below {w w' : World} {b : Nat} {v : Value} {t : Nat} (h : Box w b v t) (hb : Below w.heap.size w w') : Box w' b v t := (hb.block b h.lt).trans h
theorem Box.new (w : World) (v : Value) (t : Nat) : Box (w.alloc (.cells #[v] t)) w.heap.size v t := by
 show (w.heap.push _)[w.heap.size]? = _
 rw [Array.getElem?_push, if_pos rfl]
theorem Box.alloc {w : World} {b : Nat} {v : Value} {t : Nat} (h : Box w b v t) (o : Obj) : Box (w.alloc o) b v t := h.below ((Below.refl _ _).alloc (Nat.le_refl _) o)
theorem Box.set {w : World} {b : Nat} {v : Value} {t : Nat} (h : Box w b v t) (u : Value) : Box (w.setCell ⟨b, 0, none⟩ u) b u t := by
 unfold Box at *; simp [World.setCell, Array.getElem?_modify, h]
theorem Box.far {w : World} {b c : Nat} {v : Value} {t : Nat} (h : Box w b v t) (hn : c ≠ b) (u : Value) : Box (w.setCell ⟨c, 0, none⟩ u) b v t := by
 unfold Box at *; simp [World.setCell, Array.getElem?_modify, h, hn]
theorem Box.step {X : Nat → Prop} {w w' : World} {b : Nat} {v : Value} {t : Nat} (h : Box w b v t) (st : dP X w w') (hn : ¬ X b) : Box w' b v t := (st.block b h.lt hn).trans h
theorem Box.drew {w : World} {b : Nat} {v : Value} {t : Nat} (h : Box w b v t) : Box w.drew b v t := h
theorem mI {α : Type} {d : Kd α} (hd : ∀ {w w' : World} {x : α} {cs : List Value}, d.K w x cs → d.K w' x cs) {X : Nat → Prop} {w w' : World} {A : Option Addr} {n : Nat} {xs : List α} (h : Kd.C d w A n xs) (st : dP X w w') (hn : ∀ ad, A = some ad → ¬ X ad.block) : Kd.C d w' A n xs := by
 refine ⟨h.1, h.2.1, fun hp => ?_⟩
 obtain ⟨ad, hA, hc⟩ := h.2.2 hp
 refine ⟨ad, hA, fun j p hj => ?_⟩
 obtain ⟨c, hl, hK, hcell⟩ := hc j p hj
 refine ⟨c, hl, hd hK, fun i u hu => st.cell (hcell i u hu) ?_⟩
 have : (ad.add (j * d.sz + i)).block = ad.block := by unfold Addr.add; split <;> rfl
 rw [this]
 exact hn ad hA
section
variable {P : Program}
theorem qZ (t e : TypeId) (kh : IntKind) {i : TypeInfo} (ht : P.underlying t = some (.slice e)) (hi : P.info? e = some i) (A : Option Addr) (n c : Nat) (m : Nat) (h2 : m ≤ n) (hc : n ≤ c) :
  ∀ W : World, (Instr.slice t (.slice A n c) none (some (.int kh m)) none).run P W = .ok (.slice A m c) W := by
 intro W
 have hel : P.elem t = e := by simp [Program.elem, ht]
 have hu : P.underlying t = some (.slice (P.elem t)) := by rw [hel]; exact ht
 have ha : (A.map fun x => x.add 0) = A := by cases A <;> simp [Addr.add]
 rw [run_slice_h W t A n c hu kh m (by omega) (by omega), hel]
 simp [sizeOf, typeInfo, hi, sliced, Result.andThen, ha]
theorem rA (t e : TypeId) (kl : IntKind) {i : TypeInfo} (ht : P.underlying t = some (.slice e)) (hi : P.info? e = some i) (size : Nat) (hsz : i.size = size) (A : Option Addr) (n c : Nat) (m : Nat) (h2 : m ≤ n) (hc : n ≤ c) :
  ∀ W : World, (Instr.slice t (.slice A n c) (some (.int kl m)) none none).run P W = .ok (.slice (if c = m then A else A.map (·.add (m * size))) (n - m) (c - m)) W := by
 intro W
 have hel : P.elem t = e := by simp [Program.elem, ht]
 have hu : P.underlying t = some (.slice (P.elem t)) := by rw [hel]; exact ht
 rw [run_slice_l W t A n c hu kl m (by omega) (by omega), hel]
 simp [sizeOf, typeInfo, hi, hsz, sliced, Result.andThen]
end
end Go.Proofs.YtpflmgbpjhbmnaaGreat.B
end
section
namespace Go.Proofs.YtpflmgbpjhbmnaaGreat.B
open Go Go.RowKit Go.Proofs Go.Proofs.YtpflmgbpjhbmnaaGreatW.PrintWords Go.Proofs.YtpflmgbpjhbmnaaGreatW.PrintLast Go.Proofs.YtpflmgbpjhbmnaaGreatW.PrintMore Go.Proofs.YtpflmgbpjhbmnaaGreat.Rg
set_option linter.unusedVariables false
set_option linter.unusedSimpArgs false
set_option maxRecDepth 100000
def grp {α : Type} (c : α → α → Int) (x : α) (r : List α) : Nat := (r.takeWhile fun y => decide (c x y = 0)).length + 1
theorem yI {α : Type} (c : α → α → Int) (x : α) (r : List α) : grp c x r ≤ r.length + 1 := by
 unfold grp
 have := (List.takeWhile_sublist (fun y => decide (c x y = 0)) (l := r)).length_le
 omega
theorem BO {α : Type} (c : α → α → Int) (x : α) (r : List α) (m : Nat) (h1 : 1 ≤ m) (h2 : m < grp c x r) : ∃ y, (x :: r)[m]? = some y ∧ c x y = 0 := by
 unfold grp at h2
 obtain ⟨m, rfl⟩ : ∃ k, m = k + 1 := ⟨m - 1, by omega⟩
 have hm : m < (r.takeWhile fun y => decide (c x y = 0)).length := by omega
 have hs : (r.takeWhile fun y => decide (c x y = 0)) <+: r := List.takeWhile_prefix _
 refine ⟨(r.takeWhile fun y => decide (c x y = 0))[m], ?_, ?_⟩
 ·rw [List.getElem?_cons_succ]
  obtain ⟨s, hs⟩ := hs
  conv => lhs; rw [← hs]
  rw [List.getElem?_append_left hm, List.getElem?_eq_getElem hm]
 ·have := List.all_takeWhile (p := fun y => decide (c x y = 0)) (l := r)
  rw [List.all_eq_true] at this
  simpa using this _ (List.getElem_mem hm)
theorem zM {α : Type} (c : α → α → Int) (x : α) (r : List α) (y : α) (h : (x :: r)[grp c x r]? = some y) : c x y ≠ 0 := by
 unfold grp at h
 rw [List.getElem?_cons_succ] at h
 induction r with
 | nil => simp at h
 | cons a r ih =>
  rw [List.takeWhile_cons] at h
  by_cases ha : c x a = 0
  ·rw [if_pos (by simp [ha])] at h
   simp only [List.length_cons, List.getElem?_cons_succ] at h
   exact ih h
  ·rw [if_neg (by simp [ha])] at h
   simp at h
   subst h
   exact ha
def eW {α : Type} (cf : α → α → Int) (sz : Nat) : Nat → Option Addr → Nat → List α → List (Option Addr × Nat × List α)
 | 0, _, _, _ => []
 | _ + 1, _, _, [] => []
 | k + 1, A, c, x :: r => (A, c, (x :: r).take (grp cf x r)) :: eW cf sz k (if c = grp cf x r then A else A.map (·.add (grp cf x r * sz))) (c - grp cf x r) ((x :: r).drop (grp cf x r))
theorem tX {α : Type} (d : Kd α) (cf : α → α → Int) (w : World) : ∀ (k : Nat) (A : Option Addr) (c : Nat) (z : List α), Kd.C d w A z.length z → z.length ≤ c → ∀ x ∈ eW cf d.sz k A c z, Kd.C d w x.1 x.2.2.length x.2.2 ∧ x.2.2.length ≤ x.2.1 ∧ x.2.2 ≠ [] ∧ x.2.2.length ≤ z.length ∧ ∀ e ∈ x.2.2, e ∈ z := by
 intro k
 induction k with
 | zero => intro A c z _ _ x hx; simp [eW] at hx
 | succ k ih =>
  intro A c z hC hc x hx
  cases z with
  | nil => simp [eW] at hx
  | cons y r =>
   have hg := yI cf y r
   unfold eW at hx
   rcases List.mem_cons.1 hx with rfl | hx
   ·have hl : ((y :: r).take (grp cf y r)).length = grp cf y r := by rw [List.length_take]; simp; omega
    refine ⟨?_, ?_, ?_, ?_, fun e he => List.mem_of_mem_take he⟩
    ·exact Kd.C_take hC (by simpa using hg)
    ·dsimp only; rw [hl]; simp at hc; omega
    ·dsimp only
     intro h0
     rw [h0] at hl
     unfold grp at hl
     simp at hl
    ·dsimp only; rw [hl]; simpa using hg
   ·have h2 := Kd.C_drop (c := c) (m := grp cf y r) hC (by simpa using hg) hc
    obtain ⟨h3, h4, h5, h6, h7⟩ := ih _ _ _ h2 (by rw [List.length_drop]; simp at hc ⊢; omega) x hx
    exact ⟨h3, h4, h5, by rw [List.length_drop] at h6; simp at h6 ⊢; omega, fun e he => List.mem_of_mem_drop (h7 e he)⟩
theorem wZ {w0 w : World} {A : Option Addr} {n : Nat} {zs : List (UpR w0)} (h : Kd.C (kUR w0) w A n zs) (i : Nat) (x : UpR w0) (hx : zs[i]? = some x) :
  ∃ ad, A = some ad ∧ w.cell? (ad.add (i * 4)) = some (.slice x.1.1 x.up.f0.length x.1.2.1) ∧ w.cell? ⟨(ad.add (i * 4)).block, (ad.add (i * 4)).off + 1, none⟩ = some (.int .i64 x.up.f1.f0) ∧ w.cell? ⟨(ad.add (i * 4)).block, (ad.add (i * 4)).off + 2, none⟩ = some (.int .i64 x.up.f1.f1) ∧ w.cell? ⟨(ad.add (i * 4)).block, (ad.add (i * 4)).off + 3, none⟩ = some (.int .i64 x.up.f2) := by
 have hn : 0 < n := by
  have := (List.getElem?_eq_some_iff.1 hx).1
  have := h.1
  omega
 obtain ⟨ad, hA, hc⟩ := h.2.2 hn
 obtain ⟨c, _, hK, hcell⟩ := hc i x hx
 have hK' : c = nV x := hK
 subst hK'
 have e : ∀ j, (ad.add (i * 4)).add j = ad.add (i * 4 + j) := fun j => add_add ad (i * 4) j
 have hne : ∀ j, 0 < j → (⟨(ad.add (i * 4)).block, (ad.add (i * 4)).off + j, none⟩ : Addr) = (ad.add (i * 4)).add j := by
  intro j hj
  unfold Addr.add
  split <;> split <;> simp_all <;> omega
 refine ⟨ad, hA, ?_, ?_, ?_, ?_⟩
 ·exact hcell 0 _ rfl
 ·rw [hne 1 (by omega), e]; exact hcell 1 _ rfl
 ·rw [hne 2 (by omega), e]; exact hcell 2 _ rfl
 ·rw [hne 3 (by omega), e]; exact hcell 3 _ rfl
end Go.Proofs.YtpflmgbpjhbmnaaGreat.B
end
section
namespace Go.Proofs.YtpflmgbpjhbmnaaGreat.Stab
open Go.Sort
variable {α : Type}
structure Ord (c : α → α → Int) : Prop where
 sw : ∀ x y, c y x = - c x y
 tr : ∀ x y z, c x y ≤ 0 → c y z ≤ 0 → c x z ≤ 0
variable {c : α → α → Int}
theorem Ord.refl (h : Ord c) (x : α) : c x x = 0 := by have := h.sw x x; omega
theorem Ord.le_lt (h : Ord c) {x y z : α} (h1 : c x y ≤ 0) (h2 : c y z < 0) : c x z < 0 := by
 have := h.tr z x y; have := h.sw x z; have := h.sw y z; omega
theorem Ord.lt_le (h : Ord c) {x y z : α} (h1 : c x y < 0) (h2 : c y z ≤ 0) : c x z < 0 := by
 have := h.tr y z x; have := h.sw x z; have := h.sw x y; omega
def Srt (c : α → α → Int) (l : List α) : Prop := l.Pairwise fun x y => c x y ≤ 0
def cL (c : α → α → Int) (x y : List α) : Prop := x.length = y.length ∧ ∀ z, x.filter (fun e => decide (c z e = 0)) = y.filter (fun e => decide (c z e = 0))
theorem cL.refl (x : List α) : cL c x x := ⟨rfl, fun _ => rfl⟩
theorem cL.symm {x y : List α} (h : cL c x y) : cL c y x := ⟨h.1.symm, fun z => (h.2 z).symm⟩
theorem cL.trans {x y z : List α} (h : cL c x y) (k : cL c y z) : cL c x z := ⟨h.1.trans k.1, fun e => (h.2 e).trans (k.2 e)⟩
theorem cL.app {x y x' y' : List α} (h : cL c x x') (k : cL c y y') : cL c (x ++ y) (x' ++ y') :=
 ⟨by rw [List.length_append, List.length_append, h.1, k.1], fun z => by rw [List.filter_append, List.filter_append, h.2, k.2]⟩
theorem cL.swap (x y : List α) (O : Ord c) (h : ∀ a ∈ x, ∀ b ∈ y, c b a < 0) : cL c (x ++ y) (y ++ x) := by
 refine ⟨by simp [Nat.add_comm], fun z => ?_⟩
 rw [List.filter_append, List.filter_append]
 by_cases hx : x.filter (fun e => decide (c z e = 0)) = []
 ·rw [hx]; simp
 ·have hy : y.filter (fun e => decide (c z e = 0)) = [] := by
   rw [List.filter_eq_nil_iff]
   intro b hb hz
   obtain ⟨a, ha⟩ := List.exists_mem_of_ne_nil _ hx
   rw [List.mem_filter] at ha
   have h1 := h a ha.1 b hb
   have h2 : c z a = 0 := of_decide_eq_true ha.2
   have h3 : c z b = 0 := of_decide_eq_true hz
   have h4 := O.le_lt (x := z) (y := b) (z := a) (by omega) h1
   omega
  rw [hy]; simp
theorem dD {x y : List α} : Srt c (x ++ y) ↔ Srt c x ∧ Srt c y ∧ ∀ a ∈ x, ∀ b ∈ y, c a b ≤ 0 := List.pairwise_append
theorem jM : Srt c [] := List.Pairwise.nil
theorem pR (e : α) : Srt c [e] := List.pairwise_singleton _ _
theorem eX (O : Ord c) {l : List α} (h : Srt c l) {s t : Nat} {u v : α} (hst : s ≤ t) (hu : l[s]? = some u) (hv : l[t]? = some v) : c u v ≤ 0 := by
 obtain ⟨hs, rfl⟩ := List.getElem?_eq_some_iff.1 hu
 obtain ⟨ht, rfl⟩ := List.getElem?_eq_some_iff.1 hv
 rcases Nat.lt_or_ge s t with h1 | h1
 ·exact List.pairwise_iff_getElem.1 h s t hs ht h1
 ·have : s = t := by omega
  subst this
  rw [O.refl]; omega
def Mrg (c : α → α → Int) (x y z : List α) : Prop := Srt c z ∧ cL c (x ++ y) z
theorem Mrg.one_right (O : Ord c) {x1 x2 : List α} {e : α} (hs : Srt c (x1 ++ x2)) (h1 : ∀ a ∈ x1, c a e ≤ 0) (h2 : ∀ a ∈ x2, c e a < 0) : Mrg c (x1 ++ x2) [e] (x1 ++ e :: x2) := by
 obtain ⟨k1, k2, k3⟩ := dD.1 hs
 refine ⟨dD.2 ⟨k1, List.Pairwise.cons (fun a ha => by have := h2 a ha; omega) k2, fun a ha b hb => ?_⟩, ?_⟩
 ·rcases List.mem_cons.1 hb with rfl | hb
  ·exact h1 a ha
  ·exact k3 a ha b hb
 ·rw [List.append_assoc]
  exact cL.app (cL.refl x1) (cL.swap x2 [e] O (fun a ha b hb => by rw [List.mem_singleton.1 hb]; exact h2 a ha))
theorem Mrg.one_left (O : Ord c) {y1 y2 : List α} {e : α} (hs : Srt c (y1 ++ y2)) (h1 : ∀ a ∈ y1, c a e < 0) (h2 : ∀ a ∈ y2, c e a ≤ 0) : Mrg c [e] (y1 ++ y2) (y1 ++ e :: y2) := by
 obtain ⟨k1, k2, k3⟩ := dD.1 hs
 refine ⟨dD.2 ⟨k1, List.Pairwise.cons h2 k2, fun a ha b hb => ?_⟩, ?_⟩
 ·rcases List.mem_cons.1 hb with rfl | hb
  ·have := h1 a ha; omega
  ·exact k3 a ha b hb
 ·have := cL.app (cL.swap [e] y1 O (fun a ha b hb => by rw [List.mem_singleton.1 ha]; exact h1 b hb)) (cL.refl (c := c) y2)
  simpa using this
theorem Mrg.halves (O : Ord c) {x1 x2 y1 y2 z1 z2 : List α} (hx : Srt c (x1 ++ x2)) (hy : Srt c (y1 ++ y2)) (h21 : ∀ a ∈ x2, ∀ b ∈ y1, c b a < 0) (h12 : ∀ a ∈ x1, ∀ b ∈ y2, c a b ≤ 0)
  (m1 : Mrg c x1 y1 z1) (m2 : Mrg c x2 y2 z2) : Mrg c (x1 ++ x2) (y1 ++ y2) (z1 ++ z2) := by
 obtain ⟨a1, a2, a3⟩ := dD.1 hx
 obtain ⟨b1, b2, b3⟩ := dD.1 hy
 have mem : ∀ {x y z : List α}, Mrg c x y z → ∀ a ∈ z, a ∈ x ∨ a ∈ y := by
  intro x y z m a ha
  have h := m.2.2 a
  have : a ∈ z.filter (fun e => decide (c a e = 0)) := List.mem_filter.2 ⟨ha, decide_eq_true (O.refl a)⟩
  rw [← h, List.mem_filter] at this
  exact List.mem_append.1 this.1
 refine ⟨dD.2 ⟨m1.1, m2.1, fun a ha b hb => ?_⟩, ?_⟩
 ·rcases mem m1 a ha with h1 | h1 <;> rcases mem m2 b hb with h2 | h2
  ·exact a3 a h1 b h2
  ·exact h12 a h1 b h2
  ·have := h21 b h2 a h1; omega
  ·exact b3 a h1 b h2
 ·have e1 : cL c (x1 ++ x2 ++ (y1 ++ y2)) (x1 ++ (y1 ++ x2) ++ y2) := by
   have := cL.app (cL.app (cL.refl (c := c) x1) (cL.swap x2 y1 O h21)) (cL.refl (c := c) y2)
   simpa [List.append_assoc] using this
  refine e1.trans ?_
  have := cL.app m1.2 m2.2
  simpa [List.append_assoc] using this
theorem Mrg.nil_left {y : List α} (h : Srt c y) : Mrg c [] y y := ⟨h, cL.refl _⟩
theorem Mrg.nil_right {x : List α} (h : Srt c x) : Mrg c x [] x := ⟨h, by rw [List.append_nil]; exact cL.refl _⟩
section
variable [Inhabited α]
theorem fM (p q : List α) (x : α) : (p ++ x :: q).toArray[p.length]! = x := by simp
set_option linter.unnecessarySimpa false
theorem rB (p q r : List α) (x y : α) : swp (p ++ x :: (q ++ y :: r)).toArray p.length (p.length + 1 + q.length) = (p ++ y :: (q ++ x :: r)).toArray := by
 have h1 : (p ++ x :: (q ++ y :: r)).toArray[p.length]! = x := by simp
 have h2 : (p ++ x :: (q ++ y :: r)).toArray[p.length + 1 + q.length]! = y := by
  have := fM (p ++ x :: q) r y
  simpa [Nat.add_assoc, Nat.add_comm 1] using this
 unfold swp
 rw [h1, h2]
 apply Array.ext'
 rw [Array.toList_setIfInBounds, Array.toList_setIfInBounds]
 show ((p ++ x :: (q ++ y :: r)).set p.length y).set (p.length + 1 + q.length) x = p ++ y :: (q ++ x :: r)
 have e1 : (p ++ x :: (q ++ y :: r)).set p.length y = p ++ y :: (q ++ y :: r) := by simp
 have e2 : p ++ y :: (q ++ y :: r) = (p ++ y :: q) ++ y :: r := by simp
 have e3 : p.length + 1 + q.length = (p ++ y :: q).length := by simp; omega
 rw [e1, e2, e3]
 simp
theorem tY (p r : List α) (x y : α) : swp (p ++ x :: y :: r).toArray p.length (p.length + 1) = (p ++ y :: x :: r).toArray := rB p [] r x y
theorem xA (d : Array α) (i j : Nat) (hi : i < d.size) (hj : j < d.size) : swp d i j = swp d j i := by
 apply Array.ext (by simp [size_swp])
 intro k h1 h2
 have a := swp_get d hi hj k
 have b := swp_get d hj hi k
 rw [getElem!_pos _ k h1] at a
 rw [getElem!_pos _ k h2] at b
 rw [a, b]
 by_cases e : k = j
 ·by_cases f : k = i
  ·rw [if_pos e, if_pos f, ← e, ← f]
  ·rw [if_pos e, if_neg f, if_pos e]
 ·by_cases f : k = i
  ·rw [if_neg e, if_pos f, if_pos f]
  ·rw [if_neg e, if_neg f, if_neg f, if_neg e]
theorem swp_adj' (p r : List α) (x y : α) : swp (p ++ x :: y :: r).toArray (p.length + 1) p.length = (p ++ y :: x :: r).toArray := by
 rw [xA _ _ _ (by simp) (by simp), tY]
end
inductive Blk (c : α → α → Int) (n : Nat) : List α → Prop
 | last (l : List α) (hl : l.length ≤ n) (hs : Srt c l) : Blk c n l
 | cons (x l : List α) (hx : x.length = n) (hs : Srt c x) (h : Blk c n l) : Blk c n (x ++ l)
theorem Blk.whole {n : Nat} {l : List α} (h : Blk c n l) (hl : l.length ≤ n) : Srt c l := by
 cases h with
 | last _ _ hs => exact hs
 | cons x l hx hs h =>
  have : l = [] := by rw [List.length_append] at hl; exact List.length_eq_zero_iff.1 (by omega)
  subst this; simpa using hs
theorem Blk.split {n : Nat} {l : List α} (h : Blk c n l) (hl : n ≤ l.length) : ∃ x r, l = x ++ r ∧ x.length = n ∧ Srt c x ∧ Blk c n r := by
 cases h with
 | last _ h2 hs => exact ⟨l, [], by simp, by omega, hs, .last [] (by simp) jM⟩
 | cons x r hx hs h => exact ⟨x, r, rfl, hx, hs, h⟩
inductive nW (c : α → α → Int) (n : Nat) : List α → Prop
 | nil : nW c n []
 | snoc (l x : List α) (h : nW c n l) (hx : x.length = n) (hs : Srt c x) : nW c n (l ++ x)
theorem nW.blk {n : Nat} {l : List α} (h : nW c n l) : ∀ r, Blk c n r → Blk c n (l ++ r) := by
 induction h with
 | nil => exact fun r hr => hr
 | snoc l x h hx hs ih => intro r hr; rw [List.append_assoc]; exact ih _ (.cons x r hx hs hr)
end Go.Proofs.YtpflmgbpjhbmnaaGreat.Stab
end
section
namespace Go.Proofs.YtpflmgbpjhbmnaaGreat.Stab
variable {α : Type} {c : α → α → Int}
theorem rZ (x : α) {l z : List α} (h : cL c l z) : cL c (x :: l) (x :: z) :=
 ⟨by simp [h.1], fun e => by rw [List.filter_cons, List.filter_cons, h.2 e]⟩
theorem nE (O : Ord c) : ∀ {x y : List α}, Srt c x → Srt c y → cL c x y → x = y := by
 intro x
 induction x with
 | nil =>
  intro y _ _ h
  exact (List.eq_nil_of_length_eq_zero (by have := h.1; simpa using this.symm)).symm
 | cons a x ih =>
  intro y hx hy h
  cases y with
  | nil => have := h.1; simp at this
  | cons b y =>
   have hab : ∀ e ∈ (a :: x), c a e ≤ 0 := by
    intro e he
    rcases List.mem_cons.1 he with rfl | he
    ·have := O.refl e; omega
    ·exact (List.pairwise_cons.1 hx).1 e he
   have hba : ∀ e ∈ (b :: y), c b e ≤ 0 := by
    intro e he
    rcases List.mem_cons.1 he with rfl | he
    ·have := O.refl e; omega
    ·exact (List.pairwise_cons.1 hy).1 e he
   have hbx : b ∈ a :: x := by
    have h1 : b ∈ (b :: y).filter (fun e => decide (c b e = 0)) := List.mem_filter.2 ⟨List.mem_cons_self, by simp [O.refl]⟩
    rw [← h.2 b] at h1
    exact (List.mem_filter.1 h1).1
   have hay : a ∈ b :: y := by
    have h1 : a ∈ (a :: x).filter (fun e => decide (c a e = 0)) := List.mem_filter.2 ⟨List.mem_cons_self, by simp [O.refl]⟩
    rw [h.2 a] at h1
    exact (List.mem_filter.1 h1).1
   have e0 : c a b = 0 := by
    have h1 := hab b hbx
    have h2 := hba a hay
    have := O.sw a b
    omega
   have hf := h.2 a
   rw [List.filter_cons, List.filter_cons, if_pos (by simp [O.refl]), if_pos (by simp [e0])] at hf
   injection hf with h1 h2
   subst h1
   have hk : cL c x y := ⟨by have := h.1; simpa using this, fun e => by
    have := h.2 e
    rw [List.filter_cons, List.filter_cons] at this
    split at this
    ·injection this
    ·exact this⟩
   rw [ih (List.pairwise_cons.1 hx).2 (List.pairwise_cons.1 hy).2 hk]
def ins (c : α → α → Int) (x : α) : List α → List α
 | [] => [x]
 | y :: r => if c x y ≤ 0 then x :: y :: r else y :: ins c x r
def jA (c : α → α → Int) : List α → List α
 | [] => []
 | x :: r => ins c x (jA c r)
theorem tZ (x : α) : ∀ (l : List α) (e : α), e ∈ ins c x l ↔ e = x ∨ e ∈ l := by
 intro l
 induction l with
 | nil => intro e; simp [ins]
 | cons y r ih =>
  intro e
  unfold ins
  split
  ·simp
  ·simp only [List.mem_cons, ih e]
   constructor
   ·rintro (h | h | h) <;> simp [h]
   ·rintro (h | h | h) <;> simp [h]
theorem zN (O : Ord c) (x : α) : ∀ {l : List α}, Srt c l → Srt c (ins c x l) := by
 intro l
 induction l with
 | nil => intro _; exact pR x
 | cons y r ih =>
  intro h
  unfold ins
  split
  ·rename_i hle
   refine List.pairwise_cons.2 ⟨fun e he => ?_, h⟩
   rcases List.mem_cons.1 he with rfl | he
   ·exact hle
   ·exact O.tr _ _ _ hle ((List.pairwise_cons.1 h).1 e he)
  ·rename_i hgt
   refine List.pairwise_cons.2 ⟨fun e he => ?_, ih (List.pairwise_cons.1 h).2⟩
   rcases (tZ x r e).1 he with rfl | he
   ·have := O.sw e y; omega
   ·exact (List.pairwise_cons.1 h).1 e he
theorem uA (O : Ord c) (x : α) : ∀ (l : List α), cL c (x :: l) (ins c x l) := by
 intro l
 induction l with
 | nil => exact cL.refl _
 | cons y r ih =>
  unfold ins
  split
  ·exact cL.refl _
  ·rename_i hgt
   refine ⟨by have := ih.1; simp at this ⊢; omega, fun e => ?_⟩
   have h := ih.2 e
   rw [List.filter_cons] at h
   simp only [List.filter_cons]
   rw [← h]
   by_cases h1 : c e x = 0
   ·have h2 : ¬ c e y = 0 := by
     intro h2
     have a := O.sw e x
     have := O.tr x e y (by omega) (by omega)
     omega
    simp [h1, h2]
   ·simp [h1]
theorem jB (O : Ord c) : ∀ l : List α, Srt c (jA c l)
 | [] => jM
 | x :: r => zN O x (jB O r)
theorem gK (O : Ord c) : ∀ l : List α, cL c l (jA c l)
 | [] => cL.refl _
 | x :: r => (rZ x (gK O r)).trans (uA O x (jA c r))
theorem kA (O : Ord c) {l z : List α} (hs : Srt c z) (hk : cL c l z) : z = jA c l :=
 nE O hs (jB O l) (hk.symm.trans (gK O l))
theorem sortS_mem : ∀ (l : List α) (e : α), e ∈ jA c l ↔ e ∈ l
 | [], e => Iff.rfl
 | x :: r, e => by show e ∈ ins c x (jA c r) ↔ _; rw [tZ, sortS_mem r e, List.mem_cons]
theorem uB (O : Ord c) (l : List α) : (jA c l).length = l.length := (gK O l).1.symm
theorem zO {β : Type} (f : β → α) (x : β) : ∀ l : List β, (ins (fun a b => c (f a) (f b)) x l).map f = ins c (f x) (l.map f) := by
 intro l
 induction l with
 | nil => rfl
 | cons y r ih =>
  unfold ins
  rw [List.map_cons]
  dsimp only
  split
  ·rename_i h
   simp only [List.map_cons]
  ·rename_i h
   simp only [List.map_cons, ih]
theorem uC {β : Type} (f : β → α) : ∀ l : List β, (jA (fun a b => c (f a) (f b)) l).map f = jA c (l.map f) := by
 intro l
 induction l with
 | nil => rfl
 | cons x r ih =>
  show (ins _ x (jA _ r)).map f = ins c (f x) (jA c (r.map f))
  rw [zO, ih]
end Go.Proofs.YtpflmgbpjhbmnaaGreat.Stab
end
section
namespace Go.Proofs.YtpflmgbpjhbmnaaGreat.Stab
open Go Go.Sort Go.RowKit Go.Proofs
variable {α : Type} [Inhabited α] {enc : α → List Value} {k : Nat} {w0 W W' : World} {blk off : Nat} {d d0 : Array α}
theorem kD {W : World} {blk off : Nat} {F : Array Value} (h : Holds id W blk off F) (s : Nat) (vs : List Value) (hs : s + vs.length ≤ F.size) : Holds id (W.setCells blk (off + s) vs) blk off (setMany F s vs) := by
 have e : W.setCells blk (off + s) vs = putRow id W blk off (setMany F s vs) := by
  conv => lhs; rw [← putRow_self id W blk off F h]
  exact setCells_putRow _ _ _ _ _ _ hs
 rw [e]
 exact holds_putRow id W blk off F _ h (by rw [size_setMany])
structure SB (enc : α → List Value) (k : Nat) (w0 : World) (blk off : Nat) (d : Array α) (W : World) : Prop where
 b : Below w0.heap.size (putRowK enc k w0 blk off d) W
structure RK (enc : α → List Value) (k : Nat) (w0 : World) (blk off : Nat) (d0 : Array α) : Prop where
 hk : ∀ x, (enc x).length = k
 h1 : ∀ x, ∀ v ∈ enc x, v.oneCell' = true
 hH : HoldsK enc k w0 blk off d0
 hblk : blk < w0.heap.size
theorem kG (enc : α → List Value) (k : Nat) (w : World) (blk off : Nat) (d : Array α) : (putRowK enc k w blk off d).heap.size = w.heap.size := by unfold putRowK; simp
theorem SB.start (R : RK enc k w0 blk off d0) : SB enc k w0 blk off d0 w0 := ⟨by rw [putRowK_self enc k w0 blk off d0 R.hH]; exact Below.refl _ _⟩
theorem SB.le (h : SB enc k w0 blk off d W) : w0.heap.size ≤ W.heap.size := by have := h.b.size; rwa [kG] at this
theorem SB.below (h : SB enc k w0 blk off d W) (hb : Below W.heap.size W W') : SB enc k w0 blk off d W' := ⟨h.b.trans (hb.mono h.le)⟩
theorem SB.drew (h : SB enc k w0 blk off d W) : SB enc k w0 blk off d W.drew := ⟨h.b.drew⟩
theorem SB.re (h : SB enc k w0 blk off d W) (n : Nat) (os : Array Obj) : SB enc k w0 blk off d (grow (redrawn W n) os) := h.below (below_regrown W n os)
theorem oM (h : HoldsK enc k W blk off d) (hb : Below W.heap.size W W') (hblk : blk < W.heap.size) : HoldsK enc k W' blk off d := by
 unfold HoldsK Holds at *
 intro j hj
 obtain ⟨h1, h2⟩ := h j hj
 exact ⟨(hb.cell (p := ⟨blk, off + j, none⟩) hblk).trans h1, (hb.frozen (p := ⟨blk, off + j, none⟩) hblk).trans h2⟩
theorem SB.holds (h : SB enc k w0 blk off d W) (R : RK enc k w0 blk off d0) (hs : d.size = d0.size) : HoldsK enc k W blk off d :=
 oM (holdsK_putRowK enc k w0 blk off d0 d R.hH hs) (by rw [kG]; exact h.b) (by rw [kG]; exact R.hblk)
theorem SB.load (h : SB enc k w0 blk off d W) (R : RK enc k w0 blk off d0) (hs : d.size = d0.size) (P : Program) (i : Nat) (hi : i < d.size) :
  Sem.run P (loadCellsFrom ⟨blk, off + i * k, none⟩ 0 k #[]) W = .ok (enc d[i]!).toArray W :=
 run_loadCellsFrom_list P _ _ _ k (R.hk _) (HoldsK.cells (h.holds R hs) R.hk hi)
theorem bnd {β : Type} (d : Array β) (k x : Nat) (hx : x < d.size) : x * k + k ≤ d.size * k := by
 have := Nat.mul_le_mul_right k (show x + 1 ≤ d.size from hx); rwa [Nat.add_mul, Nat.one_mul] at this
theorem SB.st1 (h : SB enc k w0 blk off d W) (R : RK enc k w0 blk off d0) (hs : d.size = d0.size) (P : Program) (i : Nat) (hi : i < d.size) (y : α) :
  Sem.run P (storeCells ⟨blk, off + i * k, none⟩ (enc y) 0) W.drew = .ok () (W.drew.setCells blk (off + i * k) (enc y)) :=
 stores_of_holds P (h.drew.holds R hs) (i * k) _ (by rw [R.hk, size_flatK]; exact bnd d k i hi) (R.h1 _)
theorem SB.st2 (h : SB enc k w0 blk off d W) (R : RK enc k w0 blk off d0) (hs : d.size = d0.size) (P : Program) (i j : Nat) (hi : i < d.size) (hj : j < d.size) (y x : α) :
  Sem.run P (storeCells ⟨blk, off + j * k, none⟩ (enc x) 0) (W.drew.setCells blk (off + i * k) (enc y)) = .ok () ((W.drew.setCells blk (off + i * k) (enc y)).setCells blk (off + j * k) (enc x)) :=
 stores_of_holds P (kD (h.drew.holds R hs) (i * k) _ (by rw [R.hk, size_flatK]; exact bnd d k i hi)) (j * k) _ (by rw [R.hk, size_setMany, size_flatK]; exact bnd d k j hj) (R.h1 _)
theorem fV (b : Nat) : ∀ (vs : List Value) (o : Nat) (w w' : World), w.heap[b]? = w'.heap[b]? → (w.setCells b o vs).heap[b]? = (w'.setCells b o vs).heap[b]?
 | [], _, _, _, h => h
 | v :: r, o, w, w', h => by
  rw [World.setCells, World.setCells]
  refine fV b r _ _ _ ?_
  simp only [World.setCell, Array.getElem?_modify, if_true]
  rw [h]
theorem eK (b : Nat) : ∀ (vs : List Value) (o : Nat) (w : World) (i : Nat), i ≠ b → (w.setCells b o vs).heap[i]? = w.heap[i]?
 | [], _, _, _, _ => rfl
 | v :: r, o, w, i, h => by
  rw [World.setCells, eK b r _ _ i h]
  exact Below.heap_setCell w ⟨b, o, none⟩ v i h
theorem gL (b : Nat) : ∀ (vs : List Value) (o : Nat) (w : World), (w.setCells b o vs).os = w.os ∧ (w.setCells b o vs).tape = w.tape ∧ (w.setCells b o vs).output = w.output
 | [], _, _ => ⟨rfl, rfl, rfl⟩
 | v :: r, o, w => gL b r (o + 1) (w.setCell ⟨b, o, none⟩ v)
theorem SB.swapped (h : SB enc k w0 blk off d W) (R : RK enc k w0 blk off d0) (i j : Nat) (hi : i < d.size) (hj : j < d.size) :
  SB enc k w0 blk off (swp d i j) ((W.drew.setCells blk (off + i * k) (enc d[j]!)).setCells blk (off + j * k) (enc d[i]!)) := by
 have e := swap_worldK enc k R.hk w0 0 0 blk off d i j hi hj
 have e0 : ((putRowK enc k (Sort.ahead w0 0) blk off d).drewN 0) = putRowK enc k w0 blk off d := rfl
 have e1 : (putRowK enc k (Sort.ahead w0 (0 + 0)) blk off (swp d i j)) = putRowK enc k w0 blk off (swp d i j) := rfl
 rw [e0, e1] at e
 have hr := gL blk (enc d[i]!) (off + j * k) (W.drew.setCells blk (off + i * k) (enc d[j]!))
 have hr2 := gL blk (enc d[j]!) (off + i * k) W.drew
 refine ⟨⟨?_, ?_, ?_, ?_, fun b hb => ?_⟩⟩
 ·rw [hr.1, hr2.1]; exact h.b.os
 ·rw [hr.2.1, hr2.2.1]; exact h.b.tape
 ·rw [hr.2.2, hr2.2.2]; exact h.b.output
 ·rw [kG, size_setCells, size_setCells]; exact h.le
 ·by_cases hbb : b = blk
  ·subst hbb
   rw [← e]
   exact fV b _ _ _ _ (fV b _ _ _ _ (h.b.block b hb))
  ·rw [eK blk _ _ _ b hbb, eK blk _ _ _ b hbb]
   have h1 : W.drew.heap[b]? = (putRowK enc k w0 blk off d).heap[b]? := h.b.block b hb
   rw [h1, ← e, eK blk _ _ _ b hbb, eK blk _ _ _ b hbb]
end Go.Proofs.YtpflmgbpjhbmnaaGreat.Stab
end
section
namespace Go.Proofs.YtpflmgbpjhbmnaaGreat.SU
open Go Go.Sort Go.RowKit Go.Lib Go.Shelf Go.Proofs Go.Proofs.YtpflmgbpjhbmnaaGreat.Stab
variable {α : Type} [Inhabited α]
set_option linter.unusedVariables false
set_option linter.unusedSimpArgs false
theorem mixed : Tryz.prog.follows .mixedOrders = true := by kernel_rfl
set_option maxHeartbeats 4000000 in
set_option maxRecDepth 1000000 in
theorem uD (k : Nat) (z50 : ∀ w, (Go.sizeOf 61).run Tryz.prog w = .ok k w) (enc : α → List Value) (fv : Value) (blk off cap a b n : Nat) (d0 : Array α) (w0 w : World) (R : RK enc k w0 blk off d0)
  (p x m y q : List α) (hp : p.length = a) (hx : x.length = n) (hm : p.length + n + m.length = b) (hy : y.length = n) (hs : d0.size = (p ++ (x ++ (m ++ (y ++ q)))).length) (S : SB enc k w0 blk off (p ++ (x ++ (m ++ (y ++ q)))).toArray w) (hsz : d0.size < 4611686018427387904) :
  Calls Tryz.prog 144 #[.slice (some ⟨blk, off, none⟩) d0.size cap, .int .i64 a, .int .i64 b, .int .i64 n, fv] w fun e w' => e = .returned (.tuple #[]) ∧ SB enc k w0 blk off (p ++ (y ++ (m ++ (x ++ q)))).toArray w' := by
 have F := Tryz.func144
 have mixed := mixed
 have t33 := Tryz.underlying22
 have t3 := Tryz.underlying3
 have t4 := Tryz.underlying4
 have a50 := Tryz.isAgg61
 have a33 := Tryz.isAgg22
 have a3 := Tryz.isAgg3
 have u33 := run_underlying t33
 have S0 : Aside (SB enc k w0 blk off (p ++ (x ++ (m ++ (y ++ q)))).toArray w) := S
 clear S
 generalize Tryz.prog = P at *
 go_enter F, Tryz.ntmps144
 go_wp2
 go_loopw [10] (fun v10 wr => ∃ i : Nat, v10 = .int .i64 i ∧ i ≤ n ∧ Aside (SB enc k w0 blk off (p ++ (y.take i ++ x.drop i) ++ m ++ (x.take i ++ y.drop i) ++ q).toArray wr)) (fun v10 wr => n - (intOf v10).toNat)
 case atStart => exact ⟨0, rfl, by omega, by show SB _ _ _ _ _ _ _; have := S0; unfold Aside at this; simpa using this⟩
 case round =>
  obtain ⟨i, rfl, hi, S1⟩ := hrel
  clear S0
  have hla : d0.size = p.length + (x.length + (m.length + (y.length + q.length))) := by rw [hs]; simp
  by_cases hlt : i < n
  ·have hbl : decide ((i : Int) < n) = true := decide_eq_true (by omega)
   obtain ⟨P1, Q1, R1, xe, ye, e1, e2, l1, l2⟩ : ∃ P1 Q1 R1 xe ye, (p ++ (y.take i ++ x.drop i) ++ m ++ (x.take i ++ y.drop i) ++ q) = P1 ++ xe :: (Q1 ++ ye :: R1) ∧
     (p ++ (y.take (i + 1) ++ x.drop (i + 1)) ++ m ++ (x.take (i + 1) ++ y.drop (i + 1)) ++ q) = P1 ++ ye :: (Q1 ++ xe :: R1) ∧ P1.length = a + i ∧ P1.length + 1 + Q1.length = b + i := by
    have hxi : i < x.length := by omega
    have hyi : i < y.length := by omega
    refine ⟨p ++ y.take i, x.drop (i + 1) ++ m ++ x.take i, y.drop (i + 1) ++ q, x[i], y[i], ?_, ?_, ?_, ?_⟩
    ·rw [List.drop_eq_getElem_cons hxi, List.drop_eq_getElem_cons hyi]
     generalize x.drop (i + 1) = X1, x.take i = X0, x[i] = xe, y.drop (i + 1) = Y1, y.take i = Y0, y[i] = ye
     simp
    ·rw [List.take_succ_eq_append_getElem hxi, List.take_succ_eq_append_getElem hyi]
     generalize x.drop (i + 1) = X1, x.take i = X0, x[i] = xe, y.drop (i + 1) = Y1, y.take i = Y0, y[i] = ye
     simp
    ·simp; omega
    ·simp; omega
   have S1' : SB enc k w0 blk off (P1 ++ xe :: (Q1 ++ ye :: R1)).toArray wr := by rw [← e1]; exact S1
   have hDs : (P1 ++ xe :: (Q1 ++ ye :: R1)).toArray.size = d0.size := by rw [← e1, hla]; simp; omega
   clear S1
   have ga : (P1 ++ xe :: (Q1 ++ ye :: R1)).toArray[a + i]! = xe := by rw [← l1]; exact fM _ _ _
   have gb : (P1 ++ xe :: (Q1 ++ ye :: R1)).toArray[b + i]! = ye := by
    have := fM (P1 ++ xe :: Q1) R1 ye
    rw [show (P1 ++ xe :: Q1).length = b + i by simp; omega] at this
    simpa using this
   have hw : swp (P1 ++ xe :: (Q1 ++ ye :: R1)).toArray (a + i) (b + i) = (P1 ++ ye :: (Q1 ++ xe :: R1)).toArray := by
    have := rB P1 Q1 R1 xe ye
    rwa [l2, l1] at this
   have S2 := S1'.swapped R (a + i) (b + i) (by omega) (by omega)
   have la := S1'.drew.load R hDs P (a + i) (by omega)
   have lb := S1'.drew.load R hDs P (b + i) (by omega)
   have sa := S1'.st1 R hDs P (a + i) (by omega) ye
   have sb := S1'.st2 R hDs P (a + i) (b + i) (by omega) (by omega) ye xe
   rw [ga, gb, hw, ← e2] at S2
   rw [ga] at la
   rw [gb] at lb
   clear ga gb hw e1 e2 S1' hDs
   have na : (enc xe).length = k := R.hk _
   have nb : (enc ye).length = k := R.hk _
   generalize enc xe = cx at *
   generalize enc ye = cy at *
   have SS : Aside _ := S2
   clear S2
   have e1 : ((a : Int) + i).toNat = a + i := by omega
   have e2 : (0 : Int) ≤ (a : Int) + i := by omega
   have e3 : (a : Int) + i < d0.size := by omega
   have e4 : IntKind.i64.wrap ((a : Int) + i) = (a : Int) + i := by rw [IntKind.wrap_i64]; omega
   have f1 : ((b : Int) + i).toNat = b + i := by omega
   have f2 : (0 : Int) ≤ (b : Int) + i := by omega
   have f3 : (b : Int) + i < d0.size := by omega
   have f4 : IntKind.i64.wrap ((b : Int) + i) = (b : Int) + i := by rw [IntKind.wrap_i64]; omega
   clear hla hs
   go_wp2_with fail
   go_big_region_o
   all_goals go_wp2
   go_roundw
   case rel => exact ⟨i + 1, by go_num, by omega, SS⟩
   case measure => simp [intOf]; omega
  ·have hbl : decide ((i : Int) < n) = false := decide_eq_false (by omega)
   have hin : i = n := by omega
   have S2 : Aside (SB enc k w0 blk off (p ++ (y ++ (m ++ (x ++ q)))).toArray wr) := by
    show SB _ _ _ _ _ _ _
    have : SB enc k w0 blk off (p ++ (y.take i ++ x.drop i) ++ m ++ (x.take i ++ y.drop i) ++ q).toArray wr := S1
    rw [List.take_of_length_le (by omega), List.drop_of_length_le (by omega), List.take_of_length_le (l := x) (by omega), List.drop_of_length_le (l := y) (by omega)] at this
    simpa using this
   clear S1 hin hs hla
   go_wp2
   go_end0
   exact ⟨rfl, S2⟩
set_option maxHeartbeats 4000000 in
set_option maxRecDepth 1000000 in
theorem yJ (k : Nat) (z50 : ∀ w, (Go.sizeOf 61).run Tryz.prog w = .ok k w) (enc : α → List Value) (fv : Value) (blk off cap a m b : Nat) (d0 : Array α) (w0 w : World) (R : RK enc k w0 blk off d0)
  (p x y q : List α) (hp : p.length = a) (hx : a + x.length = m) (hy : m + y.length = b) (hx0 : 0 < x.length) (hy0 : 0 < y.length) (hs : d0.size = (p ++ (x ++ (y ++ q))).length) (S : SB enc k w0 blk off (p ++ (x ++ (y ++ q))).toArray w) (hsz : d0.size < 4611686018427387904) :
  Calls Tryz.prog 142 #[.slice (some ⟨blk, off, none⟩) d0.size cap, .int .i64 a, .int .i64 m, .int .i64 b, fv] w fun e w' => e = .returned (.tuple #[]) ∧ SB enc k w0 blk off (p ++ (y ++ (x ++ q))).toArray w' := by
 have HC : Aside (∀ (ai bi ni : Int) (W : World) (p x m y q : List α), (p.length : Int) = ai → (x.length : Int) = ni → ((p.length + x.length + m.length : Nat) : Int) = bi → y.length = x.length → d0.size = (p ++ (x ++ (m ++ (y ++ q)))).length → SB enc k w0 blk off (p ++ (x ++ (m ++ (y ++ q)))).toArray W →
   Calls Tryz.prog 144 #[.slice (some ⟨blk, off, none⟩) d0.size cap, .int .i64 ai, .int .i64 bi, .int .i64 ni, fv] W fun e w' => e = .returned (.tuple #[]) ∧ SB enc k w0 blk off (p ++ (y ++ (m ++ (x ++ q)))).toArray w') := by
  show ∀ _, _
  intro ai bi ni W p x m y q h1 h2 h3 h4 h5 h6
  subst h1 h2 h3
  exact uD k z50 enc fv blk off cap _ _ _ d0 w0 W R p x m y q rfl rfl (by omega) h4 h5 h6 hsz
 have S0 : Aside (SB enc k w0 blk off (p ++ (x ++ (y ++ q))).toArray w) := S
 have hla : d0.size = p.length + (x.length + (y.length + q.length)) := by rw [hs]; simp
 clear S hs
 go_enter Tryz.func142, Tryz.ntmps142
 go_wp2_with fail
 go_loopw [10, 11] (fun v10 v11 wr => ∃ (i j : Nat) (P X Y Q : List α), v10 = .int .i64 i ∧ v11 = .int .i64 j ∧ 0 < i ∧ 0 < j ∧ P.length + i = m ∧ i + j ≤ d0.size ∧ P.length + (i + (j + Q.length)) = d0.size ∧ Aside (X.length = i) ∧ Aside (Y.length = j) ∧
  Aside (P ++ (Y ++ (X ++ Q)) = p ++ (y ++ (x ++ q))) ∧ Aside (SB enc k w0 blk off (P ++ (X ++ (Y ++ Q))).toArray wr)) (fun v10 v11 wr => (intOf v10).toNat + (intOf v11).toNat)
 case atStart => exact ⟨x.length, y.length, p, x, y, q, by go_num, by go_num, hx0, hy0, by omega, by omega, by omega, rfl, rfl, rfl, S0⟩
 case round =>
  obtain ⟨i, j, P, X, Y, Q, rfl, rfl, hi, hj, hP, hij, hPs, hX, hY, hE, S1⟩ := hrel
  clear S0 hla
  have hX' : X.length = i := hX
  have hY' : Y.length = j := hY
  clear hX hY
  by_cases hne : i = j
  ·subst hne
   have b1 : ((i : Int) != i) = false := by simp
   have HK := HC (m - i) m i wr P X [] Y Q (by omega) (by omega) (by simp; omega) (by omega) (by simp; omega) (by have := S1; unfold Aside at this; simpa using this)
   have HK' : Aside _ := HK
   clear HK S1 hX' hY'
   go_wp2_with (go_at_call 144; refine Calls.mono HK' ?_; rintro e w' ⟨rfl, hS⟩)
   go_end0
   exact ⟨rfl, by have e : P ++ (Y ++ (X ++ Q)) = p ++ (y ++ (x ++ q)) := hE; rw [← e]; simpa using hS⟩
  ·have b1 : ((i : Int) != j) = true := bne_iff_ne.2 (by omega)
   by_cases hgt : j < i
   ·have b2 : decide ((j : Int) < i) = true := decide_eq_true (by omega)
    have b2' : decide (j < i) = true := decide_eq_true hgt
    obtain ⟨X1, X2, rfl, l1⟩ : ∃ X1 X2, X = X1 ++ X2 ∧ X1.length = j := ⟨X.take j, X.drop j, (List.take_append_drop _ _).symm, by simp; omega⟩
    have l2 : X2.length = i - j := by simp at hX'; omega
    have HK := HC (m - i) m j wr P X1 X2 Y Q (by omega) (by omega) (by omega) (by omega) (by simp; omega) (by have := S1; unfold Aside at this; simpa using this)
    have HK' : Aside _ := HK
    have HN : Aside ((P ++ Y) ++ (X1 ++ (X2 ++ Q)) = p ++ (y ++ (x ++ q))) := by have e : P ++ (Y ++ ((X1 ++ X2) ++ Q)) = p ++ (y ++ (x ++ q)) := hE; show _ = _; rw [← e]; simp
    have hPY : (P ++ Y).length + (i - j) = m := by simp; omega
    have hPY2 : (P ++ Y).length + ((i - j) + (j + Q.length)) = d0.size := by simp; omega
    have L1 : Aside (X1.length = j) := l1
    have L2 : Aside (X2.length = i - j) := l2
    clear HK S1 hX' hY' l1 l2 hE hne hPs
    go_wp2_with (go_at_call 144; refine Calls.mono HK' ?_; rintro e w' ⟨rfl, hS⟩; have S2 : Aside _ := hS; clear hS)
    go_roundw
    case rel => exact ⟨i - j, j, P ++ Y, X2, X1, Q, by go_num, rfl, by omega, hj, hPY, by omega, hPY2, L2, L1, HN, by show SB _ _ _ _ _ _ _; have := S2; unfold Aside at this; simpa using this⟩
    case measure => simp [intOf]; omega
   ·have b2 : decide ((j : Int) < i) = false := decide_eq_false (by omega)
    have b2' : decide (j < i) = false := decide_eq_false hgt
    obtain ⟨Y1, Y2, rfl, l1⟩ : ∃ Y1 Y2, Y = Y1 ++ Y2 ∧ Y1.length = j - i := ⟨Y.take (j - i), Y.drop (j - i), (List.take_append_drop _ _).symm, by simp; omega⟩
    have l2 : Y2.length = i := by simp at hY'; omega
    have HK := HC (m - i) (m + j - i) i wr P X Y1 Y2 Q (by omega) (by omega) (by omega) (by omega) (by simp; omega) (by have := S1; unfold Aside at this; simpa using this)
    have HK' : Aside _ := HK
    have HN : Aside (P ++ (Y1 ++ (Y2 ++ (X ++ Q))) = p ++ (y ++ (x ++ q))) := by have e : P ++ ((Y1 ++ Y2) ++ (X ++ Q)) = p ++ (y ++ (x ++ q)) := hE; show _ = _; rw [← e]; simp
    have hPY2 : P.length + (i + ((j - i) + (X ++ Q).length)) = d0.size := by simp; omega
    have L1 : Aside (Y1.length = j - i) := l1
    have L2 : Aside (Y2.length = i) := l2
    clear HK S1 hX' hY' l1 l2 hE hPs
    go_wp2_with (go_at_call 144; refine Calls.mono HK' ?_; rintro e w' ⟨rfl, hS⟩; have S2 : Aside _ := hS; clear hS)
    go_roundw
    case rel => exact ⟨i, j - i, P, Y2, Y1, X ++ Q, rfl, by go_num, hi, by omega, hP, by omega, hPY2, L2, L1, HN, S2⟩
    case measure => simp [intOf]; omega
end Go.Proofs.YtpflmgbpjhbmnaaGreat.SU
end
