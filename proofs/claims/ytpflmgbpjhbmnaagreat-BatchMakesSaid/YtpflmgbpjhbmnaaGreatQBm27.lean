/- FrontL, AdvT, Upper, AdvL, Rests, Made, Live9P, Live9, Open, OpenT, OpenU, RefC0, RefN0, GrpL, RefG, SameH, ConsP, NApp. -/
import Derived.Test.YtpflmgbpjhbmnaaGreatQBm24
import Derived.Test.YtpflmgbpjhbmnaaGreatQBm26
import Derived.Test.YtpflmgbpjhbmnaaGreatQBm21
import Derived.Test.YtpflmgbpjhbmnaaGreatQBm22
import Derived.KernelRfl
import Derived.Deep.Slices
import Derived.ChangeArms
import Derived.ProofKit
import Derived.Test.YtpflmgbpjhbmnaaGreatQBm1
import Derived.Test.YtpflmgbpjhbmnaaGreatQBm3
import Derived.Test.YtpflmgbpjhbmnaaGreatQBm15
import Derived.Deep.RegionHeld3
import Derived.Test.YtpflmgbpjhbmnaaGreatQBm16
section
namespace Go.Proofs.YtpflmgbpjhbmnaaGreat.B
open Go Go.RowKit Go.Proofs Go.Proofs.YtpflmgbpjhbmnaaGreatW.PrintWords
set_option linter.unusedVariables false
set_option linter.unusedSimpArgs false
theorem BR (l : List Tm) (hl : l.length ≤ 549755813888) : dF.f l = some (lI l) := by unfold dF.f; rw [if_pos hl]
def fE : List Tm → List Tm → Bool
 | [], [] => true
 | x :: a, y :: b => decide (eM x y = 0) && fE a b
 | _, _ => false
theorem iH : ∀ a b : List Tm, fE a b = true ↔ a = b
 | [], [] => by simp [fE]
 | [], _ :: _ => by simp [fE]
 | _ :: _, [] => by simp [fE]
 | x :: a, y :: b => by simp [fE, iH a b, jY]
theorem vA (a b : Tm) : (!(a.f0 == b.f0) || (!(a.f1 == b.f1))) = !decide (eM a b = 0) := by
 rw [← nN]; simp
theorem sJ (a b : List Tm) (he : a.length = b.length) (hl : a.length ≤ 1099511627776) : ∀ d i : Nat, a.length - i = d → i ≤ a.length → Ev (fun n => bB.l0 n a b i) (fE (a.drop i) (b.drop i)) := by
 intro d
 induction d with
 | zero =>
  intro i hd hi
  refine ⟨1, fun n hn => ?_⟩
  obtain ⟨n, rfl⟩ : ∃ m, n = m + 1 := ⟨n - 1, by omega⟩
  simp only [bB.l0]
  rw [if_neg (by omega), List.drop_eq_nil_of_le (by omega), List.drop_eq_nil_of_le (by omega)]
  rfl
 | succ d ih =>
  intro i hd hi
  have hlt : i < a.length := by omega
  obtain ⟨K, h⟩ := ih (i + 1) (by omega) (by omega)
  refine ⟨K + 1, fun n hn => ?_⟩
  obtain ⟨n, rfl⟩ : ∃ m, n = m + 1 := ⟨n - 1, by omega⟩
  simp only [bB.l0]
  rw [if_pos (by omega), if_pos (by omega), if_pos (by omega), fA a i hlt, fA b i (by omega), vA, List.drop_eq_getElem_cons hlt, List.drop_eq_getElem_cons (l := b) (by omega)]
  simp only [fE]
  by_cases he : eM a[i] b[i] = 0
  ·rw [if_neg (by simpa using he), show wrap64 ((i : Int) + 1) = ((i + 1 : Nat) : Int) by unfold wrap64; omega, decide_eq_true he, Bool.true_and]
   exact h n (by omega)
  ·rw [if_pos (by simpa using he), decide_eq_false he, Bool.false_and]
theorem mT (a b : List Tm) (h : a.length ≠ b.length) : fE a b = false := by
 cases hs : fE a b with
 | false => rfl
 | true => exact absurd (congrArg List.length ((iH a b).1 hs)) h
theorem nO (a b : List Tm) (hl : a.length ≤ 1099511627776) : Ev (fun n => bB.f n a b) (fE a b) := by
 by_cases he : a.length = b.length
 ·have h := sJ a b he hl _ 0 rfl (by omega)
  simpa [bB.f, he] using h
 ·rw [mT a b he]
  exact ⟨0, fun n _ => by simp only [bB.f]; rw [if_neg (by omega)]⟩
theorem xL (a b : List Tm) (he : a.length = b.length) (hl : a.length ≤ 1099511627776) : ∀ d i : Nat, a.length - i = d → i ≤ a.length → Ev (fun n => bC.l0 n a b (a.length : Int) i) (fE (a.drop i) (b.drop i)) := by
 intro d
 induction d with
 | zero =>
  intro i hd hi
  refine ⟨1, fun n hn => ?_⟩
  obtain ⟨n, rfl⟩ : ∃ m, n = m + 1 := ⟨n - 1, by omega⟩
  simp only [bC.l0]
  rw [if_neg (by omega), List.drop_eq_nil_of_le (by omega), List.drop_eq_nil_of_le (by omega)]
  rfl
 | succ d ih =>
  intro i hd hi
  have hlt : i < a.length := by omega
  obtain ⟨K, h⟩ := ih (i + 1) (by omega) (by omega)
  refine ⟨K + 1, fun n hn => ?_⟩
  obtain ⟨n, rfl⟩ : ∃ m, n = m + 1 := ⟨n - 1, by omega⟩
  simp only [bC.l0]
  rw [if_pos (by omega), if_pos (by omega), if_pos (by omega), if_pos (by omega), fA a i hlt, fA b i (by omega), vA, List.drop_eq_getElem_cons hlt, List.drop_eq_getElem_cons (l := b) (by omega)]
  simp only [fE]
  by_cases he : eM a[i] b[i] = 0
  ·rw [if_neg (by simpa using he), show wrap64 ((i : Int) + 1) = ((i + 1 : Nat) : Int) by unfold wrap64; omega, decide_eq_true he, Bool.true_and]
   exact h n (by omega)
  ·rw [if_pos (by simpa using he), decide_eq_false he, Bool.false_and]
theorem BS (a b : List Tm) (hl : a.length ≤ 1099511627776) : Ev (fun n => bC.f n a b) (fE a b) := by
 by_cases he : a.length = b.length
 ·have h := xL a b he hl _ 0 rfl (by omega)
  simpa [bC.f, he] using h
 ·rw [mT a b he]
  exact ⟨0, fun n _ => by simp only [bC.f]; rw [if_neg (by omega)]⟩
def okT (t : Tm) : Bool := decide (0 ≤ t.f0 ∧ t.f0 ≤ 1099511627776 ∧ 0 ≤ t.f1 ∧ t.f1 ≤ 1099511627776)
def fO (l : List Tm) : Int := if l.length > 1024 then 3 else if l.all okT = true then (if fE (lI l) l = true then 0 else 6) else 7
theorem vB (t : Tm) : dE.f t.f0 t.f1 = some (if okT t = true then 0 else 7) := by
 unfold dE.f okT
 simp only [decide_eq_true_eq]
 repeat' split
 all_goals first | rfl | omega
theorem qB (t : Tm) : eH.f t.f0 t.f1 = some (if okT t = true then 0 else 7) := by
 unfold eH.f okT mn mx
 simp only [decide_eq_true_eq]
 repeat' split
 all_goals first | rfl | omega
theorem rK (l : List Tm) : (lI l).length ≤ l.length := by
 have h : ∀ (r out : List Tm), (jT out r).length ≤ out.length + r.length := by
  intro r
  induction r with
  | nil => intro out; simp [jT]
  | cons t r ih =>
   intro out
   unfold jT
   by_cases hc : fN out t = true
   ·rw [if_pos hc]; have := ih out; rw [List.length_cons]; omega
   ·rw [if_neg hc]; have := ih (out ++ [t]); rw [List.length_append, List.length_singleton] at this; rw [List.length_cons]; omega
 have := h (gS l) []
 rw [gX] at this
 simpa [lI] using this
theorem sK (l : List Tm) (hl : l.length ≤ 1024) : ∀ d i : Nat, l.length - i = d → i ≤ l.length → Ev (fun n => bJ.l0 n l i) (if (l.drop i).all okT = true then (if fE (lI l) l = true then 0 else 6) else 7) := by
 intro d
 induction d with
 | zero =>
  intro i hd hi
  have h1 := BR l (by omega)
  have := rK l
  obtain ⟨K2, h2⟩ := nO (lI l) l (by omega)
  simp only [] at h2
  refine ⟨K2 + 1, fun n hn => ?_⟩
  obtain ⟨n, rfl⟩ : ∃ m, n = m + 1 := ⟨n - 1, by omega⟩
  simp only [bJ.l0]
  rw [if_neg (by omega), h1]
  simp only [Option.bind_some]
  rw [h2 n (by omega), List.drop_eq_nil_of_le (by omega)]
  simp only [Option.bind_some, List.all_nil, if_true]
  split <;> rfl
 | succ d ih =>
  intro i hd hi
  have hlt : i < l.length := by omega
  obtain ⟨K, h⟩ := ih (i + 1) (by omega) (by omega)
  refine ⟨K + 1, fun n hn => ?_⟩
  obtain ⟨n, rfl⟩ : ∃ m, n = m + 1 := ⟨n - 1, by omega⟩
  simp only [bJ.l0]
  rw [if_pos (by omega), if_pos (by omega), fA l i hlt, vB, List.drop_eq_getElem_cons hlt, List.all_cons]
  simp only [Option.bind_some]
  cases ho : okT l[i] with
  | true =>
   rw [if_pos (by rfl), Bool.true_and, show wrap64 ((i : Int) + 1) = ((i + 1 : Nat) : Int) by unfold wrap64; omega]
   exact h n (by omega)
  | false => simp
theorem xM (l : List Tm) : Ev (fun n => bJ.f n l) (fO l) := by
 unfold fO
 by_cases h : l.length > 1024
 ·rw [if_pos h]
  exact ⟨0, fun n _ => by simp only [bJ.f]; rw [if_pos (by omega)]⟩
 ·rw [if_neg h]
  obtain ⟨K, h1⟩ := sK l (by omega) _ 0 rfl (by omega)
  refine ⟨K, fun n hn => ?_⟩
  have h2 := h1 n hn
  simp only [bJ.f]
  rw [if_neg (by omega)]
  simpa using h2
theorem pC (l : List Tm) (hl : l.length ≤ 1024) : ∀ d i : Nat, l.length - i = d → i ≤ l.length → Ev (fun n => bX.l0 n l l (l.length : Int) i) (if (l.drop i).all okT = true then (if fE (lI l) l = true then 0 else 6) else 7) := by
 intro d
 induction d with
 | zero =>
  intro i hd hi
  have := rK l
  obtain ⟨K2, h2⟩ := BS (lI l) l (by omega)
  simp only [] at h2
  refine ⟨K2 + 1, fun n hn => ?_⟩
  obtain ⟨n, rfl⟩ : ∃ m, n = m + 1 := ⟨n - 1, by omega⟩
  simp only [bX.l0]
  rw [if_neg (by omega), dZ.f_some l (by omega)]
  simp only [Option.bind_some]
  rw [h2 n (by omega), List.drop_eq_nil_of_le (by omega)]
  simp only [Option.bind_some, List.all_nil, if_true]
  split <;> rfl
 | succ d ih =>
  intro i hd hi
  have hlt : i < l.length := by omega
  obtain ⟨K, h⟩ := ih (i + 1) (by omega) (by omega)
  refine ⟨K + 1, fun n hn => ?_⟩
  obtain ⟨n, rfl⟩ : ∃ m, n = m + 1 := ⟨n - 1, by omega⟩
  simp only [bX.l0]
  rw [if_pos (by omega), if_pos (by omega), if_pos (by omega), fA l i hlt, qB, List.drop_eq_getElem_cons hlt, List.all_cons]
  simp only [Option.bind_some]
  cases ho : okT l[i] with
  | true =>
   rw [if_pos (by rfl), Bool.true_and, show wrap64 ((i : Int) + 1) = ((i + 1 : Nat) : Int) by unfold wrap64; omega]
   exact h n (by omega)
  | false => simp
theorem sL (l : List Tm) : Ev (fun n => bX.f n l) (fO l) := by
 unfold fO
 by_cases h : l.length > 1024
 ·rw [if_pos h]
  exact ⟨0, fun n _ => by simp only [bX.f]; rw [if_pos (by omega)]⟩
 ·rw [if_neg h]
  obtain ⟨K, h1⟩ := pC l (by omega) _ 0 rfl (by omega)
  refine ⟨K, fun n hn => ?_⟩
  have h2 := h1 n hn
  simp only [bX.f]
  rw [if_neg (by omega)]
  simpa using h2
theorem dQ (l : List S61) (i : Nat) (h : i < l.length) : aX l (i : Int) = l[i] := by
 simp [aX, List.getD, h]
end Go.Proofs.YtpflmgbpjhbmnaaGreat.B
end
section
namespace Go.Proofs.YtpflmgbpjhbmnaaGreat.B
open Go Go.RowKit Go.Proofs Go.Proofs.YtpflmgbpjhbmnaaGreatW.PrintWords
theorem fB (W : World) (o : Obj) (k : Nat) (hk : k = W.heap.size) : (W.alloc o).heap[k]? = some o := by rw [hk]; exact heap_alloc_new _ _
abbrev Upd := S61
def gD (a b : Tm) : Tm := ⟨max a.f0 b.f0, max a.f1 b.f1⟩
def hZ (a b : Tm) : Tm := ⟨min a.f0 b.f0, min a.f1 b.f1⟩
def kJ (f : List Tm) (t : Tm) : Tm := match f with
 | [] => ⟨0, 0⟩
 | x :: r => r.foldl (fun o y => hZ o (gD t y)) (gD t x)
end Go.Proofs.YtpflmgbpjhbmnaaGreat.B
end
section
namespace Go.Proofs.YtpflmgbpjhbmnaaGreat.B
open Go Go.RowKit Go.Proofs Go.Proofs.YtpflmgbpjhbmnaaGreatW.PrintWords Go.Proofs.YtpflmgbpjhbmnaaGreatW.PrintLast Go.Proofs.YtpflmgbpjhbmnaaGreatW.PrintMore Go.Proofs.YtpflmgbpjhbmnaaGreat.Rg
set_option linter.unusedVariables false
set_option linter.unusedSimpArgs false
set_option maxRecDepth 100000
def most (m : S59) (l : List S59) : S59 := l.foldl (fun m t => ⟨max m.f0 t.f0, max m.f1 t.f1⟩) m
theorem vC (m : S59) (l : List S59) (t : S59) : most m (l ++ [t]) = ⟨max (most m l).f0 t.f0, max (most m l).f1 t.f1⟩ := by simp [most]
theorem AB (B : Int) (l : List S59) : ∀ m : S59, 0 ≤ m.f0 → 0 ≤ m.f1 → m.f0 ≤ B → m.f1 ≤ B → (∀ t ∈ l, t.f0 ≤ B ∧ t.f1 ≤ B) → 0 ≤ (most m l).f0 ∧ 0 ≤ (most m l).f1 ∧ (most m l).f0 ≤ B ∧ (most m l).f1 ≤ B := by
 induction l with
 | nil => intro m h1 h2 h3 h4 _; exact ⟨h1, h2, h3, h4⟩
 | cons t r ih =>
  intro m h1 h2 h3 h4 h
  have h5 := h t List.mem_cons_self
  refine ih ⟨max m.f0 t.f0, max m.f1 t.f1⟩ ?_ ?_ ?_ ?_ (fun q hq => h q (List.mem_cons_of_mem _ hq)) <;> dsimp only <;> omega
def lM (l : List S59) : List S59 := match l with | [] => [] | t :: r => [⟨0, (most t (t :: r)).f1 + 1⟩, ⟨(most t (t :: r)).f0 + 1, 0⟩]
theorem CZ (w : World) (t : S59) : Kd.R k59 59 (w.alloc (.cells #[.int .i64 t.f0, .int .i64 t.f1] 59)) w.heap.size (fun _ => True) (.slice (some ⟨w.heap.size, 0, none⟩) 1 1) [t] := by
 refine ⟨fun _ _ => trivial, [.int .i64 t.f0, .int .i64 t.f1], ⟨rfl, .inr ⟨w.heap.size, 1, #[.int .i64 t.f0, .int .i64 t.f1], rfl, Nat.le_refl _, heap_alloc_new w _, Nat.le_refl _, by simp [maxLen], rfl, rfl⟩⟩, rfl, fun j q hj => ?_⟩
 match j with
 | 0 => cases hj; exact gI _ _ _ t
 | n + 1 => cases hj
theorem lN (p : Nat) (b : Bt) (A : Nat → Option Addr) (c : Nat → Nat) (w : World) (hB : eU w p b A c) (hz : b.times = []) :
  Calls Tryz.prog 51 #[.pointer (some ⟨p, 0, none⟩)] w fun e w' => ∃ v0_ : Value, e = .returned v0_ ∧ Kd.R k59 59 w' w.heap.size (fun _ => True) v0_ [⟨0, 0⟩] ∧ Below w.heap.size w w' := by
 obtain ⟨h1, h2, h3⟩ := hB.times
 rw [hz] at h1
 have HB := aA.mk (And.intro hB hz)
 clear hB h2 h3 hz
 go_enter Tryz.func51, Tryz.ntmps51
 go_wp2
 go_ret
 refine ⟨_, rfl, ?_, by repeat (first | exact Below.refl _ _ | apply cG | apply aC)⟩
 exact CZ w ⟨0, 0⟩
structure Two (w : World) (e r : Int) (W : World) : Prop where
 blk : W.heap[w.heap.size]? = some (.cells #[.int .i64 e, .int .i64 r] 59 (0, 0))
 B : Below w.heap.size w W
set_option maxHeartbeats 4000000 in
theorem qC (p : Nat) (b : Bt) (A : Nat → Option Addr) (c : Nat → Nat) (w : World) (t0 : S59) (tr : List S59) (res : List S59) (hB : eU w p b A c) (hz : b.times = t0 :: tr) (hlen : b.times.length < 1099511627776) (hb : ∀ t ∈ b.times, 0 ≤ t.f0 ∧ 0 ≤ t.f1 ∧ t.f0 ≤ 1099511627776 ∧ t.f1 ≤ 1099511627776) (hn : dZ.f (lM b.times) = some res) :
  Calls Tryz.prog 51 #[.pointer (some ⟨p, 0, none⟩)] w fun e w' => ∃ v0_ : Value, e = .returned v0_ ∧ Kd.R k59 59 w' w.heap.size (fun _ => True) v0_ res ∧ Below w.heap.size w w' := by
 obtain ⟨h1, h2, h3⟩ := hB.times
 have HC := aA.mk h3
 have HN := aA.mk hn
 have HZ := aA.mk (And.intro hz hb)
 have HB := aA.mk (And.intro hB h2)
 have hl0 : 0 < b.times.length := by rw [hz]; simp
 have hz1 : decide ((b.times.length : Int) = 0) = false := decide_eq_false (by omega)
 have hz2 : decide (b.times.length = 0) = false := decide_eq_false (by omega)
 have hz3 : ((b.times.length : Int) == 0) = false := by apply beq_false_of_ne; omega
 have hi1 : (0 : Int) < (b.times.length : Int) := by omega
 obtain ⟨ad, eA, hx0, hx1⟩ := dW h3 (0 : Int) (by omega) (by omega)
 have ht0 : bN b.times 0 = t0 := by rw [hz]; rfl
 rw [ht0] at hx0 hx1
 have hA := eA
 rw [eA] at h1
 simp only [Int.toNat_zero, Nat.zero_mul] at hx0 hx1
 rw [show ad.add 0 = ad by simp [Addr.add]] at hx0 hx1
 have HA := aA.mk hA
 clear hB h2 h3 hz hn hb ht0 eA hA
 have hpl : p < w.heap.size := World.block_lt_of_cell? w _ h1
 go_enter Tryz.func51, Tryz.ntmps51
 go_wp2_with fail
 go_loopw [28] (fun v28 wr => ∃ i : Nat, v28 = .int .i64 i ∧ i ≤ b.times.length ∧ aA (Two w (most t0 (b.times.take i)).f0 (most t0 (b.times.take i)).f1 wr)) (fun v28 wr => b.times.length - (intOf v28).toNat)
 case atStart =>
  refine ⟨0, rfl, Nat.zero_le _, ⟨?_, ?_⟩⟩
  ·exact heap_alloc_new w _
  ·exact (Below.refl _ _).alloc (Nat.le_refl _) _
 case round =>
  clear hx0 hx1
  obtain ⟨i, rfl, hi, HT⟩ := hrel
  have hbk := HT.out.blk
  have hcc0 : wr.cell? ⟨w.heap.size, 0, none⟩ = some (.int .i64 (most t0 (b.times.take i)).f0) := by simp [World.cell?, hbk]
  have hcc1 : wr.cell? ⟨w.heap.size, 1, none⟩ = some (.int .i64 (most t0 (b.times.take i)).f1) := by simp [World.cell?, hbk]
  have hff0 : wr.frozen? ⟨w.heap.size, 0, none⟩ = false := by simp [World.frozen?, hbk]
  have hff1 : wr.frozen? ⟨w.heap.size, 1, none⟩ = false := by simp [World.frozen?, hbk]
  have hwl : w.heap.size < wr.heap.size := (Array.getElem?_eq_some_iff.1 hbk).1
  clear hbk
  by_cases hlt : i < b.times.length
  ·have hb1 : decide ((i : Int) < (b.times.length : Int)) = true := decide_eq_true (by omega)
   have hb2 : decide (i < b.times.length) = true := decide_eq_true hlt
   obtain ⟨ad2, e, hy0, hy1⟩ := dW HC.out (i : Int) (by omega) (by omega)
   rw [HA.out] at e
   cases e
   replace hy0 := aH HT.out.B hy0
   replace hy1 := aH HT.out.B hy1
   rw [Int.toNat_natCast] at hy0 hy1
   have HU : aA (b.times.take (i + 1) = b.times.take i ++ [bN b.times (i : Int)]) := ⟨by
    have e : bN b.times (i : Int) = b.times[i] := by simp [bN, hlt]
    rw [e, List.take_add_one, List.getElem?_eq_getElem hlt]; rfl⟩
   generalize bN b.times (i : Int) = t at hy0 hy1 HU
   have HM : aA (most t0 (b.times.take (i + 1)) = ⟨max (most t0 (b.times.take i)).f0 t.f0, max (most t0 (b.times.take i)).f1 t.f1⟩) := ⟨by rw [HU.out, vC]⟩
   generalize most t0 (b.times.take i) = m at hcc0 hcc1 HM HT
   go_wp2
   go_roundw
   case rel =>
    refine ⟨i + 1, by go_num, by omega, ⟨?_, ?_⟩⟩
    ·rw [HM.out]
     refine (heap_alloc_old _ _ _ (by simpa [World.setCell] using hwl)).trans ?_
     have hbk := HT.out.blk
     simp [World.setCell, Array.getElem?_modify, hbk]
    ·exact ((HT.out.B.setCell (Nat.le_refl _) _).setCell (Nat.le_refl _) _).alloc (by simpa [World.setCell] using Nat.le_of_lt hwl) _
   case measure => simp [intOf]; omega
  ·have hin : i = b.times.length := by omega
   subst hin
   have hb1 : decide ((b.times.length : Int) < (b.times.length : Int)) = false := decide_eq_false (by omega)
   rw [List.take_of_length_le (Nat.le_refl _)] at hcc0 hcc1 HT
   have HM : aA (lM b.times = [⟨0, (most t0 b.times).f1 + 1⟩, ⟨(most t0 b.times).f0 + 1, 0⟩]) := ⟨by rw [HZ.out.1]; rfl⟩
   have hmb : 0 ≤ (most t0 b.times).f0 ∧ 0 ≤ (most t0 b.times).f1 ∧ (most t0 b.times).f0 ≤ 1099511627776 ∧ (most t0 b.times).f1 ≤ 1099511627776 := by
    have h5 := HZ.out.2 t0 (by rw [HZ.out.1]; exact List.mem_cons_self)
    exact AB 1099511627776 b.times t0 h5.1 h5.2.1 h5.2.2.1 h5.2.2.2 (fun t ht => ⟨(HZ.out.2 t ht).2.2.1, (HZ.out.2 t ht).2.2.2⟩)
   generalize most t0 b.times = m at hcc0 hcc1 HM HT hmb
   obtain ⟨hm0, hm1, hm2, hm3⟩ := hmb
   have hd0 : decide (m.f0 < 9223372036854775807) = true := decide_eq_true (by omega)
   have hd1 : decide (m.f1 < 9223372036854775807) = true := decide_eq_true (by omega)
   have hw0 : IntKind.i64.wrap (m.f0 + 1) = m.f0 + 1 := by rw [IntWalk.i64_in _ (by omega)]
   have hw1 : IntKind.i64.wrap (m.f1 + 1) = m.f1 + 1 := by rw [IntWalk.i64_in _ (by omega)]
   have HB0 := aA.mk (Below.refl wr.heap.size wr)
   have HR0 := aA.mk (Kd.R_nil k59 59 wr wr.heap.size (fun _ => True))
   have HW := aA.mk hwl
   go_wp2_with (first
    | ((with_reducible refine cI (b := .append) (xs := #[.tmp 47, .tmp 52]) rfl ?_); at_builtin; (
      refine Kd.R_append k59 (w0 := wr) wr.heap.size rfl (.tmp 47) (.tmp 52) 23 59 (.agg #[(.int .i64 0), (.int .i64 0)]) 16 rfl Tryz.underlying23 fZ rfl (by decide) (by omega) (.slice none 0 0) [] ⟨0, m.f1 + 1⟩ [.int .i64 0, .int .i64 (m.f1 + 1)] (fun _ => True) (fun _ => False) rfl rfl (gI _ _ _ ⟨0, m.f1 + 1⟩) (fun _ hk => hk.elim) (fun _ _ => trivial) HR0.out HB0.out (Nat.le_refl _) (by simp) ?_
      intro v4 w4 ho hb hg hat
      obtain ⟨A4, c4, e4⟩ := Kd.R_slice ho
      subst e4
      have hcc0' := aH hb hcc0
      have hcc1' := aH hb hcc1
      have HO4 := aA.mk ho
      have HB4 := aA.mk hb
      clear ho hb hg hat))
    | ((with_reducible refine cI (b := .append) (xs := #[.tmp 57, .tmp 62]) rfl ?_); at_builtin; (
      refine Kd.R_append k59 (w0 := wr) wr.heap.size rfl (.tmp 57) (.tmp 62) 23 59 (.agg #[(.int .i64 0), (.int .i64 0)]) 16 rfl Tryz.underlying23 fZ rfl (by decide) (by omega) (.slice A4 ([] ++ [(⟨0, m.f1 + 1⟩ : S59)]).length c4) ([] ++ [⟨0, m.f1 + 1⟩]) ⟨m.f0 + 1, 0⟩ [.int .i64 (m.f0 + 1), .int .i64 0] (fun _ => True) (fun _ => False) rfl rfl (gI _ _ _ ⟨m.f0 + 1, 0⟩) (fun _ hk => hk.elim) (fun _ _ => trivial) HO4.out HB4.out HB4.out.size (by simp) ?_
      intro v5 w5 ho hb hg hat
      obtain ⟨A5, c5, e5, hl5, hC5⟩ := Kd.R_reads ho
      subst e5
      have HCall := aA.mk (dZ.calls A5 c5 ([] ++ [(⟨0, m.f1 + 1⟩ : S59)] ++ [⟨m.f0 + 1, 0⟩]) res w5 hC5 hl5 (by have h8 := HN.out; rw [HM.out] at h8; exact h8))
      have HB5 := aA.mk hb
      clear ho hb hg hat hl5 hC5))
    | (go_at_call 74; refine HCall.out.mono ?_; rintro e w6 ⟨v6, rfl, HO6, HB6⟩))
   go_ret
   have h9 : Below w.heap.size w w5 := HT.out.B.trans (HB5.out.mono (Nat.le_of_lt HW.out))
   exact ⟨v6, rfl, Kd.R_lower HO6 h9.size, h9.trans (HB6.mono h9.size)⟩
end Go.Proofs.YtpflmgbpjhbmnaaGreat.B
end
section
namespace Go.Proofs.YtpflmgbpjhbmnaaGreat.B
open Go Go.RowKit Go.Proofs Go.Proofs.YtpflmgbpjhbmnaaGreatW.PrintWords
set_option linter.unusedVariables false
set_option linter.unusedSimpArgs false
theorem vD (a b : Tm) : dM.f a.f0 a.f1 b.f0 b.f1 = some ((gD a b).f0, (gD a b).f1) := by
 unfold dM.f gD mx
 have h0 : (if a.f0 < b.f0 then b.f0 else a.f0) = max a.f0 b.f0 := by split <;> omega
 have h1 : (if a.f1 < b.f1 then b.f1 else a.f1) = max a.f1 b.f1 := by split <;> omega
 first | simp only [h0, h1] | (repeat' split) <;> simp <;> omega
theorem AC (a b : Tm) : eO.f a.f0 a.f1 b.f0 b.f1 = some ((hZ a b).f0, (hZ a b).f1) := by
 unfold eO.f hZ mn
 first | ((repeat' split) <;> simp <;> omega) | simp
theorem sM (f : List Tm) (t : Tm) (hl : f.length ≤ 1099511627776) : ∀ d i : Nat, f.length - i = d → i ≤ f.length → ∀ o : Tm, Ev (fun n => cE.l0 n f (f.length : Int) i t.f0 t.f1 o.f0 o.f1) (((f.drop i).foldl (fun o y => hZ o (gD t y)) o).f0, ((f.drop i).foldl (fun o y => hZ o (gD t y)) o).f1) := by
 intro d
 induction d with
 | zero =>
  intro i hd hi o
  refine ⟨1, fun n hn => ?_⟩
  obtain ⟨n, rfl⟩ : ∃ m, n = m + 1 := ⟨n - 1, by omega⟩
  simp only [cE.l0]
  rw [if_neg (by omega), List.drop_eq_nil_of_le (by omega)]
  rfl
 | succ d ih =>
  intro i hd hi o
  have hlt : i < f.length := by omega
  obtain ⟨K, h⟩ := ih (i + 1) (by omega) (by omega) (hZ o (gD t f[i]))
  refine ⟨K + 1, fun n hn => ?_⟩
  obtain ⟨n, rfl⟩ : ∃ m, n = m + 1 := ⟨n - 1, by omega⟩
  have h := h n (by omega)
  simp only [] at h
  simp only [cE.l0]
  rw [if_pos (by omega), if_pos (by omega), if_pos (by omega), fA f i hlt, vD, List.drop_eq_getElem_cons hlt]
  simp only [Option.bind_some]
  rw [AC o (gD t f[i])]
  simp only [Option.bind_some]
  rw [show wrap64 ((i : Int) + 1) = ((i + 1 : Nat) : Int) by unfold wrap64; omega]
  exact h
theorem xN (f : List Tm) (t : Tm) (hl : f.length ≤ 1099511627776) : Ev (fun n => cE.f n f t.f0 t.f1) ((kJ f t).f0, (kJ f t).f1) := by
 cases f with
 | nil => exact ⟨0, fun n _ => by simp [cE.f, kJ]⟩
 | cons x r =>
  obtain ⟨K, h⟩ := sM r t (by simp at hl; omega) _ 0 rfl (by omega) (gD t x)
  refine ⟨K, fun n hn => ?_⟩
  have h := h n hn
  simp only [] at h
  have hx : bN (x :: r) 0 = x := rfl
  simp only [cE.f]
  rw [if_neg (by simp; try omega), if_pos (by simp; try omega), hx, vD]
  simp only [Option.bind_some]
  rw [if_pos (by simp; try omega)]
  simpa [kJ] using h
def fK (l : List Upd) (f : List Tm) : List Upd := l.map fun u => ⟨u.f0, kJ f u.f1, u.f2⟩
theorem nP (l : List Upd) (f : List Tm) (hl : l.length ≤ 1099511627776) (hf : f.length ≤ 1099511627776) (hr : ∀ u ∈ l, u.f0.length ≤ 1099511627776) : ∀ d i : Nat, l.length - i = d → i ≤ l.length → Ev (fun n => bO.l0 n f (fK (l.take i) f) l (l.length : Int) i) (fK l f) := by
 intro d
 induction d with
 | zero =>
  intro i hd hi
  refine ⟨1, fun n hn => ?_⟩
  obtain ⟨n, rfl⟩ : ∃ m, n = m + 1 := ⟨n - 1, by omega⟩
  simp only [bO.l0]
  rw [if_neg (by omega), List.take_of_length_le (by omega)]
 | succ d ih =>
  intro i hd hi
  have hlt : i < l.length := by omega
  obtain ⟨K1, h1⟩ := ih (i + 1) (by omega) (by omega)
  obtain ⟨K2, h2⟩ := xN f l[i].f1 hf
  refine ⟨max K1 K2 + 1, fun n hn => ?_⟩
  obtain ⟨n, rfl⟩ : ∃ m, n = m + 1 := ⟨n - 1, by omega⟩
  have h1 := h1 n (by omega)
  have h2 := h2 n (by omega)
  simp only [] at h1 h2
  simp only [bO.l0]
  rw [if_pos (by omega), if_pos (by omega), if_pos (by omega), dQ l i hlt, bP.f_some _ (by have := hr _ (List.getElem_mem hlt); omega)]
  simp only [Option.bind_some]
  rw [h2]
  simp only [Option.bind_some]
  rw [if_pos (by simp [fK]; omega), show wrap64 ((i : Int) + 1) = ((i + 1 : Nat) : Int) by unfold wrap64; omega]
  have e : fK (l.take (i + 1)) f = fK (l.take i) f ++ [⟨l[i].f0, ⟨(kJ f l[i].f1).f0, (kJ f l[i].f1).f1⟩, l[i].f2⟩] := by
   have e2 : l.take (i + 1) = l.take i ++ [l[i]] := by rw [List.take_add_one, List.getElem?_eq_getElem hlt]; rfl
   unfold fK
   rw [e2, List.map_append]; rfl
  rw [e] at h1
  exact h1
theorem qD (l : List Upd) (f : List Tm) (hl : l.length ≤ 1099511627776) (hf : f.length ≤ 1099511627776) (hr : ∀ u ∈ l, u.f0.length ≤ 1099511627776) : Ev (fun n => bO.f n l f) (fK l f) := by
 have h := nP l f hl hf hr _ 0 rfl (by omega)
 simpa [bO.f, fK] using h
theorem kK (l : List Upd) (f : List Tm) (u : Upd) (h : u ∈ fK l f) : ∃ v ∈ l, u.f0 = v.f0 ∧ u.f1 = kJ f v.f1 ∧ u.f2 = v.f2 := by
 unfold fK at h
 obtain ⟨v, hv, rfl⟩ := List.mem_map.1 h
 exact ⟨v, hv, rfl, rfl, rfl⟩
theorem AD (t : Tm) : okT t = true ↔ 0 ≤ t.f0 ∧ t.f0 ≤ 1099511627776 ∧ 0 ≤ t.f1 ∧ t.f1 ≤ 1099511627776 := by simp [okT]
def sN (l : List Upd) : Bool := decide (60 < l.length) || l.any fun u => rX u.f0
theorem vE (l : List Upd) (hl : l.length ≤ 1099511627776) : ∀ d i : Nat, l.length - i = d → i ≤ l.length → Ev (fun n => bL.l0 n l i) ((l.drop i).any fun u => rX u.f0) := by
 intro d
 induction d with
 | zero =>
  intro i hd hi
  refine ⟨1, fun n hn => ?_⟩
  obtain ⟨n, rfl⟩ : ∃ m, n = m + 1 := ⟨n - 1, by omega⟩
  simp only [bL.l0]
  rw [if_neg (by omega), List.drop_eq_nil_of_le (by omega)]
  rfl
 | succ d ih =>
  intro i hd hi
  have hlt : i < l.length := by omega
  obtain ⟨K1, h1⟩ := ih (i + 1) (by omega) (by omega)
  obtain ⟨K2, h2⟩ := zI l[i].f0
  refine ⟨max K1 K2 + 1, fun n hn => ?_⟩
  obtain ⟨n, rfl⟩ : ∃ m, n = m + 1 := ⟨n - 1, by omega⟩
  have h1 := h1 n (by omega)
  have h2 := h2 n (by omega)
  simp only [] at h1 h2
  simp only [bL.l0]
  rw [if_pos (by omega), if_pos (by omega), dQ l i hlt, h2, List.drop_eq_getElem_cons hlt, List.any_cons]
  simp only [Option.bind_some]
  cases rX l[i].f0 with
  | true => simp
  | false =>
   rw [if_neg (by decide), Bool.false_or, show wrap64 ((i : Int) + 1) = ((i + 1 : Nat) : Int) by unfold wrap64; omega]
   exact h1
theorem AE (l : List Upd) (hl : l.length ≤ 9223372036854775807) : Ev (fun n => bL.f n l) (sN l) := by
 unfold sN
 by_cases h : 60 < l.length
 ·rw [decide_eq_true h, Bool.true_or]
  exact ⟨0, fun n _ => by simp only [bL.f]; rw [if_pos (by omega)]⟩
 ·rw [decide_eq_false h, Bool.false_or]
  obtain ⟨K, h1⟩ := vE l (by omega) _ 0 rfl (by omega)
  refine ⟨K, fun n hn => ?_⟩
  have h2 := h1 n hn
  simp only [bL.f]
  rw [if_neg (by omega)]
  simpa using h2
theorem xO {l : List Upd} (h : sN l = false) : l.length ≤ 60 ∧ ∀ u ∈ l, u.f0.length ≤ 30 := by
 unfold sN at h
 rw [Bool.or_eq_false_iff, decide_eq_false_iff_not, List.any_eq_false] at h
 refine ⟨by omega, fun u hu => ?_⟩
 have h2 := h.2 u hu
 unfold rX at h2
 simp at h2
 omega
def upF (l : List Tm) : List Tm := if l = [] then [⟨0, 0⟩] else lI (lM l)
end Go.Proofs.YtpflmgbpjhbmnaaGreat.B
end
section
namespace Go.Proofs.YtpflmgbpjhbmnaaGreat.B
open Go Go.RowKit Go.Proofs Go.Proofs.YtpflmgbpjhbmnaaGreatW.PrintWords Go.Proofs.YtpflmgbpjhbmnaaGreatW.PrintLast Go.Proofs.YtpflmgbpjhbmnaaGreatW.PrintMore Go.Proofs.YtpflmgbpjhbmnaaGreat.Rg
set_option linter.unusedVariables false
set_option linter.unusedSimpArgs false
set_option maxRecDepth 100000
theorem xP (l : List (List S85)) (hl : l.length ≤ 1099511627776) (hr : ∀ r ∈ l, r.length ≤ 1099511627776) : ∀ d i : Nat, l.length - i = d → i ≤ l.length → Ev (fun n => bV.l0 n (l.take i) l (l.length : Int) i) l := by
 intro d
 induction d with
 | zero =>
  intro i hd hi
  refine ⟨1, fun n hn => ?_⟩
  obtain ⟨n, rfl⟩ : ∃ m, n = m + 1 := ⟨n - 1, by omega⟩
  simp only [bV.l0]
  rw [if_neg (by omega), List.take_of_length_le (by omega)]
 | succ d ih =>
  intro i hd hi
  have hlt : i < l.length := by omega
  obtain ⟨K, h⟩ := ih (i + 1) (by omega) (by omega)
  refine ⟨K + 1, fun n hn => ?_⟩
  obtain ⟨n, rfl⟩ : ∃ m, n = m + 1 := ⟨n - 1, by omega⟩
  have h := h n (by omega)
  simp only [] at h
  have hrd : dH l (i : Int) = l[i] := by simp [dH, List.getD, hlt]
  simp only [bV.l0]
  rw [if_pos (by omega), if_pos (by omega), if_pos (by omega), hrd, bP.f_some _ (by have := hr _ (List.getElem_mem hlt); omega)]
  simp only [Option.bind_some]
  rw [if_pos (by rw [List.length_take]; omega), show wrap64 ((i : Int) + 1) = ((i + 1 : Nat) : Int) by unfold wrap64; omega]
  have e : l.take (i + 1) = l.take i ++ [l[i]] := by rw [List.take_add_one, List.getElem?_eq_getElem hlt]; rfl
  rw [e] at h
  exact h
theorem rL (l : List (List S85)) (hl : l.length ≤ 1099511627776) (hr : ∀ r ∈ l, r.length ≤ 1099511627776) : ∃ k, bV.f k l = some l := by
 have h := xP l hl hr _ 0 rfl (by omega)
 obtain ⟨k, h⟩ := h.rounds
 exact ⟨k, by simpa [bV.f] using h⟩
set_option maxHeartbeats 8000000 in
theorem qE (p : Nat) (b : Bt) (A : Nat → Option Addr) (c : Nat → Nat) (g : Gr) (i : Nat) (w : World) (hB : eU w p b A c) (hg : Gs b g) (hi : i < g.length) (hl : b.times.length < 1099511627776) (hr : ∀ y ∈ g.flatMap (·.2), y.1.length ≤ 1099511627776) :
  Calls Tryz.prog 25 #[.pointer (some ⟨p, 0, none⟩), .int .i64 i] w fun e w' => ∃ v0_ : Value, e = .returned v0_ ∧ Kd.S kV 45 w' w.heap.size (fun _ => True) v0_ (g[i].2.map (·.1)) ∧ Below w.heap.size w w' := by
 have HB := aA.mk hB
 have HG := aA.mk hg
 clear hB hg
 have hklen : b.keys.length = g.length := by rw [HG.out.keys, List.length_map]
 have HHas := aA.mk (lJ p b A c (i : Int) w HB.out)
 have hhas : decide (0 ≤ (i : Int) ∧ (i : Int) < (b.keys.length : Int)) = true := decide_eq_true (by omega)
 rw [hhas] at HHas
 clear hhas
 obtain ⟨all, hall⟩ : ∃ all : List Rst, all = g.flatMap (·.2) := ⟨_, rfl⟩
 rw [← hall] at hr
 have hne1 := HG.out.ne1
 have hne2 := HG.out.ne2
 rw [← hall] at hne2
 have hrl : b.rests.length = all.length := by rw [HG.out.rests, List.length_map, hall]
 have htl : b.times.length = (all.flatMap (·.2)).length := by rw [HG.out.times, List.length_map, hall]
 have hal : all.length ≤ 1099511627776 := by have := gO (fun y : Rst => y.2) all hne2; omega
 have hgl : g.length ≤ 1099511627776 := by have h1 := gO (·.2) g hne1; rw [← hall] at h1; omega
 obtain ⟨fr, hfr⟩ : ∃ fr : Nat, fr = ((g.map (·.2.length)).take i).sum := ⟨_, rfl⟩
 obtain ⟨te, hto⟩ : ∃ te : Nat, te = ((g.map (·.2.length)).take (i + 1)).sum := ⟨_, rfl⟩
 have hfrt : te = fr + g[i].2.length := by
  have h1 := gN (g.map (·.2.length)) i (by simpa using hi)
  rw [hto, hfr, h1]; simp
 have hnz : 0 < g[i].2.length := List.length_pos_iff.2 (hne1 _ (List.getElem_mem hi))
 have htal : te ≤ all.length := by rw [hto, hall]; exact nI (·.2) g (i + 1)
 have hsl : (b.rests.take te).drop fr = g[i].2.map (·.1) := by
  rw [HG.out.rests, ← hall, ← List.map_take, ← List.map_drop, hall, hto, hfr]
  congr 1
  exact sF (·.2) g i hi
 have HSpan : aA (∀ W, Below w.heap.size w W → Calls Tryz.prog 64 #[.slice (A 4) b.kend.length (c 4), .int .i64 i] W fun e w' => e = .returned (.tuple #[.int .i64 fr, .int .i64 te]) ∧ aA (Below w.heap.size w w')) := ⟨fun W hW => by
  have hk4 := (HB.out.below hW).kend
  refine (eZ.calls (A 4) (c 4) b.kend (i : Int) fr te W hk4.2.2 hk4.2.1 ?_).mono ?_
  ·rw [HG.out.kend, lH _ i (by simpa using hi) (by simpa using hgl), hfr, hto]
  ·rintro e w' ⟨g1, g2⟩
   exact ⟨g1, ⟨hW.trans (g2.below.mono hW.size)⟩⟩⟩
 have q5 := HB.out.rests.1
 obtain ⟨ad5, A2, c2, e5, _⟩ := jL HB.out.rests.2.2 (fr : Int) (by omega) (by omega)
 rw [e5] at q5
 have hC := HB.out.rests.2.2
 rw [e5] at hC
 have hC1 := Kd.C_take (m := te) hC (by omega)
 have hlt1 : (b.rests.take te).length = te := by rw [List.length_take]; omega
 have hC2 := Kd.C_drop (m := fr) (c := te) hC1 (by omega) (by omega)
 rw [if_neg (by omega), hsl] at hC2
 have hC3 : Kd.C kV w (some (ad5.add fr)) (g[i].2.map (·.1)).length (g[i].2.map (·.1)) := by
  have e : (some ad5).map (fun x => x.add (fr * kV.sz)) = some (ad5.add fr) := by simp [kV, Kd.slice]
  rw [e] at hC2; exact hC2
 have hrr : ∀ r ∈ g[i].2.map (·.1), r.length ≤ 1099511627776 := by
  intro r hr2
  obtain ⟨y, hy, rfl⟩ := List.mem_map.1 hr2
  exact hr y (by rw [hall]; exact List.mem_flatMap.2 ⟨g[i], List.getElem_mem hi, hy⟩)
 obtain ⟨kc, hkc⟩ := rL (g[i].2.map (·.1)) (by rw [List.length_map]; omega) hrr
 have hln : (g[i].2.map (·.1)).length = te - fr := by rw [List.length_map]; omega
 have HCl : aA (∀ W, Below w.heap.size w W → Calls Tryz.prog 62 #[.slice (some (ad5.add fr)) (te - fr) (te - fr)] W fun e w' => ∃ v0, e = .returned v0 ∧ aA (Kd.S kV 45 w' w.heap.size (fun _ => True) v0 (g[i].2.map (·.1))) ∧ aA (Below w.heap.size w w')) := ⟨fun W hW => by
  rw [← hln]
  refine (bV.calls kc (some (ad5.add fr)) _ _ _ W (Kd.C_below hC3 hW) (Nat.le_refl _) hkc).mono ?_
  rintro e w' ⟨v0, rfl, g1, g2⟩
  exact ⟨v0, rfl, ⟨Kd.S_lower g1 hW.size⟩, ⟨hW.trans (g2.mono hW.size)⟩⟩⟩
 have hft : fr < te := by omega
 have htr : te ≤ b.rests.length := by omega
 have htb : te ≤ 1099511627776 := by omega
 have hcc := HB.out.rests.2.1
 clear hC hC1 hC2 hC3 hrr hkc hln hlt1 hsl hfrt hnz htal hr hrl htl hal hgl hne1 hne2 hfr hto e5 hall hklen
 have i1 : decide ((0 : Int) ≤ (fr : Int)) = true := decide_eq_true (by omega)
 have i2 : decide ((fr : Int) ≤ (te : Int)) = true := decide_eq_true (by omega)
 have i3 : (fr : Int) ≤ (te : Int) := by omega
 have i4 : (te : Int) ≤ (c 5 : Int) := by omega
 have i5 : te ≤ c 5 := by omega
 have i6 : fr ≤ te := by omega
 have i7 : ¬ te - fr = 0 := by omega
 have i8 : ¬ te = fr := by omega
 go_enter Tryz.func25, Tryz.ntmps25
 go_wp2_with (first
  | (go_at_call 63; refine HHas.out.mono ?_; rintro e w1 ⟨rfl, HB1⟩; have hc4 := (HB.out.below HB1).kend.1; have HB1' := aA.mk HB1; clear HB1)
  | (go_at_call 64; refine (HSpan.out _ HB1'.out).mono ?_; rintro e w2 ⟨rfl, HB2⟩; have hc5 := aH HB2.out q5)
  | (go_at_call 62; refine (HCl.out _ HB2.out).mono ?_; rintro e w3 ⟨v0, rfl, HS3, HB3⟩))
 go_ret
 exact ⟨v0, rfl, HS3.out, HB3.out⟩
theorem yO (p : Nat) (b : Bt) (A : Nat → Option Addr) (c : Nat → Nat) (i : Int) (w : World) (hB : eU w p b A c) (h : ¬ (0 ≤ i ∧ i < (b.keys.length : Int))) : aA (Calls Tryz.prog 63 #[.pointer (some ⟨p, 0, none⟩), .int .i64 i] w fun e w' => e = .returned (.bool false) ∧ Below w.heap.size w w') := by
 have h1 := lJ p b A c i w hB
 rw [decide_eq_false h] at h1
 exact ⟨h1⟩
theorem xQ (p : Nat) (b : Bt) (A : Nat → Option Addr) (c : Nat → Nat) (i : Int) (w : World) (hB : eU w p b A c) (h : ¬ (0 ≤ i ∧ i < (b.keys.length : Int))) :
  Calls Tryz.prog 24 #[.pointer (some ⟨p, 0, none⟩), .int .i64 i] w fun e w' => e = .returned (.slice none 0 0) ∧ Below w.heap.size w w' := by
 have HHas := yO p b A c i w hB h
 clear hB h
 go_enter Tryz.func24, Tryz.ntmps24
 go_wp2_with (go_at_call 63; refine HHas.out.mono ?_; rintro e w1 ⟨rfl, HB1⟩)
 go_ret
 exact ⟨rfl, HB1⟩
theorem sO (p : Nat) (b : Bt) (A : Nat → Option Addr) (c : Nat → Nat) (i : Int) (w : World) (hB : eU w p b A c) (h : ¬ (0 ≤ i ∧ i < (b.keys.length : Int))) :
  Calls Tryz.prog 25 #[.pointer (some ⟨p, 0, none⟩), .int .i64 i] w fun e w' => e = .returned (.slice none 0 0) ∧ Below w.heap.size w w' := by
 have HHas := yO p b A c i w hB h
 clear hB h
 go_enter Tryz.func25, Tryz.ntmps25
 go_wp2_with (go_at_call 63; refine HHas.out.mono ?_; rintro e w1 ⟨rfl, HB1⟩)
 go_ret
 exact ⟨rfl, HB1⟩
end Go.Proofs.YtpflmgbpjhbmnaaGreat.B
end
section
namespace Go.Proofs.YtpflmgbpjhbmnaaGreat.B
open Go Go.RowKit Go.Proofs Go.Proofs.YtpflmgbpjhbmnaaGreatW.PrintWords Go.Proofs.YtpflmgbpjhbmnaaGreatW.PrintLast Go.Proofs.YtpflmgbpjhbmnaaGreatW.PrintMore Go.Proofs.YtpflmgbpjhbmnaaGreat.Rg
set_option linter.unusedVariables false
set_option linter.unusedSimpArgs false
set_option maxRecDepth 100000
def jG (key : Int) (l : List Upd) (since : List Tm) : Option (List Upd) × Int :=
 if key < 0 ∨ 16 < key then (none, 1)
 else if ∃ u ∈ l, (u.f0.length : Int) < key then (none, 9)
 else if fO since ≠ 0 then (none, fO since)
 else if (dC (if since.length = 0 then l else fK l since)).2 ≠ 0 then (none, (dC (if since.length = 0 then l else fK l since)).2)
 else (some (dC (if since.length = 0 then l else fK l since)).1, 0)
structure Lim (cl : List Upd) (since : List Tm) : Prop where
 n : cl.length < 1099511627776
 r : ∀ u ∈ cl, u.f0.length ≤ 1099511627776
 s : since.length ≤ 1099511627776
structure fP (W : World) (N p : Nat) (key weight : Int) (since : List Tm) (cl : List Upd) : Prop where
 at_ : dU W N p (xI key weight since cl)
 lim : Lim cl since
theorem fP.below {W W1 : World} {N p : Nat} {key weight : Int} {since : List Tm} {cl : List Upd} (h : fP W N p key weight since cl) (hb : Below W.heap.size W W1) : fP W1 N p key weight since cl := ⟨h.at_.below hb, h.lim⟩
theorem fP.lower {W : World} {N N' p : Nat} {key weight : Int} {since : List Tm} {cl : List Upd} (h : fP W N p key weight since cl) (hb : N' ≤ N) : fP W N' p key weight since cl := ⟨h.at_.lower hb, h.lim⟩
theorem nQ {key : Int} {l : List Upd} {since : List Tm} {cl : List Upd} (h : (jG key l since).1 = some cl) (hl : Lim l since) : Lim cl since ∧ 0 ≤ key ∧ key ≤ 16 ∧ (∀ u ∈ l, key ≤ (u.f0.length : Int)) ∧ fO since = 0 ∧ cl = (dC (if since.length = 0 then l else fK l since)).1 ∧ (dC (if since.length = 0 then l else fK l since)).2 = 0 ∧ (jG key l since).2 = 0 ∧ ∀ u ∈ cl, ∃ v ∈ l, u.f0 = v.f0 := by
 have hlen : (if since.length = 0 then l else fK l since).length = l.length := by split <;> simp [fK]
 have hmem : ∀ u ∈ (if since.length = 0 then l else fK l since), ∃ v ∈ l, u.f0 = v.f0 := by
  split
  ·exact fun u hu => ⟨u, hu, rfl⟩
  ·intro u hu
   obtain ⟨v, hv, e, _⟩ := kK _ _ _ hu
   exact ⟨v, hv, e⟩
 generalize hal : (if since.length = 0 then l else fK l since) = al at hlen hmem
 unfold jG at h ⊢
 rw [hal] at h ⊢
 by_cases h1 : key < 0 ∨ 16 < key
 ·rw [if_pos h1] at h; cases h
 ·rw [if_neg h1] at h ⊢
  by_cases h2 : ∃ u ∈ l, (u.f0.length : Int) < key
  ·rw [if_pos h2] at h; cases h
  ·rw [if_neg h2] at h ⊢
   by_cases h3 : fO since ≠ 0
   ·rw [if_pos h3] at h; cases h
   ·rw [if_neg h3] at h ⊢
    by_cases h4 : (dC al).2 ≠ 0
    ·rw [if_pos h4] at h; cases h
    ·rw [if_neg h4] at h ⊢
     injection h with h
     subst h
     have h5 := lG al
     have hm2 : ∀ u ∈ (dC al).1, ∃ v ∈ l, u.f0 = v.f0 := fun u hu => by
      obtain ⟨v, hv, e, _⟩ := oR al u hu
      obtain ⟨x, hx, e2⟩ := hmem v hv
      exact ⟨x, hx, e.trans e2⟩
     refine ⟨⟨by have := hl.n; omega, fun u hu => ?_, hl.s⟩, by omega, by omega, fun u hu => ?_, by omega, rfl, by omega, rfl, hm2⟩
     ·obtain ⟨v, hv, e⟩ := hm2 u hu
      rw [e]; exact hl.r v hv
     ·have : ¬ (u.f0.length : Int) < key := fun h => h2 ⟨u, hu, h⟩
      omega
def AV (w : World) (key weight : Int) (since : List Tm) (r : Option (List Upd) × Int) (e : Ending) (w' : World) : Prop :=
 ∃ vp : Value, e = .returned (.tuple #[vp, .int .i64 r.2]) ∧ Below w.heap.size w w' ∧ match r.1 with | none => vp = .pointer none | some cl => ∃ p, vp = .pointer (some ⟨p, 0, none⟩) ∧ fP w' w.heap.size p key weight since cl
theorem vF (key : Int) (l : List Upd) (since : List Tm) : nX key l since (fO since) (fK l since) = ((jG key l since).1.map (xI key l.length since), (jG key l since).2) := by
 unfold nX jG
 by_cases h1 : key < 0 ∨ 16 < key
 ·rw [if_pos h1, if_pos h1]; rfl
 rw [if_neg h1, if_neg h1]
 by_cases h2 : ∃ u ∈ l, (u.f0.length : Int) < key
 ·rw [if_pos h2, if_pos h2]; rfl
 rw [if_neg h2, if_neg h2]
 by_cases h3 : fO since ≠ 0
 ·rw [if_pos h3, if_pos h3]; rfl
 rw [if_neg h3, if_neg h3]
 by_cases h4 : (dC (if since.length = 0 then l else fK l since)).2 ≠ 0
 ·rw [if_pos h4, if_pos h4]; rfl
 rw [if_neg h4, if_neg h4, uT]
 rfl
theorem CK (key : Int) (A0 A1 : Option Addr) (c0 c1 : Nat) (l : List Upd) (since : List Tm) (w : World) (hr0 : Kd.C k61 w A0 l.length l) (hc0 : l.length ≤ c0) (hr1 : Kd.C k59 w A1 since.length since) (hc1 : since.length ≤ c1) (hl : Lim l since) :
  Calls Tryz.prog 9 #[.int .i64 key, .slice A0 l.length c0, .slice A1 since.length c1] w (AV w key l.length since (jG key l since)) := by
 obtain ⟨kc, hck⟩ := (sL since).rounds
 obtain ⟨ka, hka⟩ := (qD l since (by have := hl.n; omega) hl.s hl.r).rounds
 refine (uP kc ka key A0 A1 c0 c1 l (fK l since) since (fO since) w hr0 hc0 hr1 hc1 hl.n hl.r hl.s hck hka (by simp [fK]) (fun u hu => by
  obtain ⟨v, hv, e, _⟩ := kK l since u hu
  exact ⟨v, hv, e⟩)).mono ?_
 rintro e w' ⟨vp, rfl, h1, h2⟩
 rw [vF] at h2 ⊢
 refine ⟨vp, rfl, h1, ?_⟩
 cases hn : (jG key l since).1 with
 | none => rw [hn] at h2; exact h2
 | some cl =>
  obtain ⟨q1, _⟩ := nQ hn hl
  rw [hn] at h2
  obtain ⟨p, g1, g2⟩ := h2
  exact ⟨p, g1, g2, q1⟩
section
variable {W : World} {N p : Nat} {key weight : Int} {since : List Tm} {cl : List Upd}
theorem rM (h : CV key weight since cl (xI key weight since cl) (iR key.toNat cl)) : (iR key.toNat cl).length ≤ cl.length := by
 have h1 := gO (fun x : List S85 × List Rst => x.2) _ h.gs.ne1
 have h2 := gO (fun y : Rst => y.2) _ h.gs.ne2
 have h3 : (xI key weight since cl).times.length = cl.length := by rw [h.times, List.length_map]
 rw [h.gs.times, List.length_map] at h3
 omega
theorem fP.g (h : fP W N p key weight since cl) : CV key weight since cl (xI key weight since cl) (iR key.toNat cl) := DL key weight since cl h.lim.r
theorem fP.tl (h : fP W N p key weight since cl) : (xI key weight since cl).times.length < 1099511627776 := by rw [h.g.times, List.length_map]; exact h.lim.n
theorem DM (h : fP W N p key weight since cl) : Calls Tryz.prog 17 #[.pointer (some ⟨p, 0, none⟩)] W fun e w' => e = .returned (.int .i64 cl.length) ∧ Below W.heap.size W w' := by
 obtain ⟨A, c, hR⟩ := h.at_.reads
 refine (uQ p _ A c W hR).mono ?_
 rintro e w' ⟨rfl, h2⟩
 exact ⟨by rw [h.g.times, List.length_map], h2⟩
theorem qF (h : fP W N p key weight since cl) : Calls Tryz.prog 13 #[.pointer (some ⟨p, 0, none⟩)] W fun e w' => e = .returned (.int .i64 weight) ∧ Below W.heap.size W w' := by
 obtain ⟨A, c, hR⟩ := h.at_.reads
 have := oS p _ A c W hR
 rw [h.g.weight] at this
 exact this
theorem DU (h : fP W N p key weight since cl) : Calls Tryz.prog 18 #[.pointer (some ⟨p, 0, none⟩)] W fun e w' => e = .returned (.int .i64 key) ∧ Below W.heap.size W w' := by
 obtain ⟨A, c, hR⟩ := h.at_.reads
 have := uR p _ A c W hR
 rw [h.g.key] at this
 exact this
theorem BT (h : fP W N p key weight since cl) : Calls Tryz.prog 20 #[.pointer (some ⟨p, 0, none⟩)] W fun e w' => ∃ v0_ : Value, e = .returned v0_ ∧ Kd.R k59 59 w' W.heap.size (fun _ => True) v0_ since ∧ Below W.heap.size W w' := by
 obtain ⟨A, c, hR⟩ := h.at_.reads
 have := pY p _ A c W hR (by rw [h.g.since]; exact h.lim.s)
 rw [h.g.since] at this
 exact this
theorem BU (h : fP W N p key weight since cl) : Calls Tryz.prog 22 #[.pointer (some ⟨p, 0, none⟩)] W fun e w' => ∃ v0_ : Value, e = .returned v0_ ∧ Kd.S kV 45 w' W.heap.size (fun _ => True) v0_ ((iR key.toNat cl).map (·.1)) ∧ Below W.heap.size W w' := by
 obtain ⟨A, c, hR⟩ := h.at_.reads
 have hg := rM h.g
 obtain ⟨k, hk⟩ := rL (xI key weight since cl).keys (by rw [h.g.gs.keys, List.length_map]; have := h.lim.n; omega) (fun r hr => by
  rw [h.g.gs.keys] at hr
  obtain ⟨x, hx, rfl⟩ := List.mem_map.1 hr
  exact h.g.wk x hx)
 have := sG k p _ A c W _ hR hk
 rw [h.g.gs.keys] at this
 exact this
theorem DN (h : fP W N p key weight since cl) : Calls Tryz.prog 15 #[.pointer (some ⟨p, 0, none⟩)] W fun e w' => ∃ v0_ : Value, e = .returned v0_ ∧ Kd.S k61 61 w' W.heap.size (fun _ => True) v0_ (AA (iR key.toNat cl)) ∧ Below W.heap.size W w' := by
 obtain ⟨A, c, hR⟩ := h.at_.reads
 exact uV p _ A c _ W hR h.g.gs h.tl h.g.wk h.g.wr
theorem DV (h : fP W N p key weight since cl) (i : Nat) (hi : i < (iR key.toNat cl).length) : Calls Tryz.prog 24 #[.pointer (some ⟨p, 0, none⟩), .int .i64 i] W fun e w' => ∃ v0_ : Value, e = .returned v0_ ∧ Kd.S k61 61 w' W.heap.size (fun _ => True) v0_ (fW (iR key.toNat cl)[i]) ∧ Below W.heap.size W w' := by
 obtain ⟨A, c, hR⟩ := h.at_.reads
 exact oT p _ A c _ i W hR h.g.gs hi h.tl h.g.wk h.g.wr
theorem yP (h : fP W N p key weight since cl) (i : Nat) (hi : i < (iR key.toNat cl).length) : Calls Tryz.prog 25 #[.pointer (some ⟨p, 0, none⟩), .int .i64 i] W fun e w' => ∃ v0_ : Value, e = .returned v0_ ∧ Kd.S kV 45 w' W.heap.size (fun _ => True) v0_ ((iR key.toNat cl)[i].2.map (·.1)) ∧ Below W.heap.size W w' := by
 obtain ⟨A, c, hR⟩ := h.at_.reads
 exact qE p _ A c _ i W hR h.g.gs hi h.tl h.g.wr
theorem AF (h : fP W N p key weight since cl) (i : Int) (hi : ¬ (0 ≤ i ∧ i < ((iR key.toNat cl).length : Int))) : Calls Tryz.prog 24 #[.pointer (some ⟨p, 0, none⟩), .int .i64 i] W fun e w' => e = .returned (.slice none 0 0) ∧ Below W.heap.size W w' := by
 obtain ⟨A, c, hR⟩ := h.at_.reads
 exact xQ p _ A c i W hR (by rw [h.g.gs.keys, List.length_map]; exact hi)
theorem vG (h : fP W N p key weight since cl) (i : Int) (hi : ¬ (0 ≤ i ∧ i < ((iR key.toNat cl).length : Int))) : Calls Tryz.prog 25 #[.pointer (some ⟨p, 0, none⟩), .int .i64 i] W fun e w' => e = .returned (.slice none 0 0) ∧ Below W.heap.size W w' := by
 obtain ⟨A, c, hR⟩ := h.at_.reads
 exact sO p _ A c i W hR (by rw [h.g.gs.keys, List.length_map]; exact hi)
theorem BV (h : fP W N p key weight since cl) (hok : ∀ u ∈ cl, okT u.f1 = true) : Calls Tryz.prog 51 #[.pointer (some ⟨p, 0, none⟩)] W fun e w' => ∃ v0_ : Value, e = .returned v0_ ∧ Kd.R k59 59 w' W.heap.size (fun _ => True) v0_ (upF (cl.map (·.f1))) ∧ Below W.heap.size W w' := by
 obtain ⟨A, c, hR⟩ := h.at_.reads
 have ht := h.g.times
 cases hc : cl with
 | nil =>
  subst hc
  exact lN p _ A c W hR (by rw [ht]; rfl)
 | cons u0 r0 =>
  have hu : upF ((u0 :: r0).map (·.f1)) = lI (lM (cl.map (·.f1))) := by rw [hc]; exact if_neg (by simp)
  rw [hu]
  refine qC p _ A c W u0.f1 (r0.map (·.f1)) _ hR (by rw [ht, hc]; rfl) h.tl (fun t ht2 => ?_) ?_
  ·rw [ht] at ht2
   obtain ⟨u, hu2, rfl⟩ := List.mem_map.1 ht2
   have := (AD _).1 (hok u hu2)
   omega
  ·rw [ht]
   exact dZ.f_some _ (by unfold lM; split <;> simp)
end
end Go.Proofs.YtpflmgbpjhbmnaaGreat.B
end
section
namespace Go.Proofs.YtpflmgbpjhbmnaaGreat.B
open Go Go.RowKit Go.Proofs Go.Proofs.YtpflmgbpjhbmnaaGreatW.PrintWords
set_option linter.unusedVariables false
set_option linter.unusedSimpArgs false
set_option maxRecDepth 100000
def lvA : List S85 := [⟨0, 1, ⟨#[]⟩⟩, ⟨1, 0, ⟨#[97]⟩⟩]
def lvB : List S85 := [⟨0, 1, ⟨#[]⟩⟩, ⟨1, 0, ⟨#[98]⟩⟩]
def lvL : List Upd := [⟨lvA, ⟨0, 0⟩, 1⟩, ⟨lvB, ⟨0, 1⟩, 2⟩, ⟨lvA, ⟨0, 0⟩, 1⟩]
def lvC : List Upd := [⟨lvA, ⟨0, 0⟩, 2⟩, ⟨lvB, ⟨0, 1⟩, 2⟩]
theorem BW : jG 1 lvL [] = (some lvC, 0) := by
 kernel_rfl
theorem vH : (iR 1 lvC).length = 1 := by kernel_rfl
theorem xR : ∀ h : 0 < (iR (1 : Int).toNat lvC).length, ((iR (1 : Int).toNat lvC)[0].2.map (·.1)).length = 2 := by
 intro h
 kernel_rfl
theorem DA : upF (lvC.map (·.f1)) = [⟨0, 2⟩, ⟨1, 0⟩] := by
 have e : upF (lvC.map (·.f1)) = lI [⟨0, 2⟩, ⟨1, 0⟩] := by
  unfold upF
  rw [if_neg (by simp [lvC])]
  rfl
 rw [e]
 refine (mS _).toLeast.uniq ⟨?_, fun s => ⟨fun h => ⟨h, fun x hx hl => ?_⟩, fun h => h.1⟩⟩
 ·simp [nC]
 ·simp at h hx
  rw [lK] at hl
  rcases h with rfl | rfl <;> rcases hx with rfl | rfl <;> simp_all
theorem DB : ∀ u ∈ lvC, okT u.f1 = true := by
 intro u hu
 simp [lvC] at hu
 rcases hu with rfl | rfl <;> rfl
theorem BX : Lim lvL [] := by
 refine ⟨by simp [lvL], fun u hu => ?_, by simp⟩
 simp [lvL] at hu
 rcases hu with rfl | rfl | rfl <;> simp [lvA, lvB]
theorem nR {α : Type} {d : Kd α} {W : World} {g t : Nat} {cs : List Value} {xs : List α} (hb : W.heap[g]? = some (.cells cs.toArray t (0, 0))) (hr : Reps (d.K W) d.sz xs cs) (hl : xs.length ≤ 9223372036854775807) : Kd.C d W (some ⟨g, 0, none⟩) xs.length xs := by
 refine ⟨rfl, hl, fun _ => ⟨⟨g, 0, none⟩, rfl, fun j p hj => ⟨(cs.drop (j * d.sz)).take d.sz, d.K_len (hr.2 j p hj), hr.2 j p hj, fun i u hu => ?_⟩⟩⟩
 rw [List.getElem?_take] at hu
 split at hu
 ·rw [List.getElem?_drop] at hu
  have e : (⟨g, 0, none⟩ : Addr).add (j * d.sz + i) = ⟨g, j * d.sz + i, none⟩ := by rw [add_at, Nat.zero_add]
  rw [e, aE hb]
  simpa using hu
 ·cases hu
theorem eT {α : Type} {R : α → List Value → Prop} {size : Nat} {x : α} {xs : List α} {c cs : List Value} (hx : R x c) (hc : c.length = size) (h : Reps R size xs cs) : Reps R size (x :: xs) (c ++ cs) := by
 refine ⟨by rw [List.length_append, h.1, hc, List.length_cons, Nat.add_mul, Nat.one_mul, Nat.add_comm], fun j p hj => ?_⟩
 cases j with
 | zero =>
  simp at hj
  subst hj
  rw [Nat.zero_mul, List.drop_zero, ← hc, List.take_left]
  exact hx
 | succ j =>
  simp at hj
  have h2 := h.2 j p hj
  rw [Nat.succ_mul, Nat.add_comm, ← hc, List.drop_length_add_append, hc]
  exact h2
end Go.Proofs.YtpflmgbpjhbmnaaGreat.B
end
section
namespace Go.Proofs.YtpflmgbpjhbmnaaGreat.B
open Go Go.RowKit Go.Proofs Go.Proofs.YtpflmgbpjhbmnaaGreatW.PrintWords Go.Proofs.YtpflmgbpjhbmnaaGreatW.PrintLast Go.Proofs.YtpflmgbpjhbmnaaGreatW.PrintMore Go.Proofs.YtpflmgbpjhbmnaaGreat.Rg
set_option linter.unusedVariables false
set_option linter.unusedSimpArgs false
set_option maxRecDepth 100000
abbrev rN : Array Value := #[.int .i64 0, .int .i64 1, .string ⟨#[]⟩, .int .i64 1, .int .i64 0, .string ⟨#[97]⟩]
abbrev rO : Array Value := #[.int .i64 0, .int .i64 1, .string ⟨#[]⟩, .int .i64 1, .int .i64 0, .string ⟨#[98]⟩]
abbrev qG (g0 g1 : Nat) : Array Value := #[.slice (some ⟨g0, 0, none⟩) 2 2, .int .i64 0, .int .i64 0, .int .i64 1, .slice (some ⟨g1, 0, none⟩) 2 2, .int .i64 0, .int .i64 1, .int .i64 2, .slice (some ⟨g0, 0, none⟩) 2 2, .int .i64 0, .int .i64 0, .int .i64 1]
theorem BZ {W : World} {g : Nat} (h : W.heap[g]? = some (.cells rN 85 (0, 0))) : Kd.C k85 W (some ⟨g, 0, none⟩) lvA.length lvA :=
 nR (cs := rN.toList) h (eT (c := [.int .i64 0, .int .i64 1, .string ⟨#[]⟩]) (qS W ⟨0, 1, ⟨#[]⟩⟩) rfl (eT (c := [.int .i64 1, .int .i64 0, .string ⟨#[97]⟩]) (qS W ⟨1, 0, ⟨#[97]⟩⟩) rfl (Reps.none _ _))) (by simp [lvA])
theorem DC {W : World} {g : Nat} (h : W.heap[g]? = some (.cells rO 85 (0, 0))) : Kd.C k85 W (some ⟨g, 0, none⟩) lvB.length lvB :=
 nR (cs := rO.toList) h (eT (c := [.int .i64 0, .int .i64 1, .string ⟨#[]⟩]) (qS W ⟨0, 1, ⟨#[]⟩⟩) rfl (eT (c := [.int .i64 1, .int .i64 0, .string ⟨#[98]⟩]) (qS W ⟨1, 0, ⟨#[98]⟩⟩) rfl (Reps.none _ _))) (by simp [lvB])
theorem DW {W : World} {g0 g1 g2 : Nat} (h0 : W.heap[g0]? = some (.cells rN 85 (0, 0))) (h1 : W.heap[g1]? = some (.cells rO 85 (0, 0))) (h2 : W.heap[g2]? = some (.cells (qG g0 g1) 61 (0, 0))) : Kd.C k61 W (some ⟨g2, 0, none⟩) lvL.length lvL := by
 refine nR (cs := (qG g0 g1).toList) h2 (eT (c := [.slice (some ⟨g0, 0, none⟩) 2 2, .int .i64 0, .int .i64 0, .int .i64 1]) ?_ rfl (eT (c := [.slice (some ⟨g1, 0, none⟩) 2 2, .int .i64 0, .int .i64 1, .int .i64 2]) ?_ rfl (eT (c := [.slice (some ⟨g0, 0, none⟩) 2 2, .int .i64 0, .int .i64 0, .int .i64 1]) ?_ rfl (Reps.none _ _)))) (by simp [lvL])
 ·exact qU W ⟨lvA, ⟨0, 0⟩, 1⟩ (Nat.le_refl _) (BZ h0)
 ·exact qU W ⟨lvB, ⟨0, 1⟩, 2⟩ (Nat.le_refl _) (DC h1)
 ·exact qU W ⟨lvA, ⟨0, 0⟩, 1⟩ (Nat.le_refl _) (BZ h0)
theorem AG : ∃ k, bB.f k [⟨0, 2⟩, ⟨1, 0⟩] [⟨0, 2⟩, ⟨1, 0⟩] = some true := by
 have h := nO [⟨0, 2⟩, ⟨1, 0⟩] [⟨0, 2⟩, ⟨1, 0⟩] (by simp)
 rw [(iH _ _).2 rfl] at h
 exact h.rounds
set_option maxHeartbeats 8000000 in
theorem sP (w : World) : Calls Tryz.prog 8 #[] w fun e w' => e = .returned (.bool true) ∧ Below w.heap.size w w' := by
 have HNew : aA (∀ W g0 g1 g2, W.heap[g0]? = some (.cells rN 85 (0, 0)) → W.heap[g1]? = some (.cells rO 85 (0, 0)) → W.heap[g2]? = some (.cells (qG g0 g1) 61 (0, 0)) → Below w.heap.size w W → Calls Tryz.prog 9 #[.int .i64 1, .slice (some ⟨g2, 0, none⟩) 3 3, .slice none 0 0] W fun e w' => ∃ p N, e = .returned (.tuple #[.pointer (some ⟨p, 0, none⟩), .int .i64 0]) ∧ aA (fP w' N p 1 3 [] lvC) ∧ aA (Below w.heap.size w w')) := ⟨fun W g0 g1 g2 h0 h1 h2 hW => by
  refine (CK 1 (some ⟨g2, 0, none⟩) none 3 0 lvL [] W (DW h0 h1 h2) (by simp [lvL]) (Kd.C_nil _ _) (by simp) BX).mono ?_
  rintro e w' ⟨vp, rfl, q1, q2⟩
  rw [BW] at q2 ⊢
  obtain ⟨p, rfl, q3⟩ := q2
  exact ⟨p, _, rfl, ⟨q3⟩, ⟨hW.trans (q1.mono hW.size)⟩⟩⟩
 have HCode : aA (∀ W, Below w.heap.size w W → Calls Tryz.prog 11 #[.int .i64 0] W fun e w' => e = .returned (.int .i64 0) ∧ aA (Below w.heap.size w w') ∧ aA (Below W.heap.size W w')) := ⟨fun W hW => (eN.calls 0 0 W rfl).mono fun e w' ⟨q1, q2⟩ => ⟨q1, ⟨hW.trans (q2.below.mono hW.size)⟩, ⟨q2.below⟩⟩⟩
 have HLen : aA (∀ W N p, fP W N p 1 3 [] lvC → Below w.heap.size w W → Calls Tryz.prog 17 #[.pointer (some ⟨p, 0, none⟩)] W fun e w' => e = .returned (.int .i64 2) ∧ aA (Below w.heap.size w w') ∧ aA (fP w' N p 1 3 [] lvC)) := ⟨fun W N p h hW => (DM h).mono fun e w' ⟨q1, q2⟩ => ⟨q1, ⟨hW.trans (q2.mono hW.size)⟩, ⟨h.below q2⟩⟩⟩
 have HWt : aA (∀ W N p, fP W N p 1 3 [] lvC → Below w.heap.size w W → Calls Tryz.prog 13 #[.pointer (some ⟨p, 0, none⟩)] W fun e w' => e = .returned (.int .i64 3) ∧ aA (Below w.heap.size w w') ∧ aA (fP w' N p 1 3 [] lvC)) := ⟨fun W N p h hW => (qF h).mono fun e w' ⟨q1, q2⟩ => ⟨q1, ⟨hW.trans (q2.mono hW.size)⟩, ⟨h.below q2⟩⟩⟩
 have HKeys : aA (∀ W N p, fP W N p 1 3 [] lvC → Below w.heap.size w W → Calls Tryz.prog 22 #[.pointer (some ⟨p, 0, none⟩)] W fun e w' => ∃ A c, e = .returned (.slice A 1 c) ∧ aA (Below w.heap.size w w') ∧ aA (fP w' N p 1 3 [] lvC)) := ⟨fun W N p h hW => (BU h).mono fun e w' ⟨v0, q1, q2, q3⟩ => by
  obtain ⟨A, c, e1⟩ := Kd.S_slice q2
  rw [List.length_map, show ((1 : Int).toNat) = 1 from rfl, vH] at e1
  exact ⟨A, c, by rw [q1, e1], ⟨hW.trans (q3.mono hW.size)⟩, ⟨h.below q3⟩⟩⟩
 have HRests : aA (∀ W N p, fP W N p 1 3 [] lvC → Below w.heap.size w W → Calls Tryz.prog 25 #[.pointer (some ⟨p, 0, none⟩), .int .i64 0] W fun e w' => ∃ A c, e = .returned (.slice A 2 c) ∧ aA (Below w.heap.size w w') ∧ aA (fP w' N p 1 3 [] lvC)) := ⟨fun W N p h hW => by
  have h0 : 0 < (iR (1 : Int).toNat lvC).length := by rw [show ((1 : Int).toNat) = 1 from rfl, vH]; exact Nat.one_pos
  refine (yP h 0 h0).mono fun e w' ⟨v0, q1, q2, q3⟩ => ?_
  obtain ⟨A, c, e1⟩ := Kd.S_slice q2
  rw [xR h0] at e1
  exact ⟨A, c, by rw [q1, e1], ⟨hW.trans (q3.mono hW.size)⟩, ⟨h.below q3⟩⟩⟩
 have HUp : aA (∀ W N p, fP W N p 1 3 [] lvC → Below w.heap.size w W → Calls Tryz.prog 51 #[.pointer (some ⟨p, 0, none⟩)] W fun e w' => ∃ A c, e = .returned (.slice A 2 c) ∧ aA (Below w.heap.size w w') ∧ aA (2 ≤ c ∧ Kd.C k59 w' A 2 [⟨0, 2⟩, ⟨1, 0⟩])) := ⟨fun W N p h hW => (BV h DB).mono fun e w' ⟨v0, q1, q2, q3⟩ => by
  rw [DA] at q2
  obtain ⟨A, c, e1, l1, c1⟩ := Kd.R_reads q2
  exact ⟨A, c, by rw [q1, e1]; rfl, ⟨hW.trans (q3.mono hW.size)⟩, ⟨l1, c1⟩⟩⟩
 have HSame : aA (∀ W A c g, 2 ≤ c ∧ Kd.C k59 W A 2 [⟨0, 2⟩, ⟨1, 0⟩] → W.heap[g]? = some (.cells #[.int .i64 0, .int .i64 2, .int .i64 1, .int .i64 0] 59 (0, 0)) → Below w.heap.size w W → Calls Tryz.prog 19 #[.slice A 2 c, .slice (some ⟨g, 0, none⟩) 2 2] W fun e w' => e = .returned (.bool true) ∧ aA (Below w.heap.size w w')) := ⟨fun W A c g h hb hW => by
  obtain ⟨k, hk⟩ := AG
  refine (bB.calls k A c [⟨0, 2⟩, ⟨1, 0⟩] (some ⟨g, 0, none⟩) 2 [⟨0, 2⟩, ⟨1, 0⟩] true W h.2 h.1 ?_ (Nat.le_refl _) hk).mono fun e w' ⟨q1, q2⟩ => ⟨q1, ⟨hW.trans (q2.below.mono hW.size)⟩⟩
  exact nR (cs := [.int .i64 0, .int .i64 2, .int .i64 1, .int .i64 0]) hb (eT (c := [.int .i64 0, .int .i64 2]) (tM W ⟨0, 2⟩) rfl (eT (c := [.int .i64 1, .int .i64 0]) (tM W ⟨1, 0⟩) rfl (Reps.none _ _))) (by simp)⟩
 go_enter Tryz.func8, Tryz.ntmps8
 go_wp2_with (first
  | (go_at_call 9; refine (HNew.out _ w.heap.size (w.heap.size + 1) (w.heap.size + 2) (by repeat (first | exact fB _ _ _ (by simp) | refine aI ?_ _)) (by repeat (first | exact fB _ _ _ (by simp) | refine aI ?_ _)) (by repeat (first | exact fB _ _ _ (by simp) | refine aI ?_ _)) (by repeat (first | exact Below.refl _ _ | apply aC | apply pw_below_drewN | apply aD))).mono ?_; rintro e w1 ⟨p, N, rfl, HM1, HB1⟩)
  | (go_at_call 11; refine (HCode.out _ HB1.out).mono ?_; rintro e w2 ⟨rfl, HB2, HB2'⟩; have HM2 := aA.mk (HM1.out.below HB2'.out))
  | (go_at_call 17; refine (HLen.out _ _ _ HM2.out HB2.out).mono ?_; rintro e w3 ⟨rfl, HB3, HM3⟩)
  | (go_at_call 13; refine (HWt.out _ _ _ HM3.out HB3.out).mono ?_; rintro e w4 ⟨rfl, HB4, HM4⟩)
  | (go_at_call 22; refine (HKeys.out _ _ _ HM4.out HB4.out).mono ?_; rintro e w5 ⟨A5, c5, rfl, HB5, HM5⟩)
  | (go_at_call 25; refine (HRests.out _ _ _ HM5.out HB5.out).mono ?_; rintro e w6 ⟨A6, c6, rfl, HB6, HM6⟩)
  | (go_at_call 51; refine (HUp.out _ _ _ HM6.out HB6.out).mono ?_; rintro e w7 ⟨A7, c7, rfl, HB7, HC7⟩)
  | (go_at_call 19; refine (HSame.out _ _ _ _ ⟨HC7.out.1, Kd.C_alloc HC7.out.2 _⟩ (heap_alloc_new _ _) (by repeat (first | exact HB7.out | apply aC))).mono ?_; rintro e w8 ⟨rfl, HB8⟩))
 go_ret
 exact ⟨rfl, HB8.out⟩
end Go.Proofs.YtpflmgbpjhbmnaaGreat.B
end
section
namespace Go.Proofs.YtpflmgbpjhbmnaaGreat.Open
open Go.RowKit Go.Proofs.YtpflmgbpjhbmnaaGreatW.PrintWords
set_option linter.unusedVariables false
section
variable {H : Type} {enc : TypeId × Value → H} {P : Program} {w : World} {base : Nat} {spare : Nat → Bool} {held : Bool}
def Opens (enc : TypeId × Value → H) (P : Program) (w : World) (base : Nat) (spare : Nat → Bool) (held : Bool) (t : TypeId) {α : Type} (d : Kd α) (G : α → Prop) : Prop :=
 ∀ fuel cs x, DataW.trod enc P w base spare held fuel t cs = some x → ∃ y, d.K w y cs ∧ G y
theorem int {t : TypeId} {k : IntKind} (ht : P.underlying t = some (.int k)) : Opens enc P w base spare held t (Kd.int k) (fun n => (Lit.int k n).wf = true) := by
 intro fuel cs x h
 obtain ⟨n, hcs, hx, hw⟩ := DataW.trod_int ht h
 exact ⟨n, hcs, hw⟩
theorem str {t : TypeId} (ht : P.underlying t = some .string) : Opens enc P w base spare held t Kd.string (fun s => s.size ≤ 9223372036854775807) := by
 intro fuel cs x h
 obtain ⟨s, hcs, hx, hw⟩ := DataW.trod_string ht h
 exact ⟨s, hcs, hw⟩
theorem qH {α : Type} {n : Nat} {p : Nat → α → Prop} (h : ∀ i, i < n → ∃ x, p i x) : ∃ l : List α, l.length = n ∧ ∀ i x, l[i]? = some x → p i x := by
 induction n with
 | zero => exact ⟨[], rfl, fun i x hx => by simp at hx⟩
 | succ n ih =>
  obtain ⟨l, hl, hp⟩ := ih (fun i hi => h i (by omega))
  obtain ⟨x, hx⟩ := h n (by omega)
  refine ⟨l ++ [x], by simp [hl], fun i y hy => ?_⟩
  rcases Nat.lt_or_ge i l.length with hi | hi
  ·rw [List.getElem?_append_left hi] at hy; exact hp i y hy
  ·have := (List.getElem?_eq_some_iff.1 hy).1
   rw [List.length_append, List.length_singleton] at this
   have : i = n := by omega
   subst this
   have : x = y := by simpa [hl] using hy
   exact this ▸ hx
theorem slice {t e : TypeId} {α : Type} {d : Kd α} {G : α → Prop} (ht : P.underlying t = some (.slice e)) (hc : P.cellsOf e = d.sz) (ho : Opens enc P w base spare held e d G) :
  Opens enc P w base spare held t (Kd.slice e d) (fun l => l.length ≤ 9223372036854775807 ∧ ∀ y ∈ l, G y) := by
 intro fuel cs x h
 rcases Go.Deep.open_slice ht h with ⟨rfl, _⟩ | ⟨a, len, cap, m, n, D, Pl, rfl, hb, hl, hm, hmm, rfl, hx⟩
 ·exact ⟨[], ⟨none, 0, rfl, Nat.le_refl _, rfl, by simp, fun hn => by simp at hn⟩, by simp, fun y hy => by simp at hy⟩
 ·have hlm : len ≤ m := by rw [hmm]; split <;> omega
  have key : ∀ i, i < len → ∃ y, ∃ c, c.length = d.sz ∧ d.K w y c ∧ G y ∧ ∀ j u, c[j]? = some u → w.cell? (a.add (i * d.sz + j)) = some u := by
   intro i hi
   obtain ⟨cs', h1, h2⟩ := hx i (by omega)
   obtain ⟨y, hy, hg⟩ := ho _ _ _ h2
   rw [hc] at h1
   refine ⟨y, cs', d.K_len hy, hy, hg, fun j u hu => ?_⟩
   have h3 := World.cells?_some h1
   have hj : j < d.sz := by rw [← d.K_len hy]; exact (List.getElem?_eq_some_iff.1 hu).1
   rw [← Go.Deep.add_add]
   exact (h3.2.2 j hj).trans hu
  obtain ⟨l, hll, hp⟩ := qH key
  have hml : len ≤ 9223372036854775807 := by unfold maxLen at hm; omega
  refine ⟨l, ⟨some a, cap, by rw [hll], by omega, by omega, by rw [hll]; exact hml, fun _ => ⟨a, rfl, fun j p hj => ?_⟩⟩, by omega, fun y hy => ?_⟩
  ·obtain ⟨c, h1, h2, _, h3⟩ := hp j p hj
   exact ⟨c, h1, h2, h3⟩
  ·obtain ⟨i, hi⟩ := List.getElem?_of_mem hy
   obtain ⟨c, _, _, h3, _⟩ := hp i y hi
   exact h3
theorem field {t : TypeId} {fs : Array Field} {fuel : Nat} {cs : List Value} {x : DataW H × List MemPlace} (ht : P.underlying t = some (.struct fs)) (h : DataW.trod enc P w base spare held fuel t cs = some x)
  (i : Nat) (f : Field) (hf : fs[i]? = some f) {α : Type} {d : Kd α} {G : α → Prop} (hc : P.cellsOf f.type = d.sz) (ho : Opens enc P w base spare held f.type d G) :
  cs.length = P.cellsOf t ∧ ∃ y, d.K w y ((cs.drop f.offset).take d.sz) ∧ G y := by
 obtain ⟨xs, n, _, _, hl, hlen, hx⟩ := DataW.trod_struct ht h
 have h1 := hx i f hf
 have hi : i < xs.length := by rw [hlen]; exact (Array.getElem?_eq_some_iff.1 hf).1
 rw [List.getElem?_eq_getElem hi, hc] at h1
 obtain ⟨y, h2, h3⟩ := ho _ _ _ h1
 exact ⟨hl, y, h2, h3⟩
theorem two {cs : List Value} {α β : Type} {a : Kd α} {b : Kd β} {x : α} {y : β} (hl : cs.length = a.sz + b.sz) (hx : a.K w x ((cs.drop 0).take a.sz)) (hy : b.K w y ((cs.drop a.sz).take b.sz)) : (Kd.pair a b).K w (x, y) cs := by
 refine ⟨_, _, ?_, hx, hy⟩
 rw [List.drop_zero, show (cs.drop a.sz).take b.sz = cs.drop a.sz from List.take_of_length_le (by rw [List.length_drop]; omega), List.take_append_drop]
theorem three {cs : List Value} {α β γ : Type} {a : Kd α} {b : Kd β} {c : Kd γ} {x : α} {y : β} {z : γ} (hl : cs.length = a.sz + (b.sz + c.sz)) (hx : a.K w x ((cs.drop 0).take a.sz)) (hy : b.K w y ((cs.drop a.sz).take b.sz))
  (hz : c.K w z ((cs.drop (a.sz + b.sz)).take c.sz)) : (Kd.pair a (Kd.pair b c)).K w (x, y, z) cs := by
 refine two (b := Kd.pair b c) (by show cs.length = a.sz + (b.sz + c.sz); exact hl) hx ?_
 show (Kd.pair b c).K w (y, z) ((cs.drop a.sz).take (b.sz + c.sz))
 have ht : (cs.drop a.sz).take (b.sz + c.sz) = cs.drop a.sz := List.take_of_length_le (by rw [List.length_drop]; omega)
 rw [ht]
 refine two (by rw [List.length_drop]; omega) (by rw [List.drop_zero]; exact hy) ?_
 rw [List.drop_drop]; exact hz
end
end Go.Proofs.YtpflmgbpjhbmnaaGreat.Open
end
section
namespace Go.Proofs.YtpflmgbpjhbmnaaGreat.B
open Go.RowKit Go.Proofs.YtpflmgbpjhbmnaaGreatW.PrintWords Go.Proofs.YtpflmgbpjhbmnaaGreatW.PrintLast Go.Proofs.YtpflmgbpjhbmnaaGreatW.PrintMore
set_option linter.unusedVariables false
def GV (v : S85) : Prop := (Lit.int .i64 v.f0).wf = true ∧ (Lit.int .i64 v.f1).wf = true ∧ v.f2.size ≤ 9223372036854775807
def GL {α : Type} (G : α → Prop) (l : List α) : Prop := l.length ≤ 9223372036854775807 ∧ ∀ v ∈ l, G v
section
variable {H : Type} {enc : TypeId × Value → H} {w : World} {base : Nat} {spare : Nat → Bool} {held : Bool}
theorem AH : Open.Opens enc Tryz.prog w base spare held 85 k85 GV := by
 intro fuel cs x h
 obtain ⟨hl, y0, k0, g0⟩ := Open.field Tryz.underlying85 h 0 _ rfl (d := Kd.int .i64) (by kernel_rfl) (Open.int Tryz.underlying3)
 obtain ⟨_, y1, k1, g1⟩ := Open.field Tryz.underlying85 h 1 _ rfl (d := Kd.int .i64) (by kernel_rfl) (Open.int Tryz.underlying3)
 obtain ⟨_, y2, k2, g2⟩ := Open.field Tryz.underlying85 h 2 _ rfl (d := Kd.string) (by kernel_rfl) (Open.str Tryz.underlying9)
 have hl : cs.length = 3 := hl.trans (by kernel_rfl)
 exact ⟨⟨y0, y1, y2⟩, Open.three (a := Kd.int .i64) (b := Kd.int .i64) (c := Kd.string) hl k0 k1 k2, g0, g1, g2⟩
theorem AJ : Open.Opens enc Tryz.prog w base spare held 45 (Kd.slice 85 k85) (GL GV) := Open.slice Tryz.underlying45 (by kernel_rfl) AH
end
end Go.Proofs.YtpflmgbpjhbmnaaGreat.B
end
section
namespace Go.Proofs.YtpflmgbpjhbmnaaGreat.B
open Go.RowKit Go.Proofs.YtpflmgbpjhbmnaaGreatW.PrintWords Go.Proofs.YtpflmgbpjhbmnaaGreatW.PrintLast Go.Proofs.YtpflmgbpjhbmnaaGreatW.PrintMore
set_option linter.unusedVariables false
def GT (t : S59) : Prop := (Lit.int .i64 t.f0).wf = true ∧ (Lit.int .i64 t.f1).wf = true
def GU (u : S61) : Prop := GL GV u.f0 ∧ GT u.f1 ∧ (Lit.int .i64 u.f2).wf = true
section
variable {H : Type} {enc : TypeId × Value → H} {w : World} {base : Nat} {spare : Nat → Bool} {held : Bool}
theorem opens_T : Open.Opens enc Tryz.prog w base spare held 59 k59 GT := by
 intro fuel cs x h
 obtain ⟨hl, y0, k0, g0⟩ := Open.field Tryz.underlying59 h 0 _ rfl (d := Kd.int .i64) (by kernel_rfl) (Open.int Tryz.underlying3)
 obtain ⟨_, y1, k1, g1⟩ := Open.field Tryz.underlying59 h 1 _ rfl (d := Kd.int .i64) (by kernel_rfl) (Open.int Tryz.underlying3)
 have hl : cs.length = 2 := hl.trans (by kernel_rfl)
 exact ⟨⟨y0, y1⟩, Open.two (a := Kd.int .i64) (b := Kd.int .i64) hl k0 k1, g0, g1⟩
theorem opens_U : Open.Opens enc Tryz.prog w base spare held 61 k61 GU := by
 intro fuel cs x h
 obtain ⟨hl, y0, k0, g0⟩ := Open.field Tryz.underlying61 h 0 _ rfl (d := Kd.slice 85 k85) (by kernel_rfl) AJ
 obtain ⟨_, y1, k1, g1⟩ := Open.field Tryz.underlying61 h 1 _ rfl (d := k59) (by kernel_rfl) opens_T
 obtain ⟨_, y2, k2, g2⟩ := Open.field Tryz.underlying61 h 2 _ rfl (d := Kd.int .i64) (by kernel_rfl) (Open.int Tryz.underlying3)
 have hl : cs.length = 4 := hl.trans (by kernel_rfl)
 exact ⟨⟨y0, y1, y2⟩, Open.three (a := Kd.slice 85 k85) (b := k59) (c := Kd.int .i64) hl k0 k1 k2, g0, g1, g2⟩
end
end Go.Proofs.YtpflmgbpjhbmnaaGreat.B
end
section
namespace Go.Proofs.YtpflmgbpjhbmnaaGreat.B
open Go Go.RowKit Go.Proofs Go.Proofs.YtpflmgbpjhbmnaaGreatW.PrintWords Go.Proofs.YtpflmgbpjhbmnaaGreat.Stab
set_option linter.unusedVariables false
set_option linter.unusedSimpArgs false
def okI (n : Int) : Prop := -9223372036854775808 ≤ n ∧ n ≤ 9223372036854775807
instance (n : Int) : Decidable (okI n) := by unfold okI; infer_instance
theorem gP {α : Type} (p : α → Bool) : ∀ l : List α, (l.filter p).length + (l.filter fun x => !p x).length = l.length
 | [] => rfl
 | x :: r => by
  have h := gP p r
  cases hp : p x <;> simp [List.filter_cons, hp] <;> omega
theorem vI {α : Type} : ∀ l : List α, List.replicate l.length false = l.map fun _ => false
 | [] => rfl
 | x :: r => by simp [List.replicate_succ, vI r]
theorem CA (n : Int) (h : okI n) : dB.f n = some (n % 18446744073709551616 / 4294967296, n % 4294967296) := by
 unfold dB.f okI at *
 have e0 : IntKind.u64.wrap n = n % 18446744073709551616 := rfl
 have e1 : Int.tmod (n % 18446744073709551616) 4294967296 = n % 4294967296 := by
  rw [Int.tmod_eq_emod_of_nonneg (by omega)]; omega
 have e2 : wrap64 (n % 4294967296) = n % 4294967296 := by unfold wrap64; omega
 have e3 : IntKind.u64.wrap (n % 4294967296) = n % 4294967296 := by show n % 4294967296 % 18446744073709551616 = _; omega
 have e4 : IntKind.u64.wrap (n % 18446744073709551616 - n % 4294967296) = n % 18446744073709551616 - n % 4294967296 := by show (n % 18446744073709551616 - n % 4294967296) % 18446744073709551616 = _; omega
 have e5 : Int.tdiv (n % 18446744073709551616 - n % 4294967296) 4294967296 = n % 18446744073709551616 / 4294967296 := by
  rw [Int.tdiv_eq_ediv_of_nonneg (by omega)]; omega
 have e6 : IntKind.u64.wrap (n % 18446744073709551616 / 4294967296) = n % 18446744073709551616 / 4294967296 := by show n % 18446744073709551616 / 4294967296 % 18446744073709551616 = _; omega
 have e7 : wrap64 (n % 18446744073709551616 / 4294967296) = n % 18446744073709551616 / 4294967296 := by unfold wrap64; omega
 rw [e0, e1, e2, e3, e4, e5, e6, e7]
theorem rP (n : Int) (h : okI n) : cM.f n = some (n / 4294967296, n % 4294967296) := by
 unfold cM.f
 rw [CA n h]
 unfold okI at h
 simp only [Option.bind_some]
 by_cases h0 : n < 0
 ·rw [if_pos h0, show wrap64 (n % 18446744073709551616 / 4294967296 - 4294967296) = n / 4294967296 by unfold wrap64; omega]
 ·rw [if_neg h0, show n % 18446744073709551616 / 4294967296 = n / 4294967296 by omega]
theorem xS (a b : Int) (h1 : -4294967296 ≤ a ∧ a ≤ 4294967296) (h2 : 0 ≤ b ∧ b < 4294967296) : cR.f a b = some (if okI (a * 4294967296 + b) then (a * 4294967296 + b, 0) else (0, 60)) := by
 unfold cR.f
 by_cases c1 : a < -2147483648
 ·rw [if_pos c1, if_neg (by unfold okI; omega)]
 ·rw [if_neg c1]
  by_cases c2 : a > 2147483647
  ·rw [if_pos c2, if_neg (by unfold okI; omega)]
  ·rw [if_neg c2, if_pos (by unfold okI; omega), show wrap64 (wrap64 (a * 4294967296) + b) = a * 4294967296 + b by unfold wrap64; omega]
theorem AK (a b : Int) (ha : okI a) (hb : okI b) : dI.f a b = some (if okI (a + b) then (a + b, 0) else (0, 60)) := by
 unfold dI.f
 rw [rP a ha, rP b hb]
 simp only [Option.bind_some]
 have ha2 := ha
 have hb2 := hb
 unfold okI at ha2 hb2
 have e1 : wrap64 (a / 4294967296 + b / 4294967296) = a / 4294967296 + b / 4294967296 := by unfold wrap64; omega
 have e2 : wrap64 (a % 4294967296 + b % 4294967296) = a % 4294967296 + b % 4294967296 := by unfold wrap64; omega
 have e3 : Int.tdiv (a % 4294967296 + b % 4294967296) 4294967296 = (a % 4294967296 + b % 4294967296) / 4294967296 := Int.tdiv_eq_ediv_of_nonneg (by omega)
 have e4 : Int.tmod (a % 4294967296 + b % 4294967296) 4294967296 = (a % 4294967296 + b % 4294967296) % 4294967296 := Int.tmod_eq_emod_of_nonneg (by omega)
 rw [e1, e2, e3, e4, show wrap64 ((a % 4294967296 + b % 4294967296) / 4294967296) = (a % 4294967296 + b % 4294967296) / 4294967296 by unfold wrap64; omega,
  show wrap64 (a / 4294967296 + b / 4294967296 + (a % 4294967296 + b % 4294967296) / 4294967296) = a / 4294967296 + b / 4294967296 + (a % 4294967296 + b % 4294967296) / 4294967296 by unfold wrap64; omega,
  xS _ _ (by omega) (by omega), show (a / 4294967296 + b / 4294967296 + (a % 4294967296 + b % 4294967296) / 4294967296) * 4294967296 + (a % 4294967296 + b % 4294967296) % 4294967296 = a + b by omega]
 rfl
theorem vJ (a b : Int) (ha : okI a) (hb : okI b) : mJ a b = if okI (a + b) then (a + b, 0) else (0, 60) := by
 unfold mJ fC.f
 have ha2 := ha
 have hb2 := hb
 unfold okI at ha2 hb2
 rw [show wrap64 (9223372036854775807 - b) = if b < 0 then wrap64 (9223372036854775807 - b) else 9223372036854775807 - b by split <;> first | rfl | (unfold wrap64; omega)]
 rw [show wrap64 (-9223372036854775808 - b) = if 0 < b then wrap64 (-9223372036854775808 - b) else -9223372036854775808 - b by split <;> first | rfl | (unfold wrap64; omega)]
 by_cases h0 : b > 0
 ·rw [if_pos h0, if_neg (show ¬ b < 0 by omega)]
  by_cases h1 : a > 9223372036854775807 - b
  ·rw [if_pos h1, if_neg (by unfold okI; omega)]; rfl
  ·rw [if_neg h1, if_neg (show ¬ b < 0 by omega), if_pos (by unfold okI; omega), show wrap64 (a + b) = a + b by unfold wrap64; omega]; rfl
 ·rw [if_neg h0]
  by_cases h2 : b < 0
  ·rw [if_pos h2, if_neg (show ¬ 0 < b by omega)]
   by_cases h1 : a < -9223372036854775808 - b
   ·rw [if_pos h1, if_neg (by unfold okI; omega)]; rfl
   ·rw [if_neg h1, if_pos (by unfold okI; omega), show wrap64 (a + b) = a + b by unfold wrap64; omega]; rfl
  ·rw [if_neg h2, if_pos (by unfold okI; omega), show wrap64 (a + b) = a + b by unfold wrap64; omega]; rfl
theorem qI (a b : Int) (ha : okI a) (hb : okI b) : dI.f a b = some (mJ a b) := by rw [AK a b ha hb, vJ a b ha hb]
theorem AL (a b : Int) (ha : okI a) (hb : okI b) : okI (mJ a b).1 := by
 rw [vJ a b ha hb]
 split
 ·assumption
 ·unfold okI; omega
theorem vK (x y : Upd) (hx : x.f0.length ≤ 9223372036854775807) : Ev (fun n => cU.f n x.f0 x.f1.f0 x.f1.f1 x.f2 y.f0 y.f1.f0 y.f1.f1 y.f2) (cY x y) := by
 obtain ⟨K, h⟩ := qW x.f0 y.f0 hx
 refine ⟨K, fun n hn => ?_⟩
 have h := h n hn
 simp only [] at h
 simp only [cU.f]
 rw [h, pB]
 simp only [Option.bind_some]
 unfold cY
 split <;> rfl
def eqv (b x : Upd) : Bool := decide (cY x b = 0)
theorem xT (b : Upd) : eqv b b = true := by unfold eqv; rw [nF.refl]; rfl
theorem fQ {a b c : Upd} (h1 : cY a b = 0) (h2 : cY b c = 0) : cY a c = 0 := by
 have s1 := eV a b
 have s2 := eV b c
 have s3 := eV a c
 have t1 := kZ a b c (by omega) (by omega)
 have t2 := kZ c b a (by omega) (by omega)
 omega
theorem sQ (R : List Upd) (b : Upd) (hb : ∀ x ∈ R, cY b x ≤ 0) : eY R = R.filter (eqv b) ++ eY (R.filter fun x => !eqv b x) := by
 have hG : ∀ x ∈ R.filter (eqv b), cY x b = 0 := fun x hx => by
  have := (List.mem_filter.1 hx).2
  unfold eqv at this
  simpa using this
 have hS : ∀ x ∈ eY (R.filter fun x => !eqv b x), x ∈ R ∧ cY x b ≠ 0 := fun x hx => by
  have h1 := (sortS_mem _ x).1 hx
  obtain ⟨h2, h3⟩ := List.mem_filter.1 h1
  unfold eqv at h3
  exact ⟨h2, by simpa using h3⟩
 refine (kA nF ?_ ?_).symm
 ·rw [dD]
  refine ⟨?_, jB nF _, ?_⟩
  ·refine List.Pairwise.imp_of_mem (R := fun _ _ => True) ?_ (List.pairwise_of_forall fun _ _ => trivial)
   intro x y hx hy _
   have h1 := hG x hx
   have h2 := hG y hy
   have := eV y b
   have := fQ h1 (show cY b y = 0 by omega)
   omega
  ·intro x hx y hy
   have h1 := hG x hx
   have h2 := hb y (hS y hy).1
   exact kZ x b y (by omega) h2
 ·have hk : cL cY (R.filter fun x => !eqv b x) (eY (R.filter fun x => !eqv b x)) := gK nF _
  have hpart : (R.filter (eqv b)).length + (R.filter fun x => !eqv b x).length = R.length := gP (eqv b) R
  refine ⟨by have h9 : (eY (R.filter fun x => !eqv b x)).length = (R.filter fun x => !eqv b x).length := gB _; rw [List.length_append, h9]; exact hpart.symm, fun z => ?_⟩
  rw [List.filter_append, ← hk.2 z, List.filter_filter, List.filter_filter]
  by_cases hz : cY z b = 0
  ·have e1 : R.filter (fun a => decide (cY z a = 0) && eqv b a) = R.filter fun e => decide (cY z e = 0) := by
    apply List.filter_congr
    intro x hx
    unfold eqv
    by_cases h : cY z x = 0
    ·have s := eV z x
     have := fQ (show cY x z = 0 by omega) hz
     simp [h, this]
    ·simp [h]
   have e2 : R.filter (fun a => decide (cY z a = 0) && !eqv b a) = [] := by
    rw [List.filter_eq_nil_iff]
    intro x hx
    unfold eqv
    by_cases h : cY z x = 0
    ·have s := eV z x
     have := fQ (show cY x z = 0 by omega) hz
     simp [h, this]
    ·simp [h]
   rw [e1, e2, List.append_nil]
  ·have e1 : R.filter (fun a => decide (cY z a = 0) && eqv b a) = [] := by
    rw [List.filter_eq_nil_iff]
    intro x hx
    unfold eqv
    by_cases h : cY z x = 0
    ·have : cY x b ≠ 0 := fun e => hz (fQ h e)
     simp [h, this]
    ·simp [h]
   have e2 : R.filter (fun a => decide (cY z a = 0) && !eqv b a) = R.filter fun e => decide (cY z e = 0) := by
    apply List.filter_congr
    intro x hx
    unfold eqv
    by_cases h : cY z x = 0
    ·have : cY x b ≠ 0 := fun e => hz (fQ h e)
     simp [h, this]
    ·simp [h]
   rw [e1, e2, List.nil_append]
theorem AM (b : Upd) (G S : List Upd) (hG : ∀ x ∈ G, cY b x = 0) (hS : ∀ x ∈ S, cY b x ≠ 0) : grp cY b (G ++ S) = G.length + 1 := by
 unfold grp
 congr 1
 induction G with
 | nil =>
  cases S with
  | nil => rfl
  | cons x r => simp [hS x List.mem_cons_self]
 | cons x r ih =>
  simp only [List.cons_append, List.takeWhile_cons, hG x List.mem_cons_self, decide_true, if_true, List.length_cons]
  rw [ih (fun y hy => hG y (List.mem_cons_of_mem _ hy))]
theorem vL : ∀ (n : Nat) (z : List Upd) (k : Nat), z.length ≤ n → z.length ≤ k → lD k z = lD z.length z := by
 intro n
 induction n with
 | zero =>
  intro z k h _
  obtain rfl := List.eq_nil_of_length_eq_zero (show z.length = 0 by omega)
  cases k <;> rfl
 | succ n ih =>
  intro z k h hk
  cases z with
  | nil => cases k <;> rfl
  | cons x r =>
   rw [List.length_cons] at h hk
   obtain ⟨k, rfl⟩ : ∃ m, k = m + 1 := ⟨k - 1, by omega⟩
   have hg : 1 ≤ grp cY x r := by unfold grp; omega
   have h1 : ((x :: r).drop (grp cY x r)).length ≤ r.length := by rw [List.length_drop, List.length_cons]; omega
   show (x :: r).take (grp cY x r) :: lD k ((x :: r).drop (grp cY x r)) = (x :: r).take (grp cY x r) :: lD r.length ((x :: r).drop (grp cY x r))
   rw [ih _ k (by omega) (by omega), ih _ r.length (by omega) h1]
theorem vM (R : List Upd) (b : Upd) (G' : List Upd) (hb : ∀ x ∈ R, cY b x ≤ 0) (hG : R.filter (eqv b) = b :: G') :
  lD R.length (eY R) = R.filter (eqv b) :: lD (R.filter fun x => !eqv b x).length (eY (R.filter fun x => !eqv b x)) := by
 have hpart := gP (eqv b) R
 have hlen : (eY (R.filter fun x => !eqv b x)).length = (R.filter fun x => !eqv b x).length := gB _
 rw [sQ R b hb, hG, ← hpart, hG, List.length_cons]
 generalize hS : eY (R.filter fun x => !eqv b x) = S at hlen
 have hg := AM b G' S (fun x hx => by
  have h1 : x ∈ R.filter (eqv b) := by rw [hG]; exact List.mem_cons_of_mem _ hx
  have h2 := (List.mem_filter.1 h1).2
  unfold eqv at h2
  have := eV x b
  simp at h2
  omega) (fun x hx => by
  rw [← hS] at hx
  have h1 := (sortS_mem _ x).1 hx
  have h2 := (List.mem_filter.1 h1).2
  unfold eqv at h2
  have := eV x b
  simp at h2
  omega)
 rw [show G'.length + 1 + (R.filter fun x => !eqv b x).length = (G'.length + S.length) + 1 by omega]
 show ((b :: G') ++ S).take (grp cY b (G' ++ S)) :: lD (G'.length + S.length) (((b :: G') ++ S).drop (grp cY b (G' ++ S))) = _
 rw [hg]
 have e1 : ((b :: G') ++ S).take (G'.length + 1) = b :: G' := List.take_left' (by simp)
 have e2 : ((b :: G') ++ S).drop (G'.length + 1) = S := List.drop_left' (by simp)
 rw [e1, e2, vL S.length S _ (Nat.le_refl _) (by omega), hlen]
end Go.Proofs.YtpflmgbpjhbmnaaGreat.B
end
section
namespace Go.Proofs.YtpflmgbpjhbmnaaGreat.B
open Go Go.RowKit Go.Proofs Go.Proofs.YtpflmgbpjhbmnaaGreatW.PrintWords Go.Proofs.YtpflmgbpjhbmnaaGreat.Stab
set_option linter.unusedVariables false
set_option linter.unusedSimpArgs false
def fR : List Upd → List Upd → Bool
 | [], [] => true
 | x :: a, y :: b => decide (cY x y = 0) && (decide (x.f2 = y.f2) && fR a b)
 | _, _ => false
theorem jD : ∀ a b : List Upd, fR a b = true → a.length = b.length
 | [], [], _ => rfl
 | [], _ :: _, h => by simp [fR] at h
 | _ :: _, [], h => by simp [fR] at h
 | x :: a, y :: b, h => by
  simp only [fR, Bool.and_eq_true] at h
  simp [jD a b h.2.2]
theorem jE : ∀ (a b c d : List Upd), fR a b = true → fR c d = true → fR (a ++ c) (b ++ d) = true
 | [], [], c, d, _, h => h
 | [], _ :: _, _, _, h, _ => by simp [fR] at h
 | _ :: _, [], _, _, h, _ => by simp [fR] at h
 | x :: a, y :: b, c, d, h, h2 => by
  simp only [fR, Bool.and_eq_true] at h
  simp [fR, h.1, h.2.1, jE a b c d h.2.2 h2]
theorem vN (l : List Upd) (h : (dC l).2 ≠ 0) : (dC l).1 = [] := by
 unfold dC at h ⊢
 cases hc : eF [] (lD l.length (eY l)) with
 | none => rfl
 | some z => rw [hc] at h; exact absurd rfl h
def mU (key : Int) (l : List Upd) (since : List Tm) : List Upd × Int := ((jG key l since).1.getD [], (jG key l since).2)
theorem jF : ∀ (a c b d : Row), dV a c = 0 → dV (a ++ b) (c ++ d) = dV b d
 | [], [], b, d, _ => rfl
 | [], _ :: _, _, _, h => by simp [dV] at h
 | _ :: _, [], _, _, h => by simp [dV] at h
 | x :: a, y :: c, b, d, h => by
  have h0 : iY x y = 0 := by
   unfold dV at h
   by_cases e : iY x y = 0
   ·exact e
   ·rw [if_neg e] at h; exact h
  have h1 : dV a c = 0 := by
   unfold dV at h
   rw [if_pos h0] at h
   exact h
  show (if iY x y = 0 then dV (a ++ b) (c ++ d) else iY x y) = dV b d
  rw [if_pos h0, jF a c b d h1]
theorem dR (a b : Row) : dK a b = true ↔ dV a b = 0 := by unfold dK; simp
def NeG (g : Gr) : Prop := ∀ x ∈ g, x.2 ≠ []
theorem jV (n : Nat) (g : Gr) (u : Upd) (hg : NeG g) :
  (nY n g u = g ++ [(u.f0.take n, [(u.f0.drop n, [(u.f1, u.f2)])])] ∧ (∀ x, g.getLast? = some x → dK x.1 (u.f0.take n) = false)) ∨
  (∃ g' k0 rs y, g = g' ++ [(k0, rs ++ [y])] ∧ dK k0 (u.f0.take n) = true ∧
   ((dK y.1 (u.f0.drop n) = false ∧ nY n g u = g' ++ [(k0, rs ++ [y] ++ [(u.f0.drop n, [(u.f1, u.f2)])])]) ∨ (dK y.1 (u.f0.drop n) = true ∧ nY n g u = g' ++ [(k0, rs ++ [(y.1, y.2 ++ [(u.f1, u.f2)])])]))) := by
 by_cases h0 : g = []
 ·subst h0
  exact .inl ⟨rfl, fun x hx => by simp at hx⟩
 ·obtain ⟨g', ⟨k0, rs⟩, rfl⟩ := iP g h0
  cases e1 : dK k0 (u.f0.take n) with
  | false =>
   refine .inl ⟨rG n g' (k0, rs) u e1, fun x hx => ?_⟩
   simp at hx
   subst hx
   exact e1
  | true =>
   obtain ⟨rs', y, rfl⟩ := iP rs (hg (k0, rs) (by simp))
   refine .inr ⟨g', k0, rs', y, rfl, e1, ?_⟩
   cases e2 : dK y.1 (u.f0.drop n) with
   | false => exact .inl ⟨rfl, oV n g' k0 rs' y u e1 e2⟩
   | true => exact .inr ⟨rfl, oW n g' k0 rs' y u e1 e2⟩
theorem vO (n : Nat) (g : Gr) (u : Upd) (hg : NeG g) : NeG (nY n g u) := by
 rcases jV n g u hg with ⟨e, _⟩ | ⟨g', k0, rs, y, rfl, _, ⟨_, e⟩ | ⟨_, e⟩⟩
 ·rw [e]
  intro x hx
  rcases List.mem_append.1 hx with hx | hx
  ·exact hg x hx
  ·rw [List.mem_singleton.1 hx]; simp
 ·rw [e]
  intro x hx
  rcases List.mem_append.1 hx with hx | hx
  ·exact hg x (List.mem_append_left _ hx)
  ·rw [List.mem_singleton.1 hx]; simp
 ·rw [e]
  intro x hx
  rcases List.mem_append.1 hx with hx | hx
  ·exact hg x (List.mem_append_left _ hx)
  ·rw [List.mem_singleton.1 hx]; simp
theorem gE (v u : Upd) (h : dV v.f0 u.f0 = 0) (h1 : v.f1 = u.f1) (h2 : v.f2 = u.f2) : fR [v] [u] = true := by
 have e : cY v u = 0 := by unfold cY; rw [if_pos h, h1, iZ]
 simp [fR, e, h2]
theorem xU (n : Nat) (g : Gr) (u : Upd) (hg : NeG g) : ∃ v, AA (nY n g u) = AA g ++ [v] ∧ fR [v] [u] = true := by
 unfold AA
 rcases jV n g u hg with ⟨e, _⟩ | ⟨g', k0, rs, y, rfl, h0, ⟨h1, e⟩ | ⟨h1, e⟩⟩
 ·refine ⟨⟨u.f0.take n ++ u.f0.drop n, u.f1, u.f2⟩, by rw [e]; simp [fW, mP], gE _ _ ?_ rfl rfl⟩
  rw [List.take_append_drop]; exact fL _
 ·refine ⟨⟨k0 ++ u.f0.drop n, u.f1, u.f2⟩, by rw [e]; simp [fW, mP], gE _ _ ?_ rfl rfl⟩
  have e2 : u.f0 = u.f0.take n ++ u.f0.drop n := (List.take_append_drop n u.f0).symm
  show dV (k0 ++ u.f0.drop n) u.f0 = 0
  rw [show dV (k0 ++ u.f0.drop n) u.f0 = dV (k0 ++ u.f0.drop n) (u.f0.take n ++ u.f0.drop n) by rw [← e2], jF _ _ _ _ ((dR _ _).1 h0)]
  exact fL _
 ·refine ⟨⟨k0 ++ y.1, u.f1, u.f2⟩, by rw [e]; simp [fW, mP], gE _ _ ?_ rfl rfl⟩
  have e2 : u.f0 = u.f0.take n ++ u.f0.drop n := (List.take_append_drop n u.f0).symm
  show dV (k0 ++ y.1) u.f0 = 0
  rw [show dV (k0 ++ y.1) u.f0 = dV (k0 ++ y.1) (u.f0.take n ++ u.f0.drop n) by rw [← e2], jF _ _ _ _ ((dR _ _).1 h0)]
  exact (dR _ _).1 h1
theorem vP (n : Nat) (l : List Upd) : NeG (iR n l) ∧ fR (AA (iR n l)) l = true := by
 have key : ∀ (r : List Upd), NeG (iR n r.reverse) ∧ fR (AA (iR n r.reverse)) r.reverse = true := by
  intro r
  induction r with
  | nil => exact ⟨fun x hx => by simp [iR] at hx, rfl⟩
  | cons u r ih =>
   rw [List.reverse_cons, oU]
   refine ⟨vO n _ u ih.1, ?_⟩
   obtain ⟨v, e, h⟩ := xU n (iR n r.reverse) u ih.1
   rw [e]
   exact jE _ _ _ _ ih.2 h
 have := key l.reverse
 rwa [List.reverse_reverse] at this
end Go.Proofs.YtpflmgbpjhbmnaaGreat.B
end
section
namespace Go.Proofs.YtpflmgbpjhbmnaaGreat.B
open Go Go.RowKit Go.Proofs Go.Proofs.YtpflmgbpjhbmnaaGreatW.PrintWords Go.Proofs.YtpflmgbpjhbmnaaGreat.Stab
set_option linter.unusedVariables false
set_option linter.unusedSimpArgs false
def lX (out : List Row) (r : Row) : Bool := match out.getLast? with | none => false | some x => dK x r
def iA (out : List Row) (r : Row) : List Row := if lX out r = true then out else out ++ [r]
def fF (n : Nat) (l : List Upd) : List Row := l.foldl (fun out u => iA out (u.f0.take n)) []
def eL (n : Nat) (l : List Upd) : List Row := l.foldl (fun out u => iA out (u.f0.drop n)) []
def fJ (n : Nat) (l : List Upd) (k : Row) : List Upd := l.filter fun u => dK (u.f0.take n) k
theorem gF (n : Nat) (l : List Upd) (u : Upd) : fF n (l ++ [u]) = iA (fF n l) (u.f0.take n) := by simp [fF]
theorem iQ (n : Nat) (l : List Upd) (u : Upd) : eL n (l ++ [u]) = iA (eL n l) (u.f0.drop n) := by simp [eL]
theorem iB (n : Nat) (l : List Upd) (u : Upd) (k : Row) : fJ n (l ++ [u]) k = fJ n l k ++ (if dK (u.f0.take n) k = true then [u] else []) := by
 unfold fJ
 rw [List.filter_append, List.filter_cons]
 rfl
theorem jW (out : List Row) (x r : Row) : iA (out ++ [x]) r = if dK x r = true then out ++ [x] else out ++ [x] ++ [r] := by
 unfold iA lX
 simp
theorem xV (out : List Row) (r : Row) : iA out r ≠ [] := by
 unfold iA lX
 cases h : out.getLast? with
 | none => simp
 | some x =>
  have h2 : out ≠ [] := fun e => by rw [e] at h; simp at h
  dsimp only
  split
  ·exact h2
  ·simp
theorem nS (a b : Row) : dK a b = dK b a := by
 rw [Bool.eq_iff_iff, dR, dR]
 have := fH a b
 omega
theorem pD : ∀ (n : Nat) (a b : Row), n ≤ a.length → n ≤ b.length → dV a b ≤ 0 → dV (a.take n) (b.take n) ≤ 0
 | 0, a, b, _, _, _ => by simp [dV]
 | n + 1, [], b, h, _, _ => by simp at h
 | n + 1, _ :: _, [], _, h, _ => by simp at h
 | n + 1, x :: a, y :: b, h1, h2, h => by
  simp only [List.take_succ_cons]
  unfold dV at h ⊢
  by_cases e : iY x y = 0
  ·rw [if_pos e] at h ⊢
   exact pD n a b (by simpa using h1) (by simpa using h2) h
  ·rw [if_neg e] at h ⊢
   exact h
structure GI (n : Nat) (l : List Upd) (g : Gr) : Prop where
 ne : NeG g
 keys : g.map (·.1) = fF n l
 lt : g.Pairwise fun a b => dV a.1 b.1 < 0
 up : ∀ x, g.getLast? = some x → ∀ u ∈ l, dV (u.f0.take n) x.1 ≤ 0
 mem : ∀ x ∈ g, ∃ v ∈ l, v.f0.take n = x.1
 run : ∀ x ∈ g, fR (fW x) (fJ n l x.1) = true ∧ eL n (fJ n l x.1) = x.2.map (·.1)
theorem GI.none_ (n : Nat) : GI n [] [] := ⟨fun x h => by simp at h, rfl, List.Pairwise.nil, fun x h => by simp at h, fun x h => by simp at h, fun x h => by simp at h⟩
theorem GI.add {n : Nat} {l : List Upd} {g : Gr} (h : GI n l g) (u : Upd) (hle : ∀ v ∈ l, dV (v.f0.take n) (u.f0.take n) ≤ 0) : GI n (l ++ [u]) (nY n g u) := by
 have hne := vO n g u h.ne
 rcases jV n g u h.ne with ⟨e, hnew⟩ | ⟨g', k0, rs, y, rfl, h0, h1⟩
 ·-- a new key
  have hlast : ∀ x, g.getLast? = some x → dV x.1 (u.f0.take n) < 0 := fun x hx => by
   have hxg : x ∈ g := List.mem_of_getLast? hx
   obtain ⟨v, hv, ev⟩ := h.mem x hxg
   have h2 := hle v hv
   rw [ev] at h2
   have h3 := hnew x hx
   have h4 : ¬ dV x.1 (u.f0.take n) = 0 := fun e => by rw [(dR _ _).2 e] at h3; cases h3
   omega
  have hall : ∀ x ∈ g, dV x.1 (u.f0.take n) < 0 := fun x hx => by
   have hg0 : g ≠ [] := fun e => by rw [e] at hx; simp at hx
   obtain ⟨g', z, rfl⟩ := iP g hg0
   have hz := hlast z (by simp)
   rcases List.mem_append.1 hx with hx | hx
   ·have h5 := (List.pairwise_append.1 h.lt).2.2 x hx z (by simp)
    exact gR h5 (by omega)
   ·rw [List.mem_singleton.1 hx]; exact hz
  have hkeys : fF n (l ++ [u]) = fF n l ++ [u.f0.take n] := by
   rw [gF, ← h.keys]
   unfold iA lX
   rw [List.getLast?_map]
   cases hgl : g.getLast? with
   | none => simp
   | some x => simp [hnew x hgl]
  have hold : ∀ v ∈ l, dV (v.f0.take n) (u.f0.take n) < 0 := fun v hv => by
   cases hgl : g.getLast? with
   | none =>
    have hg0 : g = [] := by simpa using hgl
    have h6 := h.keys
    rw [hg0] at h6
    exfalso
    have h7 : fF n l ≠ [] := by
     have hl0 : l ≠ [] := fun e => by rw [e] at hv; simp at hv
     obtain ⟨l', z, rfl⟩ := iP l hl0
     rw [gF]
     exact xV _ _
    exact h7 h6.symm
   | some x => exact kC (h.up x hgl v hv) (hlast x hgl)
  rw [e] at hne ⊢
  refine ⟨hne, by rw [hkeys, ← h.keys]; simp, ?_, ?_, ?_, ?_⟩
  ·rw [List.pairwise_append]
   refine ⟨h.lt, List.pairwise_singleton _ _, fun x hx z hz => ?_⟩
   rw [List.mem_singleton.1 hz]
   exact hall x hx
  ·intro x hx v hv
   simp at hx
   subst hx
   rcases List.mem_append.1 hv with hv | hv
   ·exact hle v hv
   ·rw [List.mem_singleton.1 hv, fL]; exact Int.le_refl _
  ·intro x hx
   rcases List.mem_append.1 hx with hx | hx
   ·obtain ⟨v, hv, ev⟩ := h.mem x hx
    exact ⟨v, List.mem_append_left _ hv, ev⟩
   ·rw [List.mem_singleton.1 hx]; exact ⟨u, by simp, rfl⟩
  ·intro x hx
   rcases List.mem_append.1 hx with hx | hx
   ·have h5 := hall x hx
    have h6 : dK (u.f0.take n) x.1 = false := by
     rw [nS]
     cases hs : dK x.1 (u.f0.take n) with
     | false => rfl
     | true => have := (dR _ _).1 hs; omega
    rw [iB, h6]
    simpa using h.run x hx
   ·rw [List.mem_singleton.1 hx]
    have h6 : fJ n l (u.f0.take n) = [] := by
     unfold fJ
     rw [List.filter_eq_nil_iff]
     intro v hv hs
     have := hold v hv
     have := (dR _ _).1 hs
     omega
    rw [iB, h6, (dR _ _).2 (fL _), if_pos rfl, List.nil_append]
    refine ⟨?_, by simp [eL, iA, lX]⟩
    simp only [fW, mP, List.flatMap_cons, List.flatMap_nil, List.map_cons, List.map_nil, List.append_nil]
    exact gE _ _ (by rw [List.take_append_drop]; exact fL _) rfl rfl
 ·-- the last key again
  have h00 := (dR _ _).1 h0
  have hlast := h.up (k0, rs ++ [y]) (by simp)
  have hk : dK (u.f0.take n) k0 = true := by rw [nS]; exact h0
  have hother : ∀ x ∈ g', dK (u.f0.take n) x.1 = false := fun x hx => by
   have h5 : dV x.1 k0 < 0 := (List.pairwise_append.1 h.lt).2.2 x hx (k0, rs ++ [y]) (by simp)
   have h6 : dV x.1 (u.f0.take n) < 0 := gR h5 (by omega)
   rw [nS]
   cases hs : dK x.1 (u.f0.take n) with
   | false => rfl
   | true => have := (dR _ _).1 hs; omega
  have hkeys : fF n (l ++ [u]) = fF n l := by
   rw [gF, ← h.keys, List.map_append]
   rw [show List.map (fun x : List S85 × List Rst => x.1) [(k0, rs ++ [y])] = [k0] from rfl, jW, if_pos h0]
  obtain ⟨hr1, hr2⟩ := h.run (k0, rs ++ [y]) (by simp)
  have hcom : ∀ rs', (fW (k0, rs') = fW (k0, rs ++ [y]) ++ [⟨k0 ++ u.f0.drop n, u.f1, u.f2⟩] ∨ (dK y.1 (u.f0.drop n) = true ∧ fW (k0, rs') = fW (k0, rs ++ [y]) ++ [⟨k0 ++ y.1, u.f1, u.f2⟩])) → rs' ≠ [] → iA ((rs ++ [y]).map (·.1)) (u.f0.drop n) = rs'.map (·.1) → nY n (g' ++ [(k0, rs ++ [y])]) u = g' ++ [(k0, rs')] → GI n (l ++ [u]) (g' ++ [(k0, rs')]) := by
   intro rs' hrun hrne hrst hadd
   refine ⟨by rw [← hadd]; exact hne, ?_, ?_, ?_, ?_, ?_⟩
   ·rw [hkeys, ← h.keys]; simp
   ·have h5 := List.pairwise_append.1 h.lt
    rw [List.pairwise_append]
    refine ⟨h5.1, List.pairwise_singleton _ _, fun x hx z hz => ?_⟩
    rw [List.mem_singleton.1 hz]
    exact h5.2.2 x hx (k0, rs ++ [y]) (by simp)
   ·intro x hx v hv
    simp at hx
    subst hx
    rcases List.mem_append.1 hv with hv | hv
    ·exact hlast v hv
    ·rw [List.mem_singleton.1 hv]
     have := fH k0 (u.f0.take n)
     show dV (u.f0.take n) k0 ≤ 0
     omega
   ·intro x hx
    rcases List.mem_append.1 hx with hx | hx
    ·obtain ⟨v, hv, ev⟩ := h.mem x (List.mem_append_left _ hx)
     exact ⟨v, List.mem_append_left _ hv, ev⟩
    ·rw [List.mem_singleton.1 hx]
     obtain ⟨v, hv, ev⟩ := h.mem (k0, rs ++ [y]) (by simp)
     exact ⟨v, List.mem_append_left _ hv, ev⟩
   ·intro x hx
    rcases List.mem_append.1 hx with hx | hx
    ·rw [iB, hother x hx]
     simpa using h.run x (List.mem_append_left _ hx)
    ·rw [List.mem_singleton.1 hx]
     dsimp only
     rw [iB, hk, if_pos rfl, iQ, hr2, hrst]
     refine ⟨?_, rfl⟩
     have e2 : u.f0 = u.f0.take n ++ u.f0.drop n := (List.take_append_drop n u.f0).symm
     rcases hrun with hrun | ⟨hys, hrun⟩
     ·rw [hrun]
      refine jE _ _ _ _ hr1 (gE _ _ ?_ rfl rfl)
      show dV (k0 ++ u.f0.drop n) u.f0 = 0
      rw [show dV (k0 ++ u.f0.drop n) u.f0 = dV (k0 ++ u.f0.drop n) (u.f0.take n ++ u.f0.drop n) by rw [← e2], jF _ _ _ _ h00]
      exact fL _
     ·rw [hrun]
      refine jE _ _ _ _ hr1 (gE _ _ ?_ rfl rfl)
      show dV (k0 ++ y.1) u.f0 = 0
      rw [show dV (k0 ++ y.1) u.f0 = dV (k0 ++ y.1) (u.f0.take n ++ u.f0.drop n) by rw [← e2], jF _ _ _ _ h00]
      exact (dR _ _).1 hys
  have hmp : (rs ++ [y]).map (·.1) = rs.map (·.1) ++ [y.1] := by simp
  rcases h1 with ⟨hy, e⟩ | ⟨hy, e⟩
  ·rw [e]
   refine hcom _ (.inl ?_) (by simp) ?_ e
   ·simp [fW, mP]
   ·rw [hmp, jW, if_neg (by rw [hy]; decide)]; simp
  ·rw [e]
   refine hcom _ (.inr ⟨hy, ?_⟩) (by simp) ?_ e
   ·simp [fW, mP]
   ·rw [hmp, jW, if_pos hy]; simp
theorem AN (n : Nat) (l : List Upd) (hs : l.Pairwise fun x y => dV x.f0 y.f0 ≤ 0) (hn : ∀ u ∈ l, n ≤ u.f0.length) : GI n l (iR n l) := by
 have key : ∀ (m : Nat), m ≤ l.length → GI n (l.take m) (iR n (l.take m)) := by
  intro m
  induction m with
  | zero => intro _; exact GI.none_ n
  | succ m ih =>
   intro hm
   have hlt : m < l.length := by omega
   have e2 : l.take (m + 1) = l.take m ++ [l[m]] := by rw [List.take_add_one, List.getElem?_eq_getElem hlt]; rfl
   rw [e2, oU]
   refine (ih (by omega)).add l[m] (fun v hv => pD n _ _ (hn v (List.mem_of_mem_take hv)) (hn _ (List.getElem_mem hlt)) ?_)
   obtain ⟨j, hj, rfl⟩ := List.mem_iff_getElem.1 hv
   rw [List.length_take] at hj
   rw [List.getElem_take]
   exact List.pairwise_iff_getElem.1 hs j m (by omega) hlt (by omega)
 have := key l.length (Nat.le_refl _)
 rwa [List.take_length] at this
theorem vQ : ∀ (n : Nat) (z : List Upd) (k : Nat), z.length ≤ n → z.length ≤ k → (lD k z).flatten = z := by
 intro n
 induction n with
 | zero =>
  intro z k h _
  obtain rfl := List.eq_nil_of_length_eq_zero (show z.length = 0 by omega)
  cases k <;> rfl
 | succ n ih =>
  intro z k h hk
  cases z with
  | nil => cases k <;> rfl
  | cons x r =>
   rw [List.length_cons] at h hk
   obtain ⟨k, rfl⟩ : ∃ m, k = m + 1 := ⟨k - 1, by omega⟩
   have hg : 1 ≤ grp cY x r := by unfold grp; omega
   have h1 : ((x :: r).drop (grp cY x r)).length ≤ r.length := by rw [List.length_drop, List.length_cons]; omega
   show ((x :: r).take (grp cY x r) :: lD k ((x :: r).drop (grp cY x r))).flatten = _
   rw [List.flatten_cons, ih _ k (by omega) (by omega), List.take_append_drop]
theorem qJ {x x' y : Upd} (h0 : x.f0 = x'.f0) (h1 : x.f1 = x'.f1) : cY x y = cY x' y := by unfold cY; rw [h0, h1]
theorem pE {x y y' : Upd} (h0 : y.f0 = y'.f0) (h1 : y.f1 = y'.f1) : cY x y = cY x y' := by unfold cY; rw [h0, h1]
theorem vR : ∀ (ls : List (List Upd)) (out o : List Upd), eF out ls = some o → (∀ l ∈ ls, l ≠ []) → Srt cY out → Srt cY ls.flatten → (∀ x ∈ out, ∀ y ∈ ls.flatten, cY x y ≤ 0) → Srt cY o := by
 intro ls
 induction ls with
 | nil => intro out o h _ hs _ _; cases h; exact hs
 | cons l r ih =>
  intro out o h hne hs hf hx
  simp only [eF] at h
  cases ho : eS l with
  | none => rw [ho] at h; cases h
  | some x =>
   rw [ho] at h
   rw [List.flatten_cons] at hf hx
   have hf2 := dD.1 hf
   have hhead : ∀ u ∈ x, ∃ v ∈ l, u.f0 = v.f0 ∧ u.f1 = v.f1 := fun u hu => mO (hne l List.mem_cons_self) ho u hu
   have hxs : Srt cY x := by
    have := mK l x ho
    cases x with
    | nil => exact jM
    | cons a t =>
     simp at this
     rw [this]
     exact pR a
   refine ih (out ++ x) o h (fun q hq => hne q (List.mem_cons_of_mem _ hq)) ?_ hf2.2.1 ?_
   ·rw [dD]
    refine ⟨hs, hxs, fun a ha b hb => ?_⟩
    obtain ⟨v, hv, e0, e1⟩ := hhead b hb
    rw [pE e0 e1]
    exact hx a ha v (List.mem_append_left _ hv)
   ·intro a ha b hb
    rcases List.mem_append.1 ha with ha | ha
    ·exact hx a ha b (List.mem_append_right _ hb)
    ·obtain ⟨v, hv, e0, e1⟩ := hhead a ha
     rw [qJ e0 e1]
     exact hf2.2.2 v hv b hb
theorem vS (l : List Upd) : (dC l).1.Pairwise fun x y => dV x.f0 y.f0 ≤ 0 := by
 have key : Srt cY (dC l).1 := by
  unfold dC
  cases h : eF [] (lD l.length (eY l)) with
  | none => exact jM
  | some z =>
   have hfl := vQ (eY l).length (eY l) l.length (Nat.le_refl _) (by rw [gB]; exact Nat.le_refl _)
   exact vR _ [] z h (fun q hq => (nH _ _ q hq).1) jM (by rw [hfl]; exact jB nF _) (fun x hx => by simp at hx)
 refine List.Pairwise.imp ?_ key
 intro x y h
 unfold cY at h
 by_cases e : dV x.f0 y.f0 = 0
 ·omega
 ·rw [if_neg e] at h; exact h
end Go.Proofs.YtpflmgbpjhbmnaaGreat.B
end
section
namespace Go.Proofs.YtpflmgbpjhbmnaaGreat.B
open Go Go.RowKit Go.Proofs Go.Proofs.YtpflmgbpjhbmnaaGreatW.PrintWords
set_option linter.unusedVariables false
set_option linter.unusedSimpArgs false
theorem nT (a b : Row) (hm : a.length ≤ 9223372036854775807) : Ev (fun n => bM.f n a b) (dK a b) := by
 obtain ⟨K, h⟩ := qW a b hm
 refine ⟨K, fun n hn => ?_⟩
 have h := h n hn
 simp only [] at h
 simp only [bM.f]
 rw [h]
 simp only [Option.bind_some]
 unfold dK
 by_cases e : dV a b = 0
 ·simp [e]
 ·simp [e]
theorem vT (out : List Row) (r : Row) (hl : out.length ≤ 1099511627776) (hr : ∀ x ∈ out, x.length ≤ 9223372036854775807) : Ev (fun n => bR.f n out r) (lX out r) := by
 by_cases h0 : out = []
 ·subst h0
  exact ⟨0, fun n _ => by simp [bR.f, lX]⟩
 ·obtain ⟨o, x, rfl⟩ := iP out h0
  obtain ⟨K, h⟩ := nT x r (hr x (by simp))
  refine ⟨K, fun n hn => ?_⟩
  have h := h n hn
  simp only [] at h
  rw [List.length_append, List.length_singleton] at hl
  have hw : wrap64 (((o ++ [x]).length : Int) - 1) = (o.length : Int) := by rw [List.length_append, List.length_singleton]; unfold wrap64; omega
  have hrd : dH (o ++ [x]) (o.length : Int) = x := by simp [dH, List.getD]
  simp only [bR.f]
  rw [hw, hrd, h, if_pos (by rw [List.length_append, List.length_singleton]; omega), if_pos (by omega), if_pos (by rw [List.length_append, List.length_singleton]; omega)]
  simp [lX]
theorem pF (out : List Row) (r : Row) : (iA out r).length ≤ out.length + 1 := by
 unfold iA
 split <;> simp
theorem pG (out : List Row) (r x : Row) (h : x ∈ iA out r) : x ∈ out ∨ x = r := by
 unfold iA at h
 split at h
 ·exact .inl h
 ·simpa using h
theorem xW (n : Nat) (l : List Upd) (B : Nat) (hr : ∀ u ∈ l, u.f0.length ≤ B) : (fF n l).length ≤ l.length ∧ ∀ x ∈ fF n l, x.length ≤ B := by
 have key : ∀ r : List Upd, (∀ u ∈ r, u.f0.length ≤ B) → (fF n r.reverse).length ≤ r.length ∧ ∀ x ∈ fF n r.reverse, x.length ≤ B := by
  intro r
  induction r with
  | nil => intro _; exact ⟨Nat.le_refl _, fun x hx => by simp [fF] at hx⟩
  | cons u r ih =>
   intro hr
   obtain ⟨h1, h2⟩ := ih (fun v hv => hr v (List.mem_cons_of_mem _ hv))
   rw [List.reverse_cons, gF]
   have h3 := pF (fF n r.reverse) (u.f0.take n)
   refine ⟨by rw [List.length_cons]; omega, fun x hx => ?_⟩
   rcases pG _ _ _ hx with hx | hx
   ·exact h2 x hx
   ·rw [hx, List.length_take]; have := hr u List.mem_cons_self; omega
 have := key l.reverse (fun u hu => hr u (by simpa using hu))
 rw [List.reverse_reverse, List.length_reverse] at this
 exact this
theorem pH (n : Nat) (l : List Upd) (B : Nat) (hr : ∀ u ∈ l, u.f0.length ≤ B) : (eL n l).length ≤ l.length ∧ ∀ x ∈ eL n l, x.length ≤ B := by
 have key : ∀ r : List Upd, (∀ u ∈ r, u.f0.length ≤ B) → (eL n r.reverse).length ≤ r.length ∧ ∀ x ∈ eL n r.reverse, x.length ≤ B := by
  intro r
  induction r with
  | nil => intro _; exact ⟨Nat.le_refl _, fun x hx => by simp [eL] at hx⟩
  | cons u r ih =>
   intro hr
   obtain ⟨h1, h2⟩ := ih (fun v hv => hr v (List.mem_cons_of_mem _ hv))
   rw [List.reverse_cons, iQ]
   have h3 := pF (eL n r.reverse) (u.f0.drop n)
   refine ⟨by rw [List.length_cons]; omega, fun x hx => ?_⟩
   rcases pG _ _ _ hx with hx | hx
   ·exact h2 x hx
   ·rw [hx, List.length_drop]; have := hr u List.mem_cons_self; omega
 have := key l.reverse (fun u hu => hr u (by simpa using hu))
 rw [List.reverse_reverse, List.length_reverse] at this
 exact this
theorem vU (key : Int) (n0 : Nat) (hk : key = n0) (l : List Upd) (hl : l.length ≤ 1099511627776) (hr : ∀ u ∈ l, u.f0.length ≤ 1099511627776) (hn : ∀ u ∈ l, n0 ≤ u.f0.length) : ∀ d i : Nat, l.length - i = d → i ≤ l.length → Ev (fun n => bF.l0 n key l (fF n0 (l.take i)) i) (fF n0 l) := by
 intro d
 induction d with
 | zero =>
  intro i hd hi
  refine ⟨1, fun n hn => ?_⟩
  obtain ⟨n, rfl⟩ : ∃ m, n = m + 1 := ⟨n - 1, by omega⟩
  simp only [bF.l0]
  rw [if_neg (by omega), List.take_of_length_le (by omega)]
 | succ d ih =>
  intro i hd hi
  have hlt : i < l.length := by omega
  have htk : l.take (i + 1) = l.take i ++ [l[i]] := by rw [List.take_add_one, List.getElem?_eq_getElem hlt]; rfl
  obtain ⟨h1, h2⟩ := xW n0 (l.take i) 1099511627776 (fun u hu => hr u (List.mem_of_mem_take hu))
  rw [List.length_take] at h1
  obtain ⟨K, h⟩ := ih (i + 1) (by omega) (by omega)
  obtain ⟨K1, ho⟩ := vT (fF n0 (l.take i)) (l[i].f0.take n0) (by omega) (fun x hx => by have := h2 x hx; omega)
  refine ⟨max K K1 + 1, fun n hn2 => ?_⟩
  obtain ⟨n, rfl⟩ : ∃ m, n = m + 1 := ⟨n - 1, by omega⟩
  have h := h n (by omega)
  have ho := ho n (by omega)
  simp only [] at h ho
  have hni := hn _ (List.getElem_mem hlt)
  simp only [bF.l0]
  rw [if_pos (by omega), if_pos (by omega), if_pos (by omega), dQ l i hlt, if_pos (by omega), show key.toNat = n0 by omega, ho]
  simp only [Option.bind_some]
  rw [show wrap64 ((i : Int) + 1) = ((i + 1 : Nat) : Int) by unfold wrap64; omega]
  rw [htk, gF] at h
  unfold iA at h
  by_cases hc : lX (fF n0 (l.take i)) (l[i].f0.take n0) = true
  ·rw [if_pos hc] at h ⊢; exact h
  ·rw [if_neg hc] at h ⊢; rw [if_pos (by omega)]; exact h
theorem AO (key : Int) (n0 : Nat) (hk : key = n0) (l : List Upd) (hl : l.length ≤ 1099511627776) (hr : ∀ u ∈ l, u.f0.length ≤ 1099511627776) (hn : ∀ u ∈ l, n0 ≤ u.f0.length) : Ev (fun n => bF.f n key l) (fF n0 l) := by
 have h := vU key n0 hk l hl hr hn _ 0 rfl (by omega)
 simpa [bF.f, fF] using h
theorem sR (key : Int) (n0 : Nat) (hk : key = n0) (l : List Upd) (hl : l.length ≤ 1099511627776) (hr : ∀ u ∈ l, u.f0.length ≤ 1099511627776) (hn : ∀ u ∈ l, n0 ≤ u.f0.length) : ∀ d i : Nat, l.length - i = d → i ≤ l.length → Ev (fun n => bA.l0 n key l (eL n0 (l.take i)) i) (eL n0 l) := by
 intro d
 induction d with
 | zero =>
  intro i hd hi
  refine ⟨1, fun n hn => ?_⟩
  obtain ⟨n, rfl⟩ : ∃ m, n = m + 1 := ⟨n - 1, by omega⟩
  simp only [bA.l0]
  rw [if_neg (by omega), List.take_of_length_le (by omega)]
 | succ d ih =>
  intro i hd hi
  have hlt : i < l.length := by omega
  have htk : l.take (i + 1) = l.take i ++ [l[i]] := by rw [List.take_add_one, List.getElem?_eq_getElem hlt]; rfl
  obtain ⟨h1, h2⟩ := pH n0 (l.take i) 1099511627776 (fun u hu => hr u (List.mem_of_mem_take hu))
  rw [List.length_take] at h1
  obtain ⟨K, h⟩ := ih (i + 1) (by omega) (by omega)
  obtain ⟨K1, ho⟩ := vT (eL n0 (l.take i)) (l[i].f0.drop n0) (by omega) (fun x hx => by have := h2 x hx; omega)
  refine ⟨max K K1 + 1, fun n hn2 => ?_⟩
  obtain ⟨n, rfl⟩ : ∃ m, n = m + 1 := ⟨n - 1, by omega⟩
  have h := h n (by omega)
  have ho := ho n (by omega)
  simp only [] at h ho
  have hni := hn _ (List.getElem_mem hlt)
  simp only [bA.l0]
  rw [if_pos (by omega), if_pos (by omega), if_pos (by omega), dQ l i hlt, if_pos (by omega), show key.toNat = n0 by omega, ho]
  simp only [Option.bind_some]
  rw [show wrap64 ((i : Int) + 1) = ((i + 1 : Nat) : Int) by unfold wrap64; omega]
  rw [htk, iQ] at h
  unfold iA at h
  by_cases hc : lX (eL n0 (l.take i)) (l[i].f0.drop n0) = true
  ·rw [if_pos hc] at h ⊢; exact h
  ·rw [if_neg hc] at h ⊢; rw [if_pos (by omega)]; exact h
theorem xX (key : Int) (n0 : Nat) (hk : key = n0) (l : List Upd) (hl : l.length ≤ 1099511627776) (hr : ∀ u ∈ l, u.f0.length ≤ 1099511627776) (hn : ∀ u ∈ l, n0 ≤ u.f0.length) : Ev (fun n => bA.f n key l) (eL n0 l) := by
 have h := sR key n0 hk l hl hr hn _ 0 rfl (by omega)
 simpa [bA.f, eL] using h
theorem xY (key : Int) (n0 : Nat) (hk : key = n0) (l : List Upd) (r : Row) (hl : l.length ≤ 1099511627776) (hr : ∀ u ∈ l, u.f0.length ≤ 1099511627776) (hn : ∀ u ∈ l, n0 ≤ u.f0.length) : ∀ d i : Nat, l.length - i = d → i ≤ l.length → Ev (fun n => bI.l0 n key l r (fJ n0 (l.take i) r) i) (fJ n0 l r) := by
 intro d
 induction d with
 | zero =>
  intro i hd hi
  refine ⟨1, fun n hn => ?_⟩
  obtain ⟨n, rfl⟩ : ∃ m, n = m + 1 := ⟨n - 1, by omega⟩
  simp only [bI.l0]
  rw [if_neg (by omega), List.take_of_length_le (by omega)]
 | succ d ih =>
  intro i hd hi
  have hlt : i < l.length := by omega
  have htk : l.take (i + 1) = l.take i ++ [l[i]] := by rw [List.take_add_one, List.getElem?_eq_getElem hlt]; rfl
  have hli := hr _ (List.getElem_mem hlt)
  have hni := hn _ (List.getElem_mem hlt)
  have hfl : (fJ n0 (l.take i) r).length ≤ i := by
   have := List.length_filter_le (fun u : Upd => dK (u.f0.take n0) r) (l.take i)
   rw [List.length_take] at this
   unfold fJ
   omega
  obtain ⟨K, h⟩ := ih (i + 1) (by omega) (by omega)
  obtain ⟨K1, ho⟩ := nT (l[i].f0.take n0) r (by rw [List.length_take]; omega)
  refine ⟨max K K1 + 1, fun n hn2 => ?_⟩
  obtain ⟨n, rfl⟩ : ∃ m, n = m + 1 := ⟨n - 1, by omega⟩
  have h := h n (by omega)
  have ho := ho n (by omega)
  simp only [] at h ho
  simp only [bI.l0]
  rw [if_pos (by omega), if_pos (by omega), if_pos (by omega), dQ l i hlt, if_pos (by omega), show key.toNat = n0 by omega, ho]
  simp only [Option.bind_some]
  rw [show wrap64 ((i : Int) + 1) = ((i + 1 : Nat) : Int) by unfold wrap64; omega]
  rw [htk, iB] at h
  by_cases hc : dK (l[i].f0.take n0) r = true
  ·rw [if_pos hc] at h ⊢; rw [if_pos (by omega)]; exact h
  ·rw [if_neg hc, List.append_nil] at h; rw [if_neg hc]; exact h
theorem CB (key : Int) (n0 : Nat) (hk : key = n0) (l : List Upd) (r : Row) (hl : l.length ≤ 1099511627776) (hr : ∀ u ∈ l, u.f0.length ≤ 1099511627776) (hn : ∀ u ∈ l, n0 ≤ u.f0.length) : Ev (fun n => bI.f n key l r) (fJ n0 l r) := by
 have h := xY key n0 hk l r hl hr hn _ 0 rfl (by omega)
 simpa [bI.f, fJ] using h
theorem nU (a : List Row) (hl : a.length ≤ 1099511627776) (hr : ∀ x ∈ a, x.length ≤ 9223372036854775807) : ∀ d i : Nat, a.length - i = d → i ≤ a.length → Ev (fun n => aW.l0 n a a i) true := by
 intro d
 induction d with
 | zero =>
  intro i hd hi
  refine ⟨1, fun n hn => ?_⟩
  obtain ⟨n, rfl⟩ : ∃ m, n = m + 1 := ⟨n - 1, by omega⟩
  simp only [aW.l0]
  rw [if_neg (by omega)]
 | succ d ih =>
  intro i hd hi
  have hlt : i < a.length := by omega
  have hrd : dH a (i : Int) = a[i] := by simp [dH, List.getD, hlt]
  obtain ⟨K, h⟩ := ih (i + 1) (by omega) (by omega)
  obtain ⟨K1, ho⟩ := nT a[i] a[i] (hr _ (List.getElem_mem hlt))
  refine ⟨max K K1 + 1, fun n hn2 => ?_⟩
  obtain ⟨n, rfl⟩ : ∃ m, n = m + 1 := ⟨n - 1, by omega⟩
  have h := h n (by omega)
  have ho := ho n (by omega)
  simp only [] at h ho
  rw [(dR _ _).2 (fL _)] at ho
  simp only [aW.l0]
  rw [if_pos (by omega), if_pos (by omega), if_pos (by omega), hrd, ho]
  simp only [Option.bind_some, if_true]
  rw [show wrap64 ((i : Int) + 1) = ((i + 1 : Nat) : Int) by unfold wrap64; omega]
  exact h
theorem qK (a : List Row) (hl : a.length ≤ 1099511627776) (hr : ∀ x ∈ a, x.length ≤ 9223372036854775807) : Ev (fun n => aW.f n a a) true := by
 have h := nU a hl hr _ 0 rfl (by omega)
 simpa [aW.f] using h
end Go.Proofs.YtpflmgbpjhbmnaaGreat.B
end
section
namespace Go.Proofs.YtpflmgbpjhbmnaaGreat.B
open Go Go.RowKit Go.Proofs Go.Proofs.YtpflmgbpjhbmnaaGreatW.PrintWords Go.Proofs.YtpflmgbpjhbmnaaGreatW.PrintLast Go.Proofs.YtpflmgbpjhbmnaaGreatW.PrintMore Go.Proofs.YtpflmgbpjhbmnaaGreat.Stab
set_option linter.unusedVariables false
set_option linter.unusedSimpArgs false
set_option maxRecDepth 100000
theorem DD (A1 A2 : Option Addr) (c1 c2 : Nat) (x y : Upd) (w : World) (hr1 : Kd.C k85 w A1 x.f0.length x.f0) (hc1 : x.f0.length ≤ c1) (hr2 : Kd.C k85 w A2 y.f0.length y.f0) (hc2 : y.f0.length ≤ c2) (hm : x.f0.length ≤ 9223372036854775807) :
  Calls Tryz.prog 60 #[.agg #[.slice A1 x.f0.length c1, .int .i64 x.f1.f0, .int .i64 x.f1.f1, .int .i64 x.f2], .agg #[.slice A2 y.f0.length c2, .int .i64 y.f1.f0, .int .i64 y.f1.f1, .int .i64 y.f2]] w fun e w' => e = .returned (.int .i64 (cY x y)) ∧ Below w.heap.size w w' := by
 obtain ⟨k, hk⟩ := (vK x y hm).rounds
 exact cU.calls k A1 c1 x.f0 x.f1.f0 x.f1.f1 x.f2 A2 c2 y.f0 y.f1.f0 y.f1.f1 y.f2 _ w hr1 hc1 hr2 hc2 hk
set_option maxHeartbeats 8000000 in
theorem CC (A1 A2 : Option Addr) (c1 c2 : Nat) (a b : List Upd) (w : World) (hr1 : Kd.C k61 w A1 a.length a) (hc1 : a.length ≤ c1) (hr2 : Kd.C k61 w A2 b.length b) (hc2 : b.length ≤ c2) (hl : a.length ≤ 1099511627776) (hr : ∀ u ∈ a, u.f0.length ≤ 9223372036854775807) (hs : fR a b = true) :
  Calls Tryz.prog 14 #[.slice A1 a.length c1, .slice A2 b.length c2] w fun e w' => e = .returned (.bool true) ∧ Below w.heap.size w w' := by
 have he := jD a b hs
 have HS0 := aA.mk hs
 clear hs
 have HA := aA.mk hr1
 have HB := aA.mk hr2
 have HR := aA.mk hr
 clear hr1 hr2 hr hc1 hc2
 ·have hne : ((a.length : Int) != (b.length : Int)) = false := by rw [he]; simp
  have hne2 : (a.length != b.length) = false := by rw [he]; simp
  have hbl : b.length ≤ 1099511627776 := by omega
  have HE := aA.mk he
  clear he
  have HB0 := aA.mk (Below.refl w.heap.size w)
  go_enter Tryz.func14, Tryz.ntmps14
  go_wp2_with fail
  go_loopw [5] (fun v5 wr => ∃ i : Nat, v5 = .int .i64 i ∧ i ≤ a.length ∧ aA (fR (a.drop i) (b.drop i) = true) ∧ aA (Below w.heap.size w wr)) (fun v5 wr => a.length - (intOf v5).toNat)
  case atStart => exact ⟨0, rfl, Nat.zero_le _, HS0, HB0⟩
  case round =>
   clear HB0
   obtain ⟨i, rfl, hi, HS, HBr⟩ := hrel
   by_cases hlt : i < a.length
   ·have hb1 : decide ((i : Int) < (a.length : Int)) = true := decide_eq_true (by omega)
    have hb2 : decide (i < a.length) = true := decide_eq_true hlt
    have hlb : i < b.length := by have := HE.out; omega
    have hi0 : (0 : Int) ≤ (i : Int) := by omega
    have hi1 : (i : Int) < (a.length : Int) := by omega
    have hi2 : (i : Int) < (b.length : Int) := by omega
    obtain ⟨ad, A', c', e, hx0, hx1, hx2, hx3, hxl, hxC⟩ := eJ HA.out (i : Int) (by omega) (by omega)
    obtain ⟨bd, B', d', e', hy0, hy1, hy2, hy3, hyl, hyC⟩ := eJ HB.out (i : Int) (by omega) (by omega)
    rw [Int.toNat_natCast, dQ a i hlt] at hx0 hx1 hx2 hx3
    rw [dQ a i hlt] at hxl hxC
    rw [Int.toNat_natCast, dQ b i hlb] at hy0 hy1 hy2 hy3
    rw [dQ b i hlb] at hyl hyC
    have HD : aA (fR (a.drop i) (b.drop i) = (decide (cY a[i] b[i] = 0) && (decide (a[i].f2 = b[i].f2) && fR (a.drop (i + 1)) (b.drop (i + 1))))) := ⟨by
     rw [List.drop_eq_getElem_cons hlt, List.drop_eq_getElem_cons hlb]; rfl⟩
    have HO : aA (∀ W, Below w.heap.size w W → Calls Tryz.prog 60 #[.agg #[.slice A' a[i].f0.length c', .int .i64 a[i].f1.f0, .int .i64 a[i].f1.f1, .int .i64 a[i].f2], .agg #[.slice B' b[i].f0.length d', .int .i64 b[i].f1.f0, .int .i64 b[i].f1.f1, .int .i64 b[i].f2]] W fun e w' => e = .returned (.int .i64 (cY a[i] b[i])) ∧ aA (Below w.heap.size w w')) := ⟨fun W hW => (DD A' B' c' d' a[i] b[i] W (Kd.C_below hxC hW) hxl (Kd.C_below hyC hW) hyl (HR.out _ (List.getElem_mem hlt))).mono fun e w' ⟨q1, q2⟩ => ⟨q1, ⟨hW.trans (q2.mono hW.size)⟩⟩⟩
    clear hxl hxC hyl hyC
    generalize cY a[i] b[i] = z at HO HD
    generalize a[i] = x at hx0 hx1 hx2 hx3 HO HD
    generalize b[i] = y at hy0 hy1 hy2 hy3 HO HD
    subst e e'
    have h9 := HS.out
    rw [HD.out] at h9
    simp only [Bool.and_eq_true, decide_eq_true_eq] at h9
    obtain ⟨hz, hd, h9⟩ := h9
    have HS9 := aA.mk h9
    have z1 : (z != 0) = false := by simpa using hz
    have d1 : (x.f2 != y.f2) = false := by simpa using hd
    clear HD HS h9 hz hd
    go_upto_region 6 with (fail)
    go_cut [39] (fun x39 wx => x39 = .bool false ∧ aA (Below w.heap.size w wx))
    case first =>
     go_region_held3 (fun w' => w'.cell? (ad.add (i * 4)) = some (.slice A' x.f0.length c') ∧ w'.cell? ⟨(ad.add (i * 4)).block, (ad.add (i * 4)).off + 1, none⟩ = some (.int .i64 x.f1.f0) ∧ w'.cell? ⟨(ad.add (i * 4)).block, (ad.add (i * 4)).off + 2, none⟩ = some (.int .i64 x.f1.f1) ∧ w'.cell? ⟨(ad.add (i * 4)).block, (ad.add (i * 4)).off + 3, none⟩ = some (.int .i64 x.f2) ∧ w'.cell? (bd.add (i * 4)) = some (.slice B' y.f0.length d') ∧ w'.cell? ⟨(bd.add (i * 4)).block, (bd.add (i * 4)).off + 1, none⟩ = some (.int .i64 y.f1.f0) ∧ w'.cell? ⟨(bd.add (i * 4)).block, (bd.add (i * 4)).off + 2, none⟩ = some (.int .i64 y.f1.f1) ∧ w'.cell? ⟨(bd.add (i * 4)).block, (bd.add (i * 4)).off + 3, none⟩ = some (.int .i64 y.f2)) (first | (exact ⟨aH HB5.out hx0, aH HB5.out hx1, aH HB5.out hx2, aH HB5.out hx3, aH HB5.out hy0, aH HB5.out hy1, aH HB5.out hy2, aH HB5.out hy3⟩) | (exact ⟨aH (cG HBr.out) hx0, aH (cG HBr.out) hx1, aH (cG HBr.out) hx2, aH (cG HBr.out) hx3, aH (cG HBr.out) hy0, aH (cG HBr.out) hy1, aH (cG HBr.out) hy2, aH (cG HBr.out) hy3⟩) | go_keep) ((go_at_call 60; refine (HO.out _ (by repeat (first | exact HBr.out | apply aC | apply pw_below_drewN | apply aD))).mono ?_; rintro e w5 ⟨rfl, HB5⟩))
     go_wp2
     go_meet
     case rel => exact ⟨rfl, HB5⟩
    case rest =>
     obtain ⟨rfl, HBx⟩ := hcut
     go_wp2
     go_roundw
     case rel => exact ⟨i + 1, by go_num, by omega, HS9, HBx⟩
     case measure => simp [intOf]; omega
   ·have hin : i = a.length := by omega
    subst hin
    have hb1 : decide ((a.length : Int) < (a.length : Int)) = false := decide_eq_false (by omega)
    go_wp2
    go_ret
    exact ⟨rfl, HBr.out⟩
end Go.Proofs.YtpflmgbpjhbmnaaGreat.B
end
section
namespace Go.Proofs.YtpflmgbpjhbmnaaGreat.B
open Go Go.RowKit Go.Proofs Go.Proofs.YtpflmgbpjhbmnaaGreatW.PrintWords Go.Proofs.YtpflmgbpjhbmnaaGreat.Stab
set_option linter.unusedVariables false
set_option linter.unusedSimpArgs false
structure fG (l : List Upd) (P : Upd → Bool) (i : Nat) (bi : Int) : Prop where
 lt : bi < 0 → ∀ (j : Nat) (h : j < l.length), j < i → P l[j] = true
 ge : 0 ≤ bi → ∃ b : Nat, bi = b ∧ b < i ∧ ∃ h : b < l.length, P l[b] = false ∧ ∀ (j : Nat) (hj : j < l.length), j < i → P l[j] = false → cY l[b] l[j] ≤ 0 ∧ (j < b → cY l[b] l[j] < 0)
theorem fG.skip {l : List Upd} {P : Upd → Bool} {i : Nat} {bi : Int} (hb : fG l P i bi) (hi : i < l.length) (hP : P l[i] = true) : fG l P (i + 1) bi :=
 ⟨fun h0 j hj hji => by
   by_cases e : j = i
   ·subst e; exact hP
   ·exact hb.lt h0 j hj (by omega), fun h0 => by
   obtain ⟨b, e, h1, h2, h3, h4⟩ := hb.ge h0
   refine ⟨b, e, by omega, h2, h3, fun j hj hji hPj => ?_⟩
   by_cases e2 : j = i
   ·subst e2; rw [hP] at hPj; cases hPj
   ·exact h4 j hj (by omega) hPj⟩
theorem fG.first {l : List Upd} {P : Upd → Bool} {i : Nat} {bi : Int} (hb : fG l P i bi) (hi : i < l.length) (hP : P l[i] = false) (h0 : bi < 0) : fG l P (i + 1) i :=
 ⟨fun h1 => by omega, fun _ => ⟨i, rfl, by omega, hi, hP, fun j hj hji hPj => by
  by_cases e : j = i
  ·subst e; rw [nF.refl]; exact ⟨Int.le_refl _, fun h => absurd h (Nat.lt_irrefl _)⟩
  ·have := hb.lt h0 j hj (by omega)
   rw [hPj] at this; cases this⟩⟩
theorem fG.new_ {l : List Upd} {P : Upd → Bool} {i b : Nat} (hb : fG l P i b) (hi : i < l.length) (hbl : b < l.length) (hP : P l[i] = false) (hc : cY l[i] l[b] < 0) : fG l P (i + 1) i :=
 ⟨fun h1 => by omega, fun _ => ⟨i, rfl, by omega, hi, hP, fun j hj hji hPj => by
  by_cases e : j = i
  ·subst e; rw [nF.refl]; exact ⟨Int.le_refl _, fun h => absurd h (Nat.lt_irrefl _)⟩
  ·obtain ⟨b', eb, _, _, _, h4⟩ := hb.ge (by omega)
   have eb2 : b' = b := by omega
   subst eb2
   have h5 := (h4 j hj (by omega) hPj).1
   have h6 := nF.lt_le hc h5
   exact ⟨by omega, fun _ => h6⟩⟩⟩
theorem fG.stay {l : List Upd} {P : Upd → Bool} {i b : Nat} (hb : fG l P i b) (hi : i < l.length) (hbl : b < l.length) (hc : ¬ cY l[i] l[b] < 0) : fG l P (i + 1) b :=
 ⟨fun h1 => by omega, fun _ => by
  obtain ⟨b', eb, h1, h2, h3, h4⟩ := hb.ge (by omega)
  have eb2 : b' = b := by omega
  subst eb2
  refine ⟨b', rfl, by omega, h2, h3, fun j hj hji hPj => ?_⟩
  by_cases e : j = i
  ·subst e
   have s := eV l[j] l[b']
   exact ⟨by omega, fun h => by omega⟩
  ·exact h4 j hj (by omega) hPj⟩
theorem AP (l : List Upd) (P : Upd → Bool) (i : Nat) (h : i < l.length) : rdOf false (l.map P) (i : Int) = P l[i] := by
 simp [rdOf, List.getD, h]
def DE : Option (List Upd) → List Upd × Int
 | some o => (o, 0)
 | none => ([], 60)
theorem vV (l : List Upd) : dC l = DE (eF [] (lD l.length (eY l))) := by
 unfold dC DE
 cases eF [] (lD l.length (eY l)) <;> rfl
theorem pI (l : List Upd) (Q : Upd → Bool) (b : Nat) (hb : b < l.length) (hq : Q l[b] = true) (hn : ∀ (j : Nat) (hj : j < l.length), j < b → Q l[j] = false) : ∃ G', l.filter Q = l[b] :: G' := by
 have e : l = l.take b ++ l[b] :: l.drop (b + 1) := by rw [← List.drop_eq_getElem_cons hb, List.take_append_drop]
 have h1 : (l.take b).filter Q = [] := by
  rw [List.filter_eq_nil_iff]
  intro x hx
  obtain ⟨j, hj, rfl⟩ := List.mem_iff_getElem.1 hx
  rw [List.length_take] at hj
  rw [List.getElem_take, hn j (by omega) (by omega)]
  decide
 refine ⟨(l.drop (b + 1)).filter Q, ?_⟩
 have h2 : l.filter Q = (l.take b ++ l[b] :: l.drop (b + 1)).filter Q := congrArg (List.filter Q) e
 rw [h2, List.filter_append, h1, List.nil_append, List.filter_cons, if_pos hq]
def DF (l : List Upd) (P : Upd → Bool) : Prop := ∀ x ∈ l, ∀ y ∈ l, cY x y = 0 → P x = P y
def iC (l : List Upd) (P : Upd → Bool) : List Upd := l.filter fun x => !P x
def wC (l : List Upd) (P : Upd → Bool) (out : List Upd) : List Upd × Int := DE (eF out (lD (iC l P).length (eY (iC l P))))
def orP (P : Upd → Bool) (x : Upd) : Upd → Bool := fun y => P y || eqv x y
theorem vW (l : List Upd) (P : Upd → Bool) (out : List Upd) (bi : Int) (h0 : bi < 0) (hbi : fG l P l.length bi) : wC l P out = (out, 0) := by
 have hR : iC l P = [] := by
  unfold iC
  rw [List.filter_eq_nil_iff]
  intro x hx
  obtain ⟨j, hj, rfl⟩ := List.mem_iff_getElem.1 hx
  simp [hbi.lt h0 j hj hj]
 unfold wC
 rw [hR]
 rfl
theorem vX (l : List Upd) (P : Upd → Bool) (hP : DF l P) (out : List Upd) (b : Nat) (hbl : b < l.length) (hbi : fG l P l.length b) :
  DF l (orP P l[b]) ∧ (iC l (orP P l[b])).length < (iC l P).length ∧
  wC l P out = (match lB 0 (l.filter (eqv l[b])) with | none => ([], 60) | some s => wC l (orP P l[b]) (if s = 0 then out else out ++ [⟨l[b].f0, l[b].f1, s⟩])) := by
 obtain ⟨b', eb, _, hb, hPb, h4⟩ := hbi.ge (by omega)
 have eb2 : b' = b := by omega
 subst eb2
 have hmin : ∀ x ∈ iC l P, cY l[b'] x ≤ 0 := fun x hx => by
  obtain ⟨hx1, hx2⟩ := List.mem_filter.1 hx
  obtain ⟨j, hj, rfl⟩ := List.mem_iff_getElem.1 hx1
  exact (h4 j hj hj (by simpa using hx2)).1
 have hcls : l.filter (eqv l[b']) = (iC l P).filter (eqv l[b']) := by
  unfold iC
  rw [List.filter_filter]
  apply List.filter_congr
  intro x hx
  by_cases he : cY x l[b'] = 0
  ·have := hP x hx l[b'] (List.getElem_mem hb) he
   rw [hPb] at this
   simp [this]
  ·simp [eqv, he]
 obtain ⟨G', hG'⟩ := pI l (eqv l[b']) b' hb (xT _) (fun j hj hjb => by
  unfold eqv
  apply decide_eq_false
  intro he
  have hPj : P l[j] = false := by rw [hP l[j] (List.getElem_mem hj) l[b'] (List.getElem_mem hb) he]; exact hPb
  have := (h4 j hj hj hPj).2 hjb
  have s := eV l[j] l[b']
  omega)
 have hG2 := hG'
 rw [hcls] at hG2
 have hgrp := vM (iC l P) l[b'] G' hmin hG2
 have hrest : (iC l P).filter (fun x => !eqv l[b'] x) = iC l (orP P l[b']) := by
  unfold iC orP
  rw [List.filter_filter]
  apply List.filter_congr
  intro x hx
  cases P x <;> cases eqv l[b'] x <;> rfl
 have hpart := gP (eqv l[b']) (iC l P)
 rw [hG2, List.length_cons, hrest] at hpart
 rw [← hcls, hrest] at hgrp
 refine ⟨fun x hx y hy he => ?_, by omega, ?_⟩
 ·unfold orP
  rw [hP x hx y hy he]
  congr 1
  unfold eqv
  have s := eV x y
  rw [Bool.eq_iff_iff, decide_eq_true_eq, decide_eq_true_eq]
  exact ⟨fun h => fQ (show cY y x = 0 by omega) h, fun h => fQ he h⟩
 ·unfold wC
  rw [hgrp]
  simp only [eF]
  unfold eS
  cases hs : lB 0 (l.filter (eqv l[b'])) with
  | none => rfl
  | some s =>
   have hhd : (l.filter (eqv l[b'])).headD z61 = l[b'] := by rw [hG']; rfl
   rw [hhd]
   dsimp only
   by_cases hs0 : s = 0
   ·rw [if_pos hs0, if_pos hs0]; simp
   ·rw [if_neg hs0, if_neg hs0]; simp
theorem AQ (l : List Upd) (P : Upd → Bool) (x : Upd) (i : Nat) (hlt : i < l.length) (acc : Int) (he : cY l[i] x = 0) :
  lB acc ((l.drop i).filter (eqv x)) = (if (mJ acc l[i].f2).2 = 0 then lB (mJ acc l[i].f2).1 ((l.drop (i + 1)).filter (eqv x)) else none) ∧
  ((l.take i).map (orP P x) ++ (l.drop i).map P).set i true = (l.take (i + 1)).map (orP P x) ++ (l.drop (i + 1)).map P := by
 have htk : l.take (i + 1) = l.take i ++ [l[i]] := by rw [List.take_add_one, List.getElem?_eq_getElem hlt]; rfl
 have hdr : l.drop i = l[i] :: l.drop (i + 1) := List.drop_eq_getElem_cons hlt
 have hev : eqv x l[i] = true := decide_eq_true he
 have hor : orP P x l[i] = true := by unfold orP; rw [hev, Bool.or_true]
 have hlen : ((l.take i).map (orP P x)).length = i := by simp; omega
 refine ⟨by rw [hdr, List.filter_cons, if_pos hev]; rfl, ?_⟩
 rw [List.set_append_right _ _ (by omega), hlen, Nat.sub_self, hdr, List.map_cons, List.set_cons_zero, htk, List.map_append, List.append_assoc]
 simp only [List.map_cons, List.map_nil, hor, List.singleton_append]
theorem xZ (l : List Upd) (P : Upd → Bool) (x : Upd) (i : Nat) (hlt : i < l.length) (acc : Int) (he : ¬ cY l[i] x = 0) :
  lB acc ((l.drop i).filter (eqv x)) = lB acc ((l.drop (i + 1)).filter (eqv x)) ∧
  (l.take i).map (orP P x) ++ (l.drop i).map P = (l.take (i + 1)).map (orP P x) ++ (l.drop (i + 1)).map P := by
 have htk : l.take (i + 1) = l.take i ++ [l[i]] := by rw [List.take_add_one, List.getElem?_eq_getElem hlt]; rfl
 have hdr : l.drop i = l[i] :: l.drop (i + 1) := List.drop_eq_getElem_cons hlt
 have hev : eqv x l[i] = false := decide_eq_false he
 have hor : orP P x l[i] = P l[i] := by unfold orP; rw [hev, Bool.or_false]
 refine ⟨by rw [hdr, List.filter_cons, if_neg (by rw [hev]; decide)], ?_⟩
 rw [hdr, List.map_cons, htk, List.map_append, List.append_assoc]
 simp only [List.map_cons, List.map_nil, hor, List.singleton_append]
end Go.Proofs.YtpflmgbpjhbmnaaGreat.B
end
section
namespace Go.Proofs.YtpflmgbpjhbmnaaGreat.B
open Go Go.RowKit Go.Proofs Go.Proofs.YtpflmgbpjhbmnaaGreatW.PrintWords Go.Proofs.YtpflmgbpjhbmnaaGreatW.PrintLast Go.Proofs.YtpflmgbpjhbmnaaGreatW.PrintMore
set_option linter.unusedVariables false
section
variable {P : Program} {ops : Array Oper} {o : Oper} {a : Act} {Q : Exit → Act → World → Prop} {Kc : Act → World → Prop} {α : Type} {E : Prop}
theorem sS (d : Kd α) {W : World} (N : Nat) (hgd : o.guard = none) (s x : Operand) (t e : TypeId) (z : Value) (bytes : Nat)
  (ho : o.op = .call { callee := .builtin .append, args := #[s, x], argTypes := #[t, t] })
  (ht : P.underlying t = some (.slice e)) (hinfo : (P.info? e).map (fun i => (i.zero, i.size, i.bytes)) = some (some z, d.sz, bytes)) (hz : z.cells.size = d.sz) (hs0 : 0 < d.sz) (hb0 : 0 < bytes)
  (v : Value) (xs : List α) (p : α) (cs : List Value) (ok okp : Nat → Prop) (B c : Nat) (t2 : TypeId) (fr : Nat × Nat) (hs : a.eval s = v) (hx : a.eval x = .slice (some ⟨B, 0, none⟩) 1 c) (hB : W.heap[B]? = some (.cells cs.toArray t2 fr)) (hp : Kd.FK d W okp p cs) (hokp : ∀ k, okp k → ok k ∧ some k ≠ v.ownBlock) (hfresh : ∀ k, W.heap.size ≤ k → ok k)
  (HO : Kd.N d e W N ok v xs) (hbase : N ≤ W.heap.size) (hl : (xs.length + 1) * bytes ≤ 140737488355328)
  (h : ∀ g cap w1, Kd.N d e w1 N ok (.slice (some ⟨g, 0, none⟩) (xs.length + 1) cap) (xs ++ [p]) → W.grownBy w1 v.ownBlock → Kc (a.put o.dst (.slice (some ⟨g, 0, none⟩) (xs.length + 1) cap)) w1) :
  if Region.wanted o (yielded ops a.tmps) = true then Oper.wp P o a W Kc Q else E := by
 obtain ⟨h0, rows, hlr, hR0, hf⟩ := HO
 obtain ⟨h0', inner, hown, hr⟩ := Kd.raw_any hR0
 obtain ⟨i0, hi, hzz⟩ := Option.map_eq_some_iff.1 hinfo
 simp only [Prod.mk.injEq] at hzz
 obtain ⟨hz0, hz1, hz2⟩ := hzz
 have hlen : xs.length + 1 ≤ 140737488355328 := Nat.le_trans (Nat.le_mul_of_pos_right _ hb0) hl
 have hp2 : (Kd.raw d.sz).M W N (fun _ => False) cs cs := Kd.FK_raw hp
 rw [hlr] at hown
 refine step_append_lies W hgd s x t ho N e i0 z d.sz bytes ht hi hz0 hz1 hz2 hz hs0 v xs.length inner hs hown ⟨B, 0, none⟩ 1 c cs hx (by rw [d.K_len (Kd.FK_now hp), Nat.one_mul]) (World.news_of_block hB) (d.K_one (Kd.FK_now hp)) Nat.one_pos (by simp only [maxLen]; omega) hl hbase W.heap.size rfl ?_
 intro g cap w1 hown1 hg hat hlt
 have hat2 : (Value.slice (some ⟨g, 0, none⟩) (xs.length + 1) cap).ownBlock = v.ownBlock ∨ ∃ b, (Value.slice (some ⟨g, 0, none⟩) (xs.length + 1) cap).ownBlock = some b ∧ W.heap.size ≤ b := by
  rcases hat with hat | hat
  ·exact .inl hat.symm
  ·exact .inr ⟨g, rfl, by omega⟩
 have hrR := Kd.R_appended (d := Kd.raw d.sz) (okp := fun _ => False) (p := cs) h0' hr hp2 (fun _ hk => hk.elim) (fun _ _ => trivial) (by rw [hlr]; exact hown1) hg hat2
 exact h g cap w1 (Kd.N_appended h0 hlr hf (ys := [p]) (news := [cs]) rfl (fun j y c hy hc => by
  rcases j with _ | j
  ·simp only [List.getElem?_cons_zero, Option.some.injEq] at hy hc
   rw [← hy, ← hc]; exact hp
  ·simp at hy) hokp hfresh hrR hg hat2) hg
theorem yQ {w wr W : World} {v5 : Value} {out : List S61} {ok : Nat → Prop} (hgd : o.guard = none) (s x : Operand)
  (ho : o.op = .call { callee := .builtin .append, args := #[s, x], argTypes := #[22, 22] }) (hu : P.underlying 22 = some (.slice 61)) (hinfo : (P.info? 61).map (fun i => (i.zero, i.size, i.bytes)) = some (some (.agg #[(.slice none 0 0), (.int .i64 0), (.int .i64 0), (.int .i64 0)]), 4, 48))
  (HN : Kd.N k61 61 wr w.heap.size ok v5 out) (hB0 : Below w.heap.size w wr) (hb : Below wr.heap.size wr W) (hok : ∀ k, k < w.heap.size → ok k) (hfr : ∀ k, wr.heap.size ≤ k → ok k)
  (A : Option Addr) (c : Nat) (r : List S85) (HR : Kd.C k85 w A r.length r) (hrc : r.length ≤ c)
  (e f d : Int) (B m : Nat) (hB : W.heap[B]? = some (.cells #[.slice A r.length c, .int .i64 e, .int .i64 f, .int .i64 d] 61 (0, 0))) (hs : a.eval s = v5) (hx : a.eval x = .slice (some ⟨B, 0, none⟩) 1 m) (hl : out.length < 1099511627776)
  (h : ∀ g2 cap w1, Kd.N k61 61 w1 w.heap.size ok (.slice (some ⟨g2, 0, none⟩) (out.length + 1) cap) (out ++ [⟨r, ⟨e, f⟩, d⟩]) → Below w.heap.size w w1 → W.grownBy w1 v5.ownBlock → Kc (a.put o.dst (.slice (some ⟨g2, 0, none⟩) (out.length + 1) cap)) w1) :
  if Region.wanted o (yielded ops a.tmps) = true then Oper.wp P o a W Kc Q else E := by
 have HN2 := Kd.N_below HN hb
 have hB2 := hB0.trans (hb.mono hB0.size)
 have hF : Kd.F k85 W (fun k => k < w.heap.size) A r.length r := Kd.F_step (Kd.C_F qR HR) (fun k hk _ => hB2.block k hk)
 refine sS k61 w.heap.size hgd s x 22 61 (.agg #[(.slice none 0 0), (.int .i64 0), (.int .i64 0), (.int .i64 0)]) 48 ho hu hinfo rfl (by decide) (by omega) v5 out ⟨r, ⟨e, f⟩, d⟩ [.slice A r.length c, .int .i64 e, .int .i64 f, .int .i64 d] ok (fun k => k < w.heap.size) B m 61 (0, 0) hs hx hB (tN W _ ⟨r, ⟨e, f⟩, d⟩ hrc hF) (fun k hk => ⟨hok k hk, fun e => ?_⟩) (fun k hk => hfr k (Nat.le_trans hb.size hk)) HN2 hB2.size (by omega) ?_
 ·have := Kd.N_base HN2 k e.symm
  omega
 ·intro g2 cap w1 hN hgr
  exact h g2 cap w1 hN (hB2.grown hgr hB2.size (fun k hk => Kd.N_base HN2 k hk)) hgr
end
end Go.Proofs.YtpflmgbpjhbmnaaGreat.B
end
