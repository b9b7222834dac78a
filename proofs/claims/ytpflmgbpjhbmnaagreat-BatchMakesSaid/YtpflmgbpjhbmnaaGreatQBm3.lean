/- Bx0, Bx24, Bx25, Bx47, Bx48, Bx49, Bx79, Bx80, Bx2, Bx26, Bx27. -/
import Derived.Test.YtpflmgbpjhbmnaaGreatQBm2
import Derived.Test.YtpflmgbpjhbmnaaGreatProg
import Derived.Below
import Derived.Deep.Draws
import Derived.Deep.AppendLies
import Derived.Maps.AppendAt
import Derived.OwnWalk
import Derived.Laws.BytesArg
import Derived.Laws.MakeOwn
import Derived.Laws.OwnMore
import Derived.Deep.OwnRows
import Derived.Tactics
import Derived.Lib.ConvBytes
import Derived.Laws.Slices
import Derived.WalkKit
import Derived.KernelRfl
import Derived.RowKit3
import Derived.Deep.LoopGhost
import Derived.Deep.QuietTactic
import Derived.BigQuiet
import Derived.WideLaws
import Derived.Deep.DeepCutAuto
import Derived.Deep.CutBlock
import Derived.Deep.RegionHeld3
import Derived.Laws.Rows
import Derived.Lib.AppendStr
import Derived.ArgAppend
import Derived.Laws.IdiomCopy
import Derived.OrdersHeld
import Derived.Laws.BitsLemmas
import Derived.RowKit
import Derived.Test.YtpflmgbpjhbmnaaGreatQBm0
import Derived.Test.YtpflmgbpjhbmnaaGreatQBm1
section
namespace Go.Proofs.YtpflmgbpjhbmnaaGreat.B
open Go.RowKit Go.Proofs.YtpflmgbpjhbmnaaGreatW.PrintWords Go.Proofs.YtpflmgbpjhbmnaaGreatW.PrintLast Go.Proofs.YtpflmgbpjhbmnaaGreatW.PrintMore
attribute [local go_sem] Go.Proofs.YtpflmgbpjhbmnaaGreat.str_gtr bZ cA cJ cK bT bU cB cC   -- for this text's walks alone
set_option linter.unusedVariables false
set_option linter.unusedSimpArgs false
def DJ : Option Int → Value
 | none => .nilIface
 | some c => .iface 0 (.int .i64 c)
theorem aN : DJ none = .nilIface := rfl
theorem aQ (c : Int) : DJ (some c) = .iface 0 (.int .i64 c) := rfl
theorem oD : (Tryz.prog.info? 45).map (fun i => (i.zero, i.size, i.bytes)) = some (some (.slice none 0 0), 1, 24) := by kernel_rfl
theorem fZ : (Tryz.prog.info? 59).map (fun i => (i.zero, i.size, i.bytes)) = some (some (.agg #[(.int .i64 0), (.int .i64 0)]), 2, 16) := by kernel_rfl
theorem mE : (Tryz.prog.info? 61).map (fun i => (i.zero, i.size, i.bytes)) = some (some (.agg #[(.slice none 0 0), (.int .i64 0), (.int .i64 0), (.int .i64 0)]), 4, 48) := by kernel_rfl
theorem gQ : (Tryz.prog.info? 85).map (fun i => (i.zero, i.size, i.bytes)) = some (some (.agg #[(.int .i64 0), (.int .i64 0), (.string ⟨#[]⟩)]), 3, 32) := by kernel_rfl
structure S85 where
 f0 : Int
 f1 : Int
 f2 : ByteArray
def z85 : S85 := ⟨(0 : Int), (0 : Int), (⟨#[]⟩ : ByteArray)⟩
def k85 : Kd S85 := Kd.iso (Kd.pair (Kd.int .i64) (Kd.pair (Kd.int .i64) Kd.string)) (fun x : S85 => (x.f0, x.f1, x.f2))
theorem qR : Kd.Heap k85 := Kd.heap_iso _ (Kd.heap_pair (Kd.heap_int .i64) (Kd.heap_pair (Kd.heap_int .i64) Kd.heap_string))
theorem wO {w : World} {x : S85} {cs : List Value} (h : k85.K w x cs) : cs = [.int .i64 x.f0, .int .i64 x.f1, .string x.f2] := by
 obtain ⟨_, _, rfl, rfl, ⟨_, _, rfl, rfl, rfl⟩⟩ := h
 exact rfl
theorem qS (w : World) (x : S85)  : k85.K w x [.int .i64 x.f0, .int .i64 x.f1, .string x.f2] := ⟨[.int .i64 x.f0], [.int .i64 x.f1, .string x.f2], rfl, rfl, ⟨[.int .i64 x.f1], [.string x.f2], rfl, rfl, rfl⟩⟩
def bW (xs : List S85) (i : Int) : S85 := xs.getD i.toNat z85
theorem kT {w : World} {A : Option Addr} {n : Nat} {xs : List S85} (h : Kd.C k85 w A n xs) (i : Int) (h0 : 0 ≤ i) (h1 : i < n) : ∃ ad , A = some ad ∧ w.cell? (ad.add (i.toNat * 3)) = some (.int .i64 (bW xs i).f0) ∧ w.cell? ⟨(ad.add (i.toNat * 3)).block, (ad.add (i.toNat * 3)).off + 1, none⟩ = some (.int .i64 (bW xs i).f1) ∧ w.cell? ⟨(ad.add (i.toNat * 3)).block, (ad.add (i.toNat * 3)).off + 2, none⟩ = some (.string (bW xs i).f2) := by
 obtain ⟨ad, c, e, _, hK, hc0⟩ := Kd.C_get h z85 i h0 h1
 have hc : ∀ j u, c[j]? = some u → w.cell? (ad.add (i.toNat * 3 + j)) = some u := hc0
 obtain rfl := wO hK
 exact ⟨ad, e, hc 0 _ rfl, by rw [← fX _ _ 1 (by omega)]; exact hc 1 _ rfl, by rw [← fX _ _ 2 (by omega)]; exact hc 2 _ rfl⟩
def dH (xs : List (List S85)) (i : Int) : (List S85) := xs.getD i.toNat ([] : List S85)
theorem jL {w : World} {A : Option Addr} {n : Nat} {xs : List (List S85)} (h : Kd.C (Kd.slice 85 k85) w A n xs) (i : Int) (h0 : 0 ≤ i) (h1 : i < n) : ∃ ad A0 c0, A = some ad ∧ w.cell? (ad.add i.toNat) = some (.slice A0 (dH xs i).length c0) ∧ (dH xs i).length ≤ c0 ∧ k85.C w A0 (dH xs i).length (dH xs i) := by
 obtain ⟨ad, c, e, _, hK, hc0⟩ := Kd.C_get h ([] : List S85) i h0 h1
 have hc : ∀ j u, c[j]? = some u → w.cell? (ad.add (i.toNat * 1 + j)) = some u := hc0
 obtain ⟨A0, c0, rfl, l0, g0⟩ := hK
 exact ⟨ad, A0, c0, e, by have hq := hc 0 _ rfl; rwa [Nat.mul_one, Nat.add_zero] at hq, l0, g0⟩
structure S59 where
 f0 : Int
 f1 : Int
def z59 : S59 := ⟨(0 : Int), (0 : Int)⟩
def k59 : Kd S59 := Kd.iso (Kd.pair (Kd.int .i64) (Kd.int .i64)) (fun x : S59 => (x.f0, x.f1))
theorem wP : Kd.Heap k59 := Kd.heap_iso _ (Kd.heap_pair (Kd.heap_int .i64) (Kd.heap_int .i64))
theorem qT {w : World} {x : S59} {cs : List Value} (h : k59.K w x cs) : cs = [.int .i64 x.f0, .int .i64 x.f1] := by
 obtain ⟨_, _, rfl, rfl, rfl⟩ := h
 exact rfl
theorem tL {w : World} {base : Nat} {ok : Nat → Prop} {x : S59} {cs : List Value} (h : k59.M w base ok x cs) : cs = [.int .i64 x.f0, .int .i64 x.f1] := by
 obtain ⟨_, _, rfl, rfl, rfl⟩ := h
 exact rfl
theorem tM (w : World) (x : S59)  : k59.K w x [.int .i64 x.f0, .int .i64 x.f1] := ⟨[.int .i64 x.f0], [.int .i64 x.f1], rfl, rfl, rfl⟩
theorem gI (w : World) (base : Nat) (ok : Nat → Prop) (x : S59)  : k59.M w base ok x [.int .i64 x.f0, .int .i64 x.f1] := ⟨[.int .i64 x.f0], [.int .i64 x.f1], rfl, rfl, rfl⟩
def bN (xs : List S59) (i : Int) : S59 := xs.getD i.toNat z59
theorem dW {w : World} {A : Option Addr} {n : Nat} {xs : List S59} (h : Kd.C k59 w A n xs) (i : Int) (h0 : 0 ≤ i) (h1 : i < n) : ∃ ad , A = some ad ∧ w.cell? (ad.add (i.toNat * 2)) = some (.int .i64 (bN xs i).f0) ∧ w.cell? ⟨(ad.add (i.toNat * 2)).block, (ad.add (i.toNat * 2)).off + 1, none⟩ = some (.int .i64 (bN xs i).f1) := by
 obtain ⟨ad, c, e, _, hK, hc0⟩ := Kd.C_get h z59 i h0 h1
 have hc : ∀ j u, c[j]? = some u → w.cell? (ad.add (i.toNat * 2 + j)) = some u := hc0
 obtain rfl := qT hK
 exact ⟨ad, e, hc 0 _ rfl, by rw [← fX _ _ 1 (by omega)]; exact hc 1 _ rfl⟩
structure S61 where
 f0 : (List S85)
 f1 : S59
 f2 : Int
def z61 : S61 := ⟨([] : List S85), z59, (0 : Int)⟩
def k61 : Kd S61 := Kd.iso (Kd.pair (Kd.slice 85 k85) (Kd.pair k59 (Kd.int .i64))) (fun x : S61 => (x.f0, x.f1, x.f2))
theorem mZ : Kd.Heap k61 := Kd.heap_iso _ (Kd.heap_pair (Kd.heap_slice 85 qR) (Kd.heap_pair wP (Kd.heap_int .i64)))
theorem kE {w : World} {x : S61} {cs : List Value} (h : k61.K w x cs) : ∃ A0 c0, cs = [.slice A0 x.f0.length c0, .int .i64 x.f1.f0, .int .i64 x.f1.f1, .int .i64 x.f2] ∧ x.f0.length ≤ c0 ∧ k85.C w A0 x.f0.length x.f0 := by
 obtain ⟨_, _, rfl, ⟨A0, c0, rfl, l0, g0⟩, ⟨_, _, rfl, s1, rfl⟩⟩ := h
 obtain rfl := qT s1
 exact ⟨A0, c0, rfl, l0, g0⟩
theorem qU (w : World) (x : S61) {A0 : Option Addr} {c0 : Nat} (l0 : x.f0.length ≤ c0) (g0 : k85.C w A0 x.f0.length x.f0) : k61.K w x [.slice A0 x.f0.length c0, .int .i64 x.f1.f0, .int .i64 x.f1.f1, .int .i64 x.f2] := ⟨[.slice A0 x.f0.length c0], [.int .i64 x.f1.f0, .int .i64 x.f1.f1, .int .i64 x.f2], rfl, ⟨A0, c0, rfl, l0, g0⟩, ⟨[.int .i64 x.f1.f0, .int .i64 x.f1.f1], [.int .i64 x.f2], rfl, (tM w x.f1 ), rfl⟩⟩
theorem kU (w : World) (base : Nat) (ok : Nat → Prop) (x : S61) {v0 : Value} (g0 : k85.R 85 w base ok v0 x.f0) : k61.M w base ok x [v0, .int .i64 x.f1.f0, .int .i64 x.f1.f1, .int .i64 x.f2] := ⟨[v0], [.int .i64 x.f1.f0, .int .i64 x.f1.f1, .int .i64 x.f2], rfl, ⟨v0, rfl, g0⟩, ⟨[.int .i64 x.f1.f0, .int .i64 x.f1.f1], [.int .i64 x.f2], rfl, (gI w base ok x.f1 ), rfl⟩⟩
theorem eR {W : World} {ok : Nat → Prop} {x : S61} {cs : List Value} (h : Kd.FK k61 W ok x cs) : ∃ A0 c0, cs = [.slice A0 x.f0.length c0, .int .i64 x.f1.f0, .int .i64 x.f1.f1, .int .i64 x.f2] ∧ x.f0.length ≤ c0 ∧ Kd.F k85 W ok A0 x.f0.length x.f0 := by
 obtain ⟨A0, c0, rfl, l0, _⟩ := kE (Kd.FK_now h)
 exact ⟨A0, c0, rfl, l0, (fun W' hW => by obtain ⟨A0_, c0_, he, l0_, g0_⟩ := kE (h W' hW); injection (Option.some.inj (show some (Value.slice A0 x.f0.length c0) = some (Value.slice A0_ x.f0.length c0_) from congrArg (fun l => l[0]?) he)) with ha_ _ _; rw [ha_]; exact g0_)⟩
theorem tN (W : World) (ok : Nat → Prop) (x : S61) {A0 : Option Addr} {c0 : Nat} (l0 : x.f0.length ≤ c0) (g0 : Kd.F k85 W ok A0 x.f0.length x.f0) : Kd.FK k61 W ok x [.slice A0 x.f0.length c0, .int .i64 x.f1.f0, .int .i64 x.f1.f1, .int .i64 x.f2] := fun W2 hW => qU W2 x l0 (g0 W2 hW)
def aX (xs : List S61) (i : Int) : S61 := xs.getD i.toNat z61
theorem eJ {w : World} {A : Option Addr} {n : Nat} {xs : List S61} (h : Kd.C k61 w A n xs) (i : Int) (h0 : 0 ≤ i) (h1 : i < n) : ∃ ad A0 c0, A = some ad ∧ w.cell? (ad.add (i.toNat * 4)) = some (.slice A0 (aX xs i).f0.length c0) ∧ w.cell? ⟨(ad.add (i.toNat * 4)).block, (ad.add (i.toNat * 4)).off + 1, none⟩ = some (.int .i64 (aX xs i).f1.f0) ∧ w.cell? ⟨(ad.add (i.toNat * 4)).block, (ad.add (i.toNat * 4)).off + 2, none⟩ = some (.int .i64 (aX xs i).f1.f1) ∧ w.cell? ⟨(ad.add (i.toNat * 4)).block, (ad.add (i.toNat * 4)).off + 3, none⟩ = some (.int .i64 (aX xs i).f2) ∧ (aX xs i).f0.length ≤ c0 ∧ k85.C w A0 (aX xs i).f0.length (aX xs i).f0 := by
 obtain ⟨ad, c, e, _, hK, hc0⟩ := Kd.C_get h z61 i h0 h1
 have hc : ∀ j u, c[j]? = some u → w.cell? (ad.add (i.toNat * 4 + j)) = some u := hc0
 obtain ⟨A0, c0, rfl, l0, g0⟩ := kE hK
 exact ⟨ad, A0, c0, e, hc 0 _ rfl, by rw [← fX _ _ 1 (by omega)]; exact hc 1 _ rfl, by rw [← fX _ _ 2 (by omega)]; exact hc 2 _ rfl, by rw [← fX _ _ 3 (by omega)]; exact hc 3 _ rfl, l0, g0⟩
end Go.Proofs.YtpflmgbpjhbmnaaGreat.B
end
section
namespace Go.Proofs.YtpflmgbpjhbmnaaGreat.B
open Go.RowKit Go.Proofs.YtpflmgbpjhbmnaaGreatW.PrintWords Go.Proofs.YtpflmgbpjhbmnaaGreatW.PrintLast Go.Proofs.YtpflmgbpjhbmnaaGreatW.PrintMore
attribute [local go_sem] Go.Proofs.YtpflmgbpjhbmnaaGreat.str_gtr bZ cA cJ cK bT bU cB cC   -- for this text's walks alone
set_option linter.unusedVariables false
set_option linter.unusedSimpArgs false
def cF.f (a0 : Int) : Option (Bool) := some (a0 != a0)
set_option maxHeartbeats 8000000 in
set_option maxRecDepth 100000 in
theorem cF.calls (a0 : Int) (r : Bool) (w : World) (h : cF.f a0 = some r) :
  Calls Tryz.prog 135 #[.int .i64 a0] w fun e w' => e = .returned (.bool r) ∧ bQ w w' := by
 have H : (some (a0 != a0)) = some r := h
 clear h
 obtain rfl := Option.some.inj H
 go_enter Tryz.func135, Tryz.ntmps135
 go_wp2
 go_ret
 exact ⟨by first | rfl | (simp; done) | (simp [*]; done), by repeat (first | exact bQ.refl _ | apply bQ.step)⟩
end Go.Proofs.YtpflmgbpjhbmnaaGreat.B
end
section
namespace Go.Proofs.YtpflmgbpjhbmnaaGreat.B
open Go.RowKit Go.Proofs.YtpflmgbpjhbmnaaGreatW.PrintWords Go.Proofs.YtpflmgbpjhbmnaaGreatW.PrintLast Go.Proofs.YtpflmgbpjhbmnaaGreatW.PrintMore
attribute [local go_sem] Go.Proofs.YtpflmgbpjhbmnaaGreat.str_gtr bZ cA cJ cK bT bU cB cC   -- for this text's walks alone
set_option linter.unusedVariables false
set_option linter.unusedSimpArgs false
def cD.f (a0 : Int) (a1 : Int) : Option (Int) := (cF.f a0).bind fun t106 => ((cF.f a1).bind fun t107 => (if t106 = true then (if t107 = true then (some 0) else (some (-1))) else (if t107 = true then (some 1) else (if a0 < a1 then (some (-1)) else (if a0 > a1 then (some 1) else (some 0))))))
set_option maxHeartbeats 8000000 in
set_option maxRecDepth 100000 in
theorem cD.calls (a0 : Int) (a1 : Int) (r : Int) (w : World) (h : cD.f a0 a1 = some r) :
  Calls Tryz.prog 121 #[.int .i64 a0, .int .i64 a1] w fun e w' => e = .returned (.int .i64 r) ∧ bQ w w' := by
 have H : ((cF.f a0).bind fun t106 => ((cF.f a1).bind fun t107 => (if t106 = true then (if t107 = true then (some 0) else (some (-1))) else (if t107 = true then (some 1) else (if a0 < a1 then (some (-1)) else (if a0 > a1 then (some 1) else (some 0))))))) = some r := h
 clear h
 replace H := Option.bind_eq_some_iff.mp H
 obtain ⟨t106, A30, H⟩ := H
 replace H : ((cF.f a1).bind fun t107 => (if t106 = true then (if t107 = true then (some 0) else (some (-1))) else (if t107 = true then (some 1) else (if a0 < a1 then (some (-1)) else (if a0 > a1 then (some 1) else (some 0)))))) = some r := H
 have A3 := aA.mk A30
 clear A30
 replace H := Option.bind_eq_some_iff.mp H
 obtain ⟨t107, A40, H⟩ := H
 replace H : (if t106 = true then (if t107 = true then (some 0) else (some (-1))) else (if t107 = true then (some 1) else (if a0 < a1 then (some (-1)) else (if a0 > a1 then (some 1) else (some 0))))) = some r := H
 have A4 := aA.mk A40
 clear A40
 by_cases c5 : t106 = true
 ·subst c5
  have H1 : (if t107 = true then (some 0) else (some (-1))) = some r := by rw [if_pos rfl] at H; exact H
  clear H
  have H := H1
  clear H1
  by_cases c6 : t107 = true
  ·subst c6
   have H1 : (some 0) = some r := by rw [if_pos rfl] at H; exact H
   clear H
   have H := H1
   clear H1
   obtain rfl := Option.some.inj H
   go_enter Tryz.func121, Tryz.ntmps121
   go_wp2_with (first | ((with_reducible refine aZ (f := 135) rfl ?_); refine cH (some 8) rfl rfl Tryz.func135 (by kernel_rfl) rfl #[.int .i64 a0] rfl (by (try simp only [List.map_toArray, List.map_cons, List.map_nil]); first | done | rfl | (simp only [List.length_drop, List.length_take]; rfl)) ?_; (with_reducible refine (cF.calls a0 true _ A3.out).mono ?_); rintro e w' ⟨rfl, ⟨nd, rfl⟩⟩; refine ⟨_, rfl, ?_⟩) | ((with_reducible refine aZ (f := 135) rfl ?_); refine cH (some 10) rfl rfl Tryz.func135 (by kernel_rfl) rfl #[.int .i64 a1] rfl (by (try simp only [List.map_toArray, List.map_cons, List.map_nil]); first | done | rfl | (simp only [List.length_drop, List.length_take]; rfl)) ?_; (with_reducible refine (cF.calls a1 true _ A4.out).mono ?_); rintro e w' ⟨rfl, ⟨nd, rfl⟩⟩; refine ⟨_, rfl, ?_⟩))
   go_ret
   exact ⟨by first | rfl | (simp; done) | (simp [*]; done), by repeat (first | exact bQ.refl _ | apply bQ.step)⟩
  ·replace c6 := Bool.eq_false_iff.mpr c6
   subst c6
   have H1 : (some (-1)) = some r := by rw [if_neg (show ¬ (false = true) by decide)] at H; exact H
   clear H
   have H := H1
   clear H1
   obtain rfl := Option.some.inj H
   go_enter Tryz.func121, Tryz.ntmps121
   go_wp2_with (first | ((with_reducible refine aZ (f := 135) rfl ?_); refine cH (some 8) rfl rfl Tryz.func135 (by kernel_rfl) rfl #[.int .i64 a0] rfl (by (try simp only [List.map_toArray, List.map_cons, List.map_nil]); first | done | rfl | (simp only [List.length_drop, List.length_take]; rfl)) ?_; (with_reducible refine (cF.calls a0 true _ A3.out).mono ?_); rintro e w' ⟨rfl, ⟨nd, rfl⟩⟩; refine ⟨_, rfl, ?_⟩) | ((with_reducible refine aZ (f := 135) rfl ?_); refine cH (some 10) rfl rfl Tryz.func135 (by kernel_rfl) rfl #[.int .i64 a1] rfl (by (try simp only [List.map_toArray, List.map_cons, List.map_nil]); first | done | rfl | (simp only [List.length_drop, List.length_take]; rfl)) ?_; (with_reducible refine (cF.calls a1 false _ A4.out).mono ?_); rintro e w' ⟨rfl, ⟨nd, rfl⟩⟩; refine ⟨_, rfl, ?_⟩))
   go_ret
   exact ⟨by first | rfl | (simp; done) | (simp [*]; done), by repeat (first | exact bQ.refl _ | apply bQ.step)⟩
 ·replace c5 := Bool.eq_false_iff.mpr c5
  subst c5
  have H1 : (if t107 = true then (some 1) else (if a0 < a1 then (some (-1)) else (if a0 > a1 then (some 1) else (some 0)))) = some r := by rw [if_neg (show ¬ (false = true) by decide)] at H; exact H
  clear H
  have H := H1
  clear H1
  by_cases c7 : t107 = true
  ·subst c7
   have H1 : (some 1) = some r := by rw [if_pos rfl] at H; exact H
   clear H
   have H := H1
   clear H1
   obtain rfl := Option.some.inj H
   go_enter Tryz.func121, Tryz.ntmps121
   go_wp2_with (first | ((with_reducible refine aZ (f := 135) rfl ?_); refine cH (some 8) rfl rfl Tryz.func135 (by kernel_rfl) rfl #[.int .i64 a0] rfl (by (try simp only [List.map_toArray, List.map_cons, List.map_nil]); first | done | rfl | (simp only [List.length_drop, List.length_take]; rfl)) ?_; (with_reducible refine (cF.calls a0 false _ A3.out).mono ?_); rintro e w' ⟨rfl, ⟨nd, rfl⟩⟩; refine ⟨_, rfl, ?_⟩) | ((with_reducible refine aZ (f := 135) rfl ?_); refine cH (some 10) rfl rfl Tryz.func135 (by kernel_rfl) rfl #[.int .i64 a1] rfl (by (try simp only [List.map_toArray, List.map_cons, List.map_nil]); first | done | rfl | (simp only [List.length_drop, List.length_take]; rfl)) ?_; (with_reducible refine (cF.calls a1 true _ A4.out).mono ?_); rintro e w' ⟨rfl, ⟨nd, rfl⟩⟩; refine ⟨_, rfl, ?_⟩))
   go_ret
   exact ⟨by first | rfl | (simp; done) | (simp [*]; done), by repeat (first | exact bQ.refl _ | apply bQ.step)⟩
  ·replace c7 := Bool.eq_false_iff.mpr c7
   subst c7
   have H1 : (if a0 < a1 then (some (-1)) else (if a0 > a1 then (some 1) else (some 0))) = some r := by rw [if_neg (show ¬ (false = true) by decide)] at H; exact H
   clear H
   have H := H1
   clear H1
   by_cases c8 : a0 < a1
   ·rw [if_pos c8] at H
    have c8b0 : decide (a0 < a1) = true := decide_eq_true c8
    clear c8
    obtain rfl := Option.some.inj H
    go_enter Tryz.func121, Tryz.ntmps121
    go_wp2_with (first | ((with_reducible refine aZ (f := 135) rfl ?_); refine cH (some 8) rfl rfl Tryz.func135 (by kernel_rfl) rfl #[.int .i64 a0] rfl (by (try simp only [List.map_toArray, List.map_cons, List.map_nil]); first | done | rfl | (simp only [List.length_drop, List.length_take]; rfl)) ?_; (with_reducible refine (cF.calls a0 false _ A3.out).mono ?_); rintro e w' ⟨rfl, ⟨nd, rfl⟩⟩; refine ⟨_, rfl, ?_⟩) | ((with_reducible refine aZ (f := 135) rfl ?_); refine cH (some 10) rfl rfl Tryz.func135 (by kernel_rfl) rfl #[.int .i64 a1] rfl (by (try simp only [List.map_toArray, List.map_cons, List.map_nil]); first | done | rfl | (simp only [List.length_drop, List.length_take]; rfl)) ?_; (with_reducible refine (cF.calls a1 false _ A4.out).mono ?_); rintro e w' ⟨rfl, ⟨nd, rfl⟩⟩; refine ⟨_, rfl, ?_⟩))
    go_ret
    exact ⟨by first | rfl | (simp; done) | (simp [*]; done), by repeat (first | exact bQ.refl _ | apply bQ.step)⟩
   ·rw [if_neg c8] at H
    have c8b0 : decide (a0 < a1) = false := decide_eq_false c8
    clear c8
    by_cases c9 : a0 > a1
    ·rw [if_pos c9] at H
     have c9b0 : decide (a1 < a0) = true := decide_eq_true c9
     clear c9
     obtain rfl := Option.some.inj H
     go_enter Tryz.func121, Tryz.ntmps121
     go_wp2_with (first | ((with_reducible refine aZ (f := 135) rfl ?_); refine cH (some 8) rfl rfl Tryz.func135 (by kernel_rfl) rfl #[.int .i64 a0] rfl (by (try simp only [List.map_toArray, List.map_cons, List.map_nil]); first | done | rfl | (simp only [List.length_drop, List.length_take]; rfl)) ?_; (with_reducible refine (cF.calls a0 false _ A3.out).mono ?_); rintro e w' ⟨rfl, ⟨nd, rfl⟩⟩; refine ⟨_, rfl, ?_⟩) | ((with_reducible refine aZ (f := 135) rfl ?_); refine cH (some 10) rfl rfl Tryz.func135 (by kernel_rfl) rfl #[.int .i64 a1] rfl (by (try simp only [List.map_toArray, List.map_cons, List.map_nil]); first | done | rfl | (simp only [List.length_drop, List.length_take]; rfl)) ?_; (with_reducible refine (cF.calls a1 false _ A4.out).mono ?_); rintro e w' ⟨rfl, ⟨nd, rfl⟩⟩; refine ⟨_, rfl, ?_⟩))
     go_ret
     exact ⟨by first | rfl | (simp; done) | (simp [*]; done), by repeat (first | exact bQ.refl _ | apply bQ.step)⟩
    ·rw [if_neg c9] at H
     have c9b0 : decide (a1 < a0) = false := decide_eq_false c9
     clear c9
     obtain rfl := Option.some.inj H
     go_enter Tryz.func121, Tryz.ntmps121
     go_wp2_with (first | ((with_reducible refine aZ (f := 135) rfl ?_); refine cH (some 8) rfl rfl Tryz.func135 (by kernel_rfl) rfl #[.int .i64 a0] rfl (by (try simp only [List.map_toArray, List.map_cons, List.map_nil]); first | done | rfl | (simp only [List.length_drop, List.length_take]; rfl)) ?_; (with_reducible refine (cF.calls a0 false _ A3.out).mono ?_); rintro e w' ⟨rfl, ⟨nd, rfl⟩⟩; refine ⟨_, rfl, ?_⟩) | ((with_reducible refine aZ (f := 135) rfl ?_); refine cH (some 10) rfl rfl Tryz.func135 (by kernel_rfl) rfl #[.int .i64 a1] rfl (by (try simp only [List.map_toArray, List.map_cons, List.map_nil]); first | done | rfl | (simp only [List.length_drop, List.length_take]; rfl)) ?_; (with_reducible refine (cF.calls a1 false _ A4.out).mono ?_); rintro e w' ⟨rfl, ⟨nd, rfl⟩⟩; refine ⟨_, rfl, ?_⟩))
     go_ret
     exact ⟨by first | rfl | (simp; done) | (simp [*]; done), by repeat (first | exact bQ.refl _ | apply bQ.step)⟩
end Go.Proofs.YtpflmgbpjhbmnaaGreat.B
end
section
namespace Go.Proofs.YtpflmgbpjhbmnaaGreat.B
open Go.RowKit Go.Proofs.YtpflmgbpjhbmnaaGreatW.PrintWords Go.Proofs.YtpflmgbpjhbmnaaGreatW.PrintLast Go.Proofs.YtpflmgbpjhbmnaaGreatW.PrintMore
attribute [local go_sem] Go.Proofs.YtpflmgbpjhbmnaaGreat.str_gtr bZ cA cJ cK bT bU cB cC   -- for this text's walks alone
set_option linter.unusedVariables false
set_option linter.unusedSimpArgs false
def bS.f (a0 : ByteArray) : Option (Bool) := some (a0.toList != a0.toList)
set_option maxHeartbeats 8000000 in
set_option maxRecDepth 100000 in
theorem bS.calls (a0 : ByteArray) (r : Bool) (w : World) (h : bS.f a0 = some r) :
  Calls Tryz.prog 136 #[.string a0] w fun e w' => e = .returned (.bool r) ∧ bQ w w' := by
 have H : (some (a0.toList != a0.toList)) = some r := h
 clear h
 obtain rfl := Option.some.inj H
 go_enter Tryz.func136, Tryz.ntmps136
 go_wp2
 go_ret
 exact ⟨by first | rfl | (simp; done) | (simp [*]; done), by repeat (first | exact bQ.refl _ | apply bQ.step)⟩
end Go.Proofs.YtpflmgbpjhbmnaaGreat.B
end
section
namespace Go.Proofs.YtpflmgbpjhbmnaaGreat.B
open Go.RowKit Go.Proofs.YtpflmgbpjhbmnaaGreatW.PrintWords Go.Proofs.YtpflmgbpjhbmnaaGreatW.PrintLast Go.Proofs.YtpflmgbpjhbmnaaGreatW.PrintMore
attribute [local go_sem] Go.Proofs.YtpflmgbpjhbmnaaGreat.str_gtr bZ cA cJ cK bT bU cB cC   -- for this text's walks alone
set_option linter.unusedVariables false
set_option linter.unusedSimpArgs false
def cQ.f (a0 : ByteArray) (a1 : ByteArray) : Option (Int) := (bS.f a0).bind fun t157 => ((bS.f a1).bind fun t158 => (if t157 = true then (if t158 = true then (some 0) else (some (-1))) else (if t158 = true then (some 1) else (if (Op.bytesLess a0.toList a1.toList) = true then (some (-1)) else (if (Op.bytesLess a1.toList a0.toList) = true then (some 1) else (some 0))))))
set_option maxHeartbeats 8000000 in
set_option maxRecDepth 100000 in
theorem cQ.calls (a0 : ByteArray) (a1 : ByteArray) (r : Int) (w : World) (h : cQ.f a0 a1 = some r) :
  Calls Tryz.prog 122 #[.string a0, .string a1] w fun e w' => e = .returned (.int .i64 r) ∧ bQ w w' := by
 have H : ((bS.f a0).bind fun t157 => ((bS.f a1).bind fun t158 => (if t157 = true then (if t158 = true then (some 0) else (some (-1))) else (if t158 = true then (some 1) else (if (Op.bytesLess a0.toList a1.toList) = true then (some (-1)) else (if (Op.bytesLess a1.toList a0.toList) = true then (some 1) else (some 0))))))) = some r := h
 clear h
 replace H := Option.bind_eq_some_iff.mp H
 obtain ⟨t157, A30, H⟩ := H
 replace H : ((bS.f a1).bind fun t158 => (if t157 = true then (if t158 = true then (some 0) else (some (-1))) else (if t158 = true then (some 1) else (if (Op.bytesLess a0.toList a1.toList) = true then (some (-1)) else (if (Op.bytesLess a1.toList a0.toList) = true then (some 1) else (some 0)))))) = some r := H
 have A3 := aA.mk A30
 clear A30
 replace H := Option.bind_eq_some_iff.mp H
 obtain ⟨t158, A40, H⟩ := H
 replace H : (if t157 = true then (if t158 = true then (some 0) else (some (-1))) else (if t158 = true then (some 1) else (if (Op.bytesLess a0.toList a1.toList) = true then (some (-1)) else (if (Op.bytesLess a1.toList a0.toList) = true then (some 1) else (some 0))))) = some r := H
 have A4 := aA.mk A40
 clear A40
 by_cases c5 : t157 = true
 ·subst c5
  have H1 : (if t158 = true then (some 0) else (some (-1))) = some r := by rw [if_pos rfl] at H; exact H
  clear H
  have H := H1
  clear H1
  by_cases c6 : t158 = true
  ·subst c6
   have H1 : (some 0) = some r := by rw [if_pos rfl] at H; exact H
   clear H
   have H := H1
   clear H1
   obtain rfl := Option.some.inj H
   go_enter Tryz.func122, Tryz.ntmps122
   go_wp2_with (first | ((with_reducible refine aZ (f := 136) rfl ?_); refine cH (some 8) rfl rfl Tryz.func136 (by kernel_rfl) rfl #[.string a0] rfl (by (try simp only [List.map_toArray, List.map_cons, List.map_nil]); first | done | rfl | (simp only [List.length_drop, List.length_take]; rfl)) ?_; (with_reducible refine (bS.calls a0 true _ A3.out).mono ?_); rintro e w' ⟨rfl, ⟨nd, rfl⟩⟩; refine ⟨_, rfl, ?_⟩) | ((with_reducible refine aZ (f := 136) rfl ?_); refine cH (some 10) rfl rfl Tryz.func136 (by kernel_rfl) rfl #[.string a1] rfl (by (try simp only [List.map_toArray, List.map_cons, List.map_nil]); first | done | rfl | (simp only [List.length_drop, List.length_take]; rfl)) ?_; (with_reducible refine (bS.calls a1 true _ A4.out).mono ?_); rintro e w' ⟨rfl, ⟨nd, rfl⟩⟩; refine ⟨_, rfl, ?_⟩))
   go_ret
   exact ⟨by first | rfl | (simp; done) | (simp [*]; done), by repeat (first | exact bQ.refl _ | apply bQ.step)⟩
  ·replace c6 := Bool.eq_false_iff.mpr c6
   subst c6
   have H1 : (some (-1)) = some r := by rw [if_neg (show ¬ (false = true) by decide)] at H; exact H
   clear H
   have H := H1
   clear H1
   obtain rfl := Option.some.inj H
   go_enter Tryz.func122, Tryz.ntmps122
   go_wp2_with (first | ((with_reducible refine aZ (f := 136) rfl ?_); refine cH (some 8) rfl rfl Tryz.func136 (by kernel_rfl) rfl #[.string a0] rfl (by (try simp only [List.map_toArray, List.map_cons, List.map_nil]); first | done | rfl | (simp only [List.length_drop, List.length_take]; rfl)) ?_; (with_reducible refine (bS.calls a0 true _ A3.out).mono ?_); rintro e w' ⟨rfl, ⟨nd, rfl⟩⟩; refine ⟨_, rfl, ?_⟩) | ((with_reducible refine aZ (f := 136) rfl ?_); refine cH (some 10) rfl rfl Tryz.func136 (by kernel_rfl) rfl #[.string a1] rfl (by (try simp only [List.map_toArray, List.map_cons, List.map_nil]); first | done | rfl | (simp only [List.length_drop, List.length_take]; rfl)) ?_; (with_reducible refine (bS.calls a1 false _ A4.out).mono ?_); rintro e w' ⟨rfl, ⟨nd, rfl⟩⟩; refine ⟨_, rfl, ?_⟩))
   go_ret
   exact ⟨by first | rfl | (simp; done) | (simp [*]; done), by repeat (first | exact bQ.refl _ | apply bQ.step)⟩
 ·replace c5 := Bool.eq_false_iff.mpr c5
  subst c5
  have H1 : (if t158 = true then (some 1) else (if (Op.bytesLess a0.toList a1.toList) = true then (some (-1)) else (if (Op.bytesLess a1.toList a0.toList) = true then (some 1) else (some 0)))) = some r := by rw [if_neg (show ¬ (false = true) by decide)] at H; exact H
  clear H
  have H := H1
  clear H1
  by_cases c7 : t158 = true
  ·subst c7
   have H1 : (some 1) = some r := by rw [if_pos rfl] at H; exact H
   clear H
   have H := H1
   clear H1
   obtain rfl := Option.some.inj H
   go_enter Tryz.func122, Tryz.ntmps122
   go_wp2_with (first | ((with_reducible refine aZ (f := 136) rfl ?_); refine cH (some 8) rfl rfl Tryz.func136 (by kernel_rfl) rfl #[.string a0] rfl (by (try simp only [List.map_toArray, List.map_cons, List.map_nil]); first | done | rfl | (simp only [List.length_drop, List.length_take]; rfl)) ?_; (with_reducible refine (bS.calls a0 false _ A3.out).mono ?_); rintro e w' ⟨rfl, ⟨nd, rfl⟩⟩; refine ⟨_, rfl, ?_⟩) | ((with_reducible refine aZ (f := 136) rfl ?_); refine cH (some 10) rfl rfl Tryz.func136 (by kernel_rfl) rfl #[.string a1] rfl (by (try simp only [List.map_toArray, List.map_cons, List.map_nil]); first | done | rfl | (simp only [List.length_drop, List.length_take]; rfl)) ?_; (with_reducible refine (bS.calls a1 true _ A4.out).mono ?_); rintro e w' ⟨rfl, ⟨nd, rfl⟩⟩; refine ⟨_, rfl, ?_⟩))
   go_ret
   exact ⟨by first | rfl | (simp; done) | (simp [*]; done), by repeat (first | exact bQ.refl _ | apply bQ.step)⟩
  ·replace c7 := Bool.eq_false_iff.mpr c7
   subst c7
   have H1 : (if (Op.bytesLess a0.toList a1.toList) = true then (some (-1)) else (if (Op.bytesLess a1.toList a0.toList) = true then (some 1) else (some 0))) = some r := by rw [if_neg (show ¬ (false = true) by decide)] at H; exact H
   clear H
   have H := H1
   clear H1
   by_cases c8 : (Op.bytesLess a0.toList a1.toList) = true
   ·rw [if_pos c8] at H
    have c8b0 : (Op.bytesLess a0.toList a1.toList) = true := c8
    clear c8
    obtain rfl := Option.some.inj H
    go_enter Tryz.func122, Tryz.ntmps122
    go_wp2_with (first | ((with_reducible refine aZ (f := 136) rfl ?_); refine cH (some 8) rfl rfl Tryz.func136 (by kernel_rfl) rfl #[.string a0] rfl (by (try simp only [List.map_toArray, List.map_cons, List.map_nil]); first | done | rfl | (simp only [List.length_drop, List.length_take]; rfl)) ?_; (with_reducible refine (bS.calls a0 false _ A3.out).mono ?_); rintro e w' ⟨rfl, ⟨nd, rfl⟩⟩; refine ⟨_, rfl, ?_⟩) | ((with_reducible refine aZ (f := 136) rfl ?_); refine cH (some 10) rfl rfl Tryz.func136 (by kernel_rfl) rfl #[.string a1] rfl (by (try simp only [List.map_toArray, List.map_cons, List.map_nil]); first | done | rfl | (simp only [List.length_drop, List.length_take]; rfl)) ?_; (with_reducible refine (bS.calls a1 false _ A4.out).mono ?_); rintro e w' ⟨rfl, ⟨nd, rfl⟩⟩; refine ⟨_, rfl, ?_⟩))
    go_ret
    exact ⟨by first | rfl | (simp; done) | (simp [*]; done), by repeat (first | exact bQ.refl _ | apply bQ.step)⟩
   ·rw [if_neg c8] at H
    have c8b0 : (Op.bytesLess a0.toList a1.toList) = false := by simpa using c8
    clear c8
    by_cases c9 : (Op.bytesLess a1.toList a0.toList) = true
    ·rw [if_pos c9] at H
     have c9b0 : (Op.bytesLess a1.toList a0.toList) = true := c9
     clear c9
     obtain rfl := Option.some.inj H
     go_enter Tryz.func122, Tryz.ntmps122
     go_wp2_with (first | ((with_reducible refine aZ (f := 136) rfl ?_); refine cH (some 8) rfl rfl Tryz.func136 (by kernel_rfl) rfl #[.string a0] rfl (by (try simp only [List.map_toArray, List.map_cons, List.map_nil]); first | done | rfl | (simp only [List.length_drop, List.length_take]; rfl)) ?_; (with_reducible refine (bS.calls a0 false _ A3.out).mono ?_); rintro e w' ⟨rfl, ⟨nd, rfl⟩⟩; refine ⟨_, rfl, ?_⟩) | ((with_reducible refine aZ (f := 136) rfl ?_); refine cH (some 10) rfl rfl Tryz.func136 (by kernel_rfl) rfl #[.string a1] rfl (by (try simp only [List.map_toArray, List.map_cons, List.map_nil]); first | done | rfl | (simp only [List.length_drop, List.length_take]; rfl)) ?_; (with_reducible refine (bS.calls a1 false _ A4.out).mono ?_); rintro e w' ⟨rfl, ⟨nd, rfl⟩⟩; refine ⟨_, rfl, ?_⟩))
     go_ret
     exact ⟨by first | rfl | (simp; done) | (simp [*]; done), by repeat (first | exact bQ.refl _ | apply bQ.step)⟩
    ·rw [if_neg c9] at H
     have c9b0 : (Op.bytesLess a1.toList a0.toList) = false := by simpa using c9
     clear c9
     obtain rfl := Option.some.inj H
     go_enter Tryz.func122, Tryz.ntmps122
     go_wp2_with (first | ((with_reducible refine aZ (f := 136) rfl ?_); refine cH (some 8) rfl rfl Tryz.func136 (by kernel_rfl) rfl #[.string a0] rfl (by (try simp only [List.map_toArray, List.map_cons, List.map_nil]); first | done | rfl | (simp only [List.length_drop, List.length_take]; rfl)) ?_; (with_reducible refine (bS.calls a0 false _ A3.out).mono ?_); rintro e w' ⟨rfl, ⟨nd, rfl⟩⟩; refine ⟨_, rfl, ?_⟩) | ((with_reducible refine aZ (f := 136) rfl ?_); refine cH (some 10) rfl rfl Tryz.func136 (by kernel_rfl) rfl #[.string a1] rfl (by (try simp only [List.map_toArray, List.map_cons, List.map_nil]); first | done | rfl | (simp only [List.length_drop, List.length_take]; rfl)) ?_; (with_reducible refine (bS.calls a1 false _ A4.out).mono ?_); rintro e w' ⟨rfl, ⟨nd, rfl⟩⟩; refine ⟨_, rfl, ?_⟩))
     go_ret
     exact ⟨by first | rfl | (simp; done) | (simp [*]; done), by repeat (first | exact bQ.refl _ | apply bQ.step)⟩
end Go.Proofs.YtpflmgbpjhbmnaaGreat.B
end
section
namespace Go.Proofs.YtpflmgbpjhbmnaaGreat.B
open Go.RowKit Go.Proofs.YtpflmgbpjhbmnaaGreatW.PrintWords Go.Proofs.YtpflmgbpjhbmnaaGreatW.PrintLast Go.Proofs.YtpflmgbpjhbmnaaGreatW.PrintMore
attribute [local go_sem] Go.Proofs.YtpflmgbpjhbmnaaGreat.str_gtr bZ cA cJ cK bT bU cB cC   -- for this text's walks alone
set_option linter.unusedVariables false
set_option linter.unusedSimpArgs false
def gW.f (a0_0 : Int) (a0_1 : Int) (a0_2 : ByteArray) (a1_0 : Int) (a1_1 : Int) (a1_2 : ByteArray) : Option (Int) := if a0_0 = a1_0 then (if a0_0 = 0 then ((cD.f a0_1 a1_1).bind fun t162 => (some t162)) else (if a0_0 = 1 then ((cQ.f a0_2 a1_2).bind fun t163 => (some t163)) else (some 0))) else ((cD.f a0_0 a1_0).bind fun t161 => (some t161))
set_option maxHeartbeats 8000000 in
set_option maxRecDepth 100000 in
theorem gW.calls (a0_0 : Int) (a0_1 : Int) (a0_2 : ByteArray) (a1_0 : Int) (a1_1 : Int) (a1_2 : ByteArray) (r : Int) (w : World) (h : gW.f a0_0 a0_1 a0_2 a1_0 a1_1 a1_2 = some r) :
  Calls Tryz.prog 113 #[.agg #[.int .i64 a0_0, .int .i64 a0_1, .string a0_2], .agg #[.int .i64 a1_0, .int .i64 a1_1, .string a1_2]] w fun e w' => e = .returned (.int .i64 r) ∧ Below w.heap.size w w' := by
 have hu85 := Tryz.underlying85
 have HB := aA.mk (Below.refl w.heap.size w)
 have H : (if a0_0 = a1_0 then (if a0_0 = 0 then ((cD.f a0_1 a1_1).bind fun t162 => (some t162)) else (if a0_0 = 1 then ((cQ.f a0_2 a1_2).bind fun t163 => (some t163)) else (some 0))) else ((cD.f a0_0 a1_0).bind fun t161 => (some t161))) = some r := h
 clear h
 by_cases c3 : a0_0 = a1_0
 ·rw [if_pos c3] at H
  have c3b0 : (a0_0 == a1_0) = true := beq_iff_eq.mpr c3
  have c3b1 : (a0_0 != a1_0) = false := bne_eq_false_iff_eq.mpr c3
  clear c3
  by_cases c4 : a0_0 = 0
  ·rw [if_pos c4] at H
   have c4b0 : (a0_0 == 0) = true := beq_iff_eq.mpr c4
   have c4b1 : (a0_0 != 0) = false := bne_eq_false_iff_eq.mpr c4
   clear c4
   replace H := Option.bind_eq_some_iff.mp H
   obtain ⟨t162, A50, H⟩ := H
   replace H : (some t162) = some r := H
   have A5 := aA.mk A50
   clear A50
   obtain rfl := Option.some.inj H
   go_enter Tryz.func113, Tryz.ntmps113
   go_wp2_with (first | ((with_reducible refine bK (N := 2) rfl ?_); refine bG ?hg (N := 2) ?hd (cs := #[.int .i64 a0_0, .int .i64 a0_1, .string a0_2]) (t := 85) ?hr ?_; (case hd => rfl); (case hg => rfl); (case hr => first | (go_simp; done) | (go_simp; rfl)); intro gb159 hg w6 hbox hb; have n0_ := aA.mk (aV (by repeat (first | (with_reducible first | exact HB.out | apply aC | apply pw_below_drewN | apply aD) | exact HB.out)) hb); have n1_ := aA.mk (hbox); have n2_ := aA.mk ((by rw [hg]; exact (aM (by repeat (first | (with_reducible first | exact HB.out | apply aC | apply pw_below_drewN | apply aD) | exact HB.out))) : w.heap.size ≤ gb159)); have n3_ := aA.mk ((by rw [hg]; exact (aM (by repeat (first | (with_reducible first | exact HB.out | apply aC | apply pw_below_drewN | apply aD) | exact HB.out))) : w.heap.size ≤ gb159)); clear HB; have HB := n0_; have BK159 := n1_; have GW159 := n2_; have GE159 := n3_; clear n0_ n1_ n2_ n3_; clear hb hbox hg) | ((with_reducible refine bK (N := 3) rfl ?_); refine bG ?hg (N := 3) ?hd (cs := #[.int .i64 a1_0, .int .i64 a1_1, .string a1_2]) (t := 85) ?hr ?_; (case hd => rfl); (case hg => rfl); (case hr => first | (go_simp; done) | (go_simp; rfl)); intro gb160 hg w7 hbox hb; have n0_ := aA.mk (bD (g := gb159) (o := .cells #[.int .i64 a0_0, .int .i64 a0_1, .string a0_2] 85 (0, 0)) (by (with_reducible repeat (first | refine aJ ?_ _ | refine aK ?_ | refine aI ?_ _)); exact BK159.out) hb); have n1_ := aA.mk (aV (by repeat (first | (with_reducible first | exact HB.out | apply aC | apply pw_below_drewN | apply aD | refine aG ?_ GE159.out) | exact HB.out)) hb); have n2_ := aA.mk (hbox); have n3_ := aA.mk ((by rw [hg]; exact (aM (by repeat (first | (with_reducible first | exact HB.out | apply aC | apply pw_below_drewN | apply aD | refine aG ?_ GE159.out) | exact HB.out))) : w.heap.size ≤ gb160)); have n4_ := aA.mk ((by rw [hg]; exact (aM (by repeat (first | (with_reducible first | exact HB.out | apply aC | apply pw_below_drewN | apply aD | refine aG ?_ GE159.out) | exact HB.out))) : w.heap.size ≤ gb160)); have n5_ := aA.mk ((by rw [hg]; exact Nat.ne_of_lt (blk_lt (g := gb159) (o := .cells #[.int .i64 a0_0, .int .i64 a0_1, .string a0_2] 85 (0, 0)) (by (with_reducible repeat (first | refine aJ ?_ _ | refine aK ?_ | refine aI ?_ _)); exact BK159.out)) : gb159 ≠ gb160)); have n6_ := aA.mk ((by rw [hg]; exact Nat.ne_of_gt (blk_lt (g := gb159) (o := .cells #[.int .i64 a0_0, .int .i64 a0_1, .string a0_2] 85 (0, 0)) (by (with_reducible repeat (first | refine aJ ?_ _ | refine aK ?_ | refine aI ?_ _)); exact BK159.out)) : gb160 ≠ gb159)); clear BK159; clear HB; have BK159 := n0_; have HB := n1_; have BK160 := n2_; have GW160 := n3_; have GE160 := n4_; have NB159_160 := n5_; have NB160_159 := n6_; clear n0_ n1_ n2_ n3_ n4_ n5_ n6_; clear hb hbox hg; have hnb8 := NB159_160.out; have hnc8 := NB160_159.out; have hcz9_0 : w7.cell? ⟨gb159, 0, none⟩ = some (.int .i64 a0_0) := (aE BK159.out 0).trans rfl; have hcz9_1 : w7.cell? ⟨gb159, 1, none⟩ = some (.int .i64 a0_1) := (aE BK159.out 1).trans rfl; have hcz9_2 : w7.cell? ⟨gb159, 2, none⟩ = some (.string a0_2) := (aE BK159.out 2).trans rfl; have hfz9_0 := blk_frozen BK159.out 0; have hfz9_1 := blk_frozen BK159.out 1; have hfz9_2 := blk_frozen BK159.out 2; have hcz10_0 : w7.cell? ⟨gb160, 0, none⟩ = some (.int .i64 a1_0) := (aE BK160.out 0).trans rfl; have hcz10_1 : w7.cell? ⟨gb160, 1, none⟩ = some (.int .i64 a1_1) := (aE BK160.out 1).trans rfl; have hcz10_2 : w7.cell? ⟨gb160, 2, none⟩ = some (.string a1_2) := (aE BK160.out 2).trans rfl; have hfz10_0 := blk_frozen BK160.out 0; have hfz10_1 := blk_frozen BK160.out 1; have hfz10_2 := blk_frozen BK160.out 2) | ((with_reducible refine aZ (f := 121) rfl ?_); refine cH (some 23) rfl rfl Tryz.func121 (by kernel_rfl) rfl #[.int .i64 a0_1, .int .i64 a1_1] rfl (by (try simp only [List.map_toArray, List.map_cons, List.map_nil]); first | done | rfl | (simp only [List.length_drop, List.length_take]; rfl)) ?_; (with_reducible refine (cD.calls a0_1 a1_1 t162 _ A5.out).mono ?_); rintro e w' ⟨rfl, ⟨nd, rfl⟩⟩; refine ⟨_, rfl, ?_⟩))
   go_ret
   exact ⟨by first | rfl | (simp [aN, aQ] <;> rfl) | (simp [*, aN, aQ] <;> rfl), by repeat (first | (with_reducible first | exact HB.out | apply aC | apply pw_below_drewN | apply aD | refine aG ?_ GE159.out | refine aG ?_ GE160.out) | exact HB.out)⟩
  ·rw [if_neg c4] at H
   have c4b0 : (a0_0 == 0) = false := beq_eq_false_iff_ne.mpr c4
   have c4b1 : (a0_0 != 0) = true := bne_iff_ne.mpr c4
   by_cases c11 : a0_0 = 1
   ·rw [if_pos c11] at H
    have c11b0 : (a0_0 == 1) = true := beq_iff_eq.mpr c11
    have c11b1 : (a0_0 != 1) = false := bne_eq_false_iff_eq.mpr c11
    clear c11
    replace H := Option.bind_eq_some_iff.mp H
    obtain ⟨t163, A120, H⟩ := H
    replace H : (some t163) = some r := H
    have A12 := aA.mk A120
    clear A120
    obtain rfl := Option.some.inj H
    go_enter Tryz.func113, Tryz.ntmps113
    go_wp2_with (first | ((with_reducible refine bK (N := 2) rfl ?_); refine bG ?hg (N := 2) ?hd (cs := #[.int .i64 a0_0, .int .i64 a0_1, .string a0_2]) (t := 85) ?hr ?_; (case hd => rfl); (case hg => rfl); (case hr => first | (go_simp; done) | (go_simp; rfl)); intro gb159 hg w13 hbox hb; have n0_ := aA.mk (aV (by repeat (first | (with_reducible first | exact HB.out | apply aC | apply pw_below_drewN | apply aD) | exact HB.out)) hb); have n1_ := aA.mk (hbox); have n2_ := aA.mk ((by rw [hg]; exact (aM (by repeat (first | (with_reducible first | exact HB.out | apply aC | apply pw_below_drewN | apply aD) | exact HB.out))) : w.heap.size ≤ gb159)); have n3_ := aA.mk ((by rw [hg]; exact (aM (by repeat (first | (with_reducible first | exact HB.out | apply aC | apply pw_below_drewN | apply aD) | exact HB.out))) : w.heap.size ≤ gb159)); clear HB; have HB := n0_; have BK159 := n1_; have GW159 := n2_; have GE159 := n3_; clear n0_ n1_ n2_ n3_; clear hb hbox hg) | ((with_reducible refine bK (N := 3) rfl ?_); refine bG ?hg (N := 3) ?hd (cs := #[.int .i64 a1_0, .int .i64 a1_1, .string a1_2]) (t := 85) ?hr ?_; (case hd => rfl); (case hg => rfl); (case hr => first | (go_simp; done) | (go_simp; rfl)); intro gb160 hg w14 hbox hb; have n0_ := aA.mk (bD (g := gb159) (o := .cells #[.int .i64 a0_0, .int .i64 a0_1, .string a0_2] 85 (0, 0)) (by (with_reducible repeat (first | refine aJ ?_ _ | refine aK ?_ | refine aI ?_ _)); exact BK159.out) hb); have n1_ := aA.mk (aV (by repeat (first | (with_reducible first | exact HB.out | apply aC | apply pw_below_drewN | apply aD | refine aG ?_ GE159.out) | exact HB.out)) hb); have n2_ := aA.mk (hbox); have n3_ := aA.mk ((by rw [hg]; exact (aM (by repeat (first | (with_reducible first | exact HB.out | apply aC | apply pw_below_drewN | apply aD | refine aG ?_ GE159.out) | exact HB.out))) : w.heap.size ≤ gb160)); have n4_ := aA.mk ((by rw [hg]; exact (aM (by repeat (first | (with_reducible first | exact HB.out | apply aC | apply pw_below_drewN | apply aD | refine aG ?_ GE159.out) | exact HB.out))) : w.heap.size ≤ gb160)); have n5_ := aA.mk ((by rw [hg]; exact Nat.ne_of_lt (blk_lt (g := gb159) (o := .cells #[.int .i64 a0_0, .int .i64 a0_1, .string a0_2] 85 (0, 0)) (by (with_reducible repeat (first | refine aJ ?_ _ | refine aK ?_ | refine aI ?_ _)); exact BK159.out)) : gb159 ≠ gb160)); have n6_ := aA.mk ((by rw [hg]; exact Nat.ne_of_gt (blk_lt (g := gb159) (o := .cells #[.int .i64 a0_0, .int .i64 a0_1, .string a0_2] 85 (0, 0)) (by (with_reducible repeat (first | refine aJ ?_ _ | refine aK ?_ | refine aI ?_ _)); exact BK159.out)) : gb160 ≠ gb159)); clear BK159; clear HB; have BK159 := n0_; have HB := n1_; have BK160 := n2_; have GW160 := n3_; have GE160 := n4_; have NB159_160 := n5_; have NB160_159 := n6_; clear n0_ n1_ n2_ n3_ n4_ n5_ n6_; clear hb hbox hg; have hnb15 := NB159_160.out; have hnc15 := NB160_159.out; have hcz16_0 : w14.cell? ⟨gb159, 0, none⟩ = some (.int .i64 a0_0) := (aE BK159.out 0).trans rfl; have hcz16_1 : w14.cell? ⟨gb159, 1, none⟩ = some (.int .i64 a0_1) := (aE BK159.out 1).trans rfl; have hcz16_2 : w14.cell? ⟨gb159, 2, none⟩ = some (.string a0_2) := (aE BK159.out 2).trans rfl; have hfz16_0 := blk_frozen BK159.out 0; have hfz16_1 := blk_frozen BK159.out 1; have hfz16_2 := blk_frozen BK159.out 2; have hcz17_0 : w14.cell? ⟨gb160, 0, none⟩ = some (.int .i64 a1_0) := (aE BK160.out 0).trans rfl; have hcz17_1 : w14.cell? ⟨gb160, 1, none⟩ = some (.int .i64 a1_1) := (aE BK160.out 1).trans rfl; have hcz17_2 : w14.cell? ⟨gb160, 2, none⟩ = some (.string a1_2) := (aE BK160.out 2).trans rfl; have hfz17_0 := blk_frozen BK160.out 0; have hfz17_1 := blk_frozen BK160.out 1; have hfz17_2 := blk_frozen BK160.out 2) | ((with_reducible refine aZ (f := 122) rfl ?_); refine cH (some 30) rfl rfl Tryz.func122 (by kernel_rfl) rfl #[.string a0_2, .string a1_2] rfl (by (try simp only [List.map_toArray, List.map_cons, List.map_nil]); first | done | rfl | (simp only [List.length_drop, List.length_take]; rfl)) ?_; (with_reducible refine (cQ.calls a0_2 a1_2 t163 _ A12.out).mono ?_); rintro e w' ⟨rfl, ⟨nd, rfl⟩⟩; refine ⟨_, rfl, ?_⟩))
    go_ret
    exact ⟨by first | rfl | (simp [aN, aQ] <;> rfl) | (simp [*, aN, aQ] <;> rfl), by repeat (first | (with_reducible first | exact HB.out | apply aC | apply pw_below_drewN | apply aD | refine aG ?_ GE159.out | refine aG ?_ GE160.out) | exact HB.out)⟩
   ·rw [if_neg c11] at H
    have c11b0 : (a0_0 == 1) = false := beq_eq_false_iff_ne.mpr c11
    have c11b1 : (a0_0 != 1) = true := bne_iff_ne.mpr c11
    obtain rfl := Option.some.inj H
    go_enter Tryz.func113, Tryz.ntmps113
    go_wp2_with (first | ((with_reducible refine bK (N := 2) rfl ?_); refine bG ?hg (N := 2) ?hd (cs := #[.int .i64 a0_0, .int .i64 a0_1, .string a0_2]) (t := 85) ?hr ?_; (case hd => rfl); (case hg => rfl); (case hr => first | (go_simp; done) | (go_simp; rfl)); intro gb159 hg w18 hbox hb; have n0_ := aA.mk (aV (by repeat (first | (with_reducible first | exact HB.out | apply aC | apply pw_below_drewN | apply aD) | exact HB.out)) hb); have n1_ := aA.mk (hbox); have n2_ := aA.mk ((by rw [hg]; exact (aM (by repeat (first | (with_reducible first | exact HB.out | apply aC | apply pw_below_drewN | apply aD) | exact HB.out))) : w.heap.size ≤ gb159)); have n3_ := aA.mk ((by rw [hg]; exact (aM (by repeat (first | (with_reducible first | exact HB.out | apply aC | apply pw_below_drewN | apply aD) | exact HB.out))) : w.heap.size ≤ gb159)); clear HB; have HB := n0_; have BK159 := n1_; have GW159 := n2_; have GE159 := n3_; clear n0_ n1_ n2_ n3_; clear hb hbox hg) | ((with_reducible refine bK (N := 3) rfl ?_); refine bG ?hg (N := 3) ?hd (cs := #[.int .i64 a1_0, .int .i64 a1_1, .string a1_2]) (t := 85) ?hr ?_; (case hd => rfl); (case hg => rfl); (case hr => first | (go_simp; done) | (go_simp; rfl)); intro gb160 hg w19 hbox hb; have n0_ := aA.mk (bD (g := gb159) (o := .cells #[.int .i64 a0_0, .int .i64 a0_1, .string a0_2] 85 (0, 0)) (by (with_reducible repeat (first | refine aJ ?_ _ | refine aK ?_ | refine aI ?_ _)); exact BK159.out) hb); have n1_ := aA.mk (aV (by repeat (first | (with_reducible first | exact HB.out | apply aC | apply pw_below_drewN | apply aD | refine aG ?_ GE159.out) | exact HB.out)) hb); have n2_ := aA.mk (hbox); have n3_ := aA.mk ((by rw [hg]; exact (aM (by repeat (first | (with_reducible first | exact HB.out | apply aC | apply pw_below_drewN | apply aD | refine aG ?_ GE159.out) | exact HB.out))) : w.heap.size ≤ gb160)); have n4_ := aA.mk ((by rw [hg]; exact (aM (by repeat (first | (with_reducible first | exact HB.out | apply aC | apply pw_below_drewN | apply aD | refine aG ?_ GE159.out) | exact HB.out))) : w.heap.size ≤ gb160)); have n5_ := aA.mk ((by rw [hg]; exact Nat.ne_of_lt (blk_lt (g := gb159) (o := .cells #[.int .i64 a0_0, .int .i64 a0_1, .string a0_2] 85 (0, 0)) (by (with_reducible repeat (first | refine aJ ?_ _ | refine aK ?_ | refine aI ?_ _)); exact BK159.out)) : gb159 ≠ gb160)); have n6_ := aA.mk ((by rw [hg]; exact Nat.ne_of_gt (blk_lt (g := gb159) (o := .cells #[.int .i64 a0_0, .int .i64 a0_1, .string a0_2] 85 (0, 0)) (by (with_reducible repeat (first | refine aJ ?_ _ | refine aK ?_ | refine aI ?_ _)); exact BK159.out)) : gb160 ≠ gb159)); clear BK159; clear HB; have BK159 := n0_; have HB := n1_; have BK160 := n2_; have GW160 := n3_; have GE160 := n4_; have NB159_160 := n5_; have NB160_159 := n6_; clear n0_ n1_ n2_ n3_ n4_ n5_ n6_; clear hb hbox hg; have hnb20 := NB159_160.out; have hnc20 := NB160_159.out; have hcz21_0 : w19.cell? ⟨gb159, 0, none⟩ = some (.int .i64 a0_0) := (aE BK159.out 0).trans rfl; have hcz21_1 : w19.cell? ⟨gb159, 1, none⟩ = some (.int .i64 a0_1) := (aE BK159.out 1).trans rfl; have hcz21_2 : w19.cell? ⟨gb159, 2, none⟩ = some (.string a0_2) := (aE BK159.out 2).trans rfl; have hfz21_0 := blk_frozen BK159.out 0; have hfz21_1 := blk_frozen BK159.out 1; have hfz21_2 := blk_frozen BK159.out 2; have hcz22_0 : w19.cell? ⟨gb160, 0, none⟩ = some (.int .i64 a1_0) := (aE BK160.out 0).trans rfl; have hcz22_1 : w19.cell? ⟨gb160, 1, none⟩ = some (.int .i64 a1_1) := (aE BK160.out 1).trans rfl; have hcz22_2 : w19.cell? ⟨gb160, 2, none⟩ = some (.string a1_2) := (aE BK160.out 2).trans rfl; have hfz22_0 := blk_frozen BK160.out 0; have hfz22_1 := blk_frozen BK160.out 1; have hfz22_2 := blk_frozen BK160.out 2))
    go_ret
    exact ⟨by first | rfl | (simp [aN, aQ] <;> rfl) | (simp [*, aN, aQ] <;> rfl), by repeat (first | (with_reducible first | exact HB.out | apply aC | apply pw_below_drewN | apply aD | refine aG ?_ GE159.out | refine aG ?_ GE160.out) | exact HB.out)⟩
 ·rw [if_neg c3] at H
  have c3b0 : (a0_0 == a1_0) = false := beq_eq_false_iff_ne.mpr c3
  have c3b1 : (a0_0 != a1_0) = true := bne_iff_ne.mpr c3
  replace H := Option.bind_eq_some_iff.mp H
  obtain ⟨t161, A230, H⟩ := H
  replace H : (some t161) = some r := H
  have A23 := aA.mk A230
  clear A230
  obtain rfl := Option.some.inj H
  go_enter Tryz.func113, Tryz.ntmps113
  go_wp2_with (first | ((with_reducible refine bK (N := 2) rfl ?_); refine bG ?hg (N := 2) ?hd (cs := #[.int .i64 a0_0, .int .i64 a0_1, .string a0_2]) (t := 85) ?hr ?_; (case hd => rfl); (case hg => rfl); (case hr => first | (go_simp; done) | (go_simp; rfl)); intro gb159 hg w24 hbox hb; have n0_ := aA.mk (aV (by repeat (first | (with_reducible first | exact HB.out | apply aC | apply pw_below_drewN | apply aD) | exact HB.out)) hb); have n1_ := aA.mk (hbox); have n2_ := aA.mk ((by rw [hg]; exact (aM (by repeat (first | (with_reducible first | exact HB.out | apply aC | apply pw_below_drewN | apply aD) | exact HB.out))) : w.heap.size ≤ gb159)); have n3_ := aA.mk ((by rw [hg]; exact (aM (by repeat (first | (with_reducible first | exact HB.out | apply aC | apply pw_below_drewN | apply aD) | exact HB.out))) : w.heap.size ≤ gb159)); clear HB; have HB := n0_; have BK159 := n1_; have GW159 := n2_; have GE159 := n3_; clear n0_ n1_ n2_ n3_; clear hb hbox hg) | ((with_reducible refine bK (N := 3) rfl ?_); refine bG ?hg (N := 3) ?hd (cs := #[.int .i64 a1_0, .int .i64 a1_1, .string a1_2]) (t := 85) ?hr ?_; (case hd => rfl); (case hg => rfl); (case hr => first | (go_simp; done) | (go_simp; rfl)); intro gb160 hg w25 hbox hb; have n0_ := aA.mk (bD (g := gb159) (o := .cells #[.int .i64 a0_0, .int .i64 a0_1, .string a0_2] 85 (0, 0)) (by (with_reducible repeat (first | refine aJ ?_ _ | refine aK ?_ | refine aI ?_ _)); exact BK159.out) hb); have n1_ := aA.mk (aV (by repeat (first | (with_reducible first | exact HB.out | apply aC | apply pw_below_drewN | apply aD | refine aG ?_ GE159.out) | exact HB.out)) hb); have n2_ := aA.mk (hbox); have n3_ := aA.mk ((by rw [hg]; exact (aM (by repeat (first | (with_reducible first | exact HB.out | apply aC | apply pw_below_drewN | apply aD | refine aG ?_ GE159.out) | exact HB.out))) : w.heap.size ≤ gb160)); have n4_ := aA.mk ((by rw [hg]; exact (aM (by repeat (first | (with_reducible first | exact HB.out | apply aC | apply pw_below_drewN | apply aD | refine aG ?_ GE159.out) | exact HB.out))) : w.heap.size ≤ gb160)); have n5_ := aA.mk ((by rw [hg]; exact Nat.ne_of_lt (blk_lt (g := gb159) (o := .cells #[.int .i64 a0_0, .int .i64 a0_1, .string a0_2] 85 (0, 0)) (by (with_reducible repeat (first | refine aJ ?_ _ | refine aK ?_ | refine aI ?_ _)); exact BK159.out)) : gb159 ≠ gb160)); have n6_ := aA.mk ((by rw [hg]; exact Nat.ne_of_gt (blk_lt (g := gb159) (o := .cells #[.int .i64 a0_0, .int .i64 a0_1, .string a0_2] 85 (0, 0)) (by (with_reducible repeat (first | refine aJ ?_ _ | refine aK ?_ | refine aI ?_ _)); exact BK159.out)) : gb160 ≠ gb159)); clear BK159; clear HB; have BK159 := n0_; have HB := n1_; have BK160 := n2_; have GW160 := n3_; have GE160 := n4_; have NB159_160 := n5_; have NB160_159 := n6_; clear n0_ n1_ n2_ n3_ n4_ n5_ n6_; clear hb hbox hg; have hnb26 := NB159_160.out; have hnc26 := NB160_159.out; have hcz27_0 : w25.cell? ⟨gb159, 0, none⟩ = some (.int .i64 a0_0) := (aE BK159.out 0).trans rfl; have hcz27_1 : w25.cell? ⟨gb159, 1, none⟩ = some (.int .i64 a0_1) := (aE BK159.out 1).trans rfl; have hcz27_2 : w25.cell? ⟨gb159, 2, none⟩ = some (.string a0_2) := (aE BK159.out 2).trans rfl; have hfz27_0 := blk_frozen BK159.out 0; have hfz27_1 := blk_frozen BK159.out 1; have hfz27_2 := blk_frozen BK159.out 2; have hcz28_0 : w25.cell? ⟨gb160, 0, none⟩ = some (.int .i64 a1_0) := (aE BK160.out 0).trans rfl; have hcz28_1 : w25.cell? ⟨gb160, 1, none⟩ = some (.int .i64 a1_1) := (aE BK160.out 1).trans rfl; have hcz28_2 : w25.cell? ⟨gb160, 2, none⟩ = some (.string a1_2) := (aE BK160.out 2).trans rfl; have hfz28_0 := blk_frozen BK160.out 0; have hfz28_1 := blk_frozen BK160.out 1; have hfz28_2 := blk_frozen BK160.out 2) | ((with_reducible refine aZ (f := 121) rfl ?_); refine cH (some 14) rfl rfl Tryz.func121 (by kernel_rfl) rfl #[.int .i64 a0_0, .int .i64 a1_0] rfl (by (try simp only [List.map_toArray, List.map_cons, List.map_nil]); first | done | rfl | (simp only [List.length_drop, List.length_take]; rfl)) ?_; (with_reducible refine (cD.calls a0_0 a1_0 t161 _ A23.out).mono ?_); rintro e w' ⟨rfl, ⟨nd, rfl⟩⟩; refine ⟨_, rfl, ?_⟩))
  go_ret
  exact ⟨by first | rfl | (simp [aN, aQ] <;> rfl) | (simp [*, aN, aQ] <;> rfl), by repeat (first | (with_reducible first | exact HB.out | apply aC | apply pw_below_drewN | apply aD | refine aG ?_ GE159.out | refine aG ?_ GE160.out) | exact HB.out)⟩
end Go.Proofs.YtpflmgbpjhbmnaaGreat.B
end
section
namespace Go.Proofs.YtpflmgbpjhbmnaaGreat.B
open Go.RowKit Go.Proofs.YtpflmgbpjhbmnaaGreatW.PrintWords Go.Proofs.YtpflmgbpjhbmnaaGreatW.PrintLast Go.Proofs.YtpflmgbpjhbmnaaGreatW.PrintMore
attribute [local go_sem] Go.Proofs.YtpflmgbpjhbmnaaGreat.str_gtr bZ cA cJ cK bT bU cB cC   -- for this text's walks alone
set_option linter.unusedVariables false
set_option linter.unusedSimpArgs false
def aY.j0 : Nat → Bool → Int → Int → ByteArray → Int → Int → ByteArray → Option (Int)
 | 0, _, _, _, _, _, _, _ => none
 | k + 1, x40, x295000, x295001, x295002, x296000, x296001, x296002 => if x40 = true then (some (-1)) else (if x295000 > x296000 then (some 1) else (if x295000 = x296000 then (if x295000 = 0 then (if x295001 > x296001 then (some 1) else (if x295000 = 1 then (if (Op.bytesLess x296002.toList x295002.toList) = true then (some 1) else (some 0)) else (some 0))) else (if x295000 = 1 then (if (Op.bytesLess x296002.toList x295002.toList) = true then (some 1) else (some 0)) else (some 0))) else (some 0)))
def aY.f (k : Nat) (a0_0 : Int) (a0_1 : Int) (a0_2 : ByteArray) (a1_0 : Int) (a1_1 : Int) (a1_2 : ByteArray) : Option (Int) := if a0_0 < a1_0 then (aY.j0 k true a0_0 a0_1 a0_2 a1_0 a1_1 a1_2) else (if a0_0 = a1_0 then (if a0_0 = 0 then (if a0_1 < a1_1 then (aY.j0 k true a0_0 a0_1 a0_2 a1_0 a1_1 a1_2) else (if a0_0 = 1 then (aY.j0 k (Op.bytesLess a0_2.toList a1_2.toList) a0_0 a0_1 a0_2 a1_0 a1_1 a1_2) else (aY.j0 k false a0_0 a0_1 a0_2 a1_0 a1_1 a1_2))) else (if a0_0 = 1 then (aY.j0 k (Op.bytesLess a0_2.toList a1_2.toList) a0_0 a0_1 a0_2 a1_0 a1_1 a1_2) else (aY.j0 k false a0_0 a0_1 a0_2 a1_0 a1_1 a1_2))) else (aY.j0 k false a0_0 a0_1 a0_2 a1_0 a1_1 a1_2))
theorem aY.mono_l : ∀ k, (∀ y0 y1 y2 y3 y4 y5 y6, LeO (aY.j0 k y0 y1 y2 y3 y4 y5 y6) (aY.j0 (k + 1) y0 y1 y2 y3 y4 y5 y6))
 | 0 => fun _ _ _ _ _ _ _ r h => by simp [aY.j0] at h
 | k + 1 => by
  have ih0 := aY.mono_l k
  ·intro y0 y1 y2 y3 y4 y5 y6
   unfold aY.j0
   repeat' first
   | (with_reducible exact ih0 _ _ _ _ _ _ _)
   | (with_reducible exact LeO.refl _)
   | (with_reducible exact LeO.none _)
   | (with_reducible refine LeO.ite ?_ ?_)
   | (with_reducible refine LeO.bind ?_ (fun _ => ?_))
   | exact ih0 _ _ _ _ _ _ _
   | exact LeO.none _
   | refine LeO.ite ?_ ?_
   | refine LeO.bind ?_ (fun _ => ?_)
theorem aY.mono : ∀ a0 a1 a2 a3 a4 a5 k, LeO (aY.f k a0 a1 a2 a3 a4 a5) (aY.f (k + 1) a0 a1 a2 a3 a4 a5) := by
 intro a0 a1 a2 a3 a4 a5 k
 have ih0 := aY.mono_l k
 unfold aY.f
 repeat' first
   | (with_reducible exact ih0 _ _ _ _ _ _ _)
   | (with_reducible exact LeO.refl _)
   | (with_reducible exact LeO.none _)
   | (with_reducible refine LeO.ite ?_ ?_)
   | (with_reducible refine LeO.bind ?_ (fun _ => ?_))
   | exact ih0 _ _ _ _ _ _ _
   | exact LeO.none _
   | refine LeO.ite ?_ ?_
   | refine LeO.bind ?_ (fun _ => ?_)
set_option maxHeartbeats 8000000 in
set_option maxRecDepth 100000 in
theorem aY.calls (k : Nat) (a0_0 : Int) (a0_1 : Int) (a0_2 : ByteArray) (a1_0 : Int) (a1_1 : Int) (a1_2 : ByteArray) (r : Int) (w : World) (h : aY.f k a0_0 a0_1 a0_2 a1_0 a1_1 a1_2 = some r) :
  Calls Tryz.prog 69 #[.agg #[.int .i64 a0_0, .int .i64 a0_1, .string a0_2], .agg #[.int .i64 a1_0, .int .i64 a1_1, .string a1_2]] w fun e w' => e = .returned (.int .i64 r) ∧ Below w.heap.size w w' := by
 have hu85 := Tryz.underlying85
 have HB := aA.mk (Below.refl w.heap.size w)
 have H : (if a0_0 < a1_0 then (aY.j0 k true a0_0 a0_1 a0_2 a1_0 a1_1 a1_2) else (if a0_0 = a1_0 then (if a0_0 = 0 then (if a0_1 < a1_1 then (aY.j0 k true a0_0 a0_1 a0_2 a1_0 a1_1 a1_2) else (if a0_0 = 1 then (aY.j0 k (Op.bytesLess a0_2.toList a1_2.toList) a0_0 a0_1 a0_2 a1_0 a1_1 a1_2) else (aY.j0 k false a0_0 a0_1 a0_2 a1_0 a1_1 a1_2))) else (if a0_0 = 1 then (aY.j0 k (Op.bytesLess a0_2.toList a1_2.toList) a0_0 a0_1 a0_2 a1_0 a1_1 a1_2) else (aY.j0 k false a0_0 a0_1 a0_2 a1_0 a1_1 a1_2))) else (aY.j0 k false a0_0 a0_1 a0_2 a1_0 a1_1 a1_2))) = some r := h
 clear h
 have HC3 := aA.mk H
 clear H
 go_enter Tryz.func69, Tryz.ntmps69
 go_upto_region 1 with (first | ((with_reducible refine bK (N := 2) rfl ?_); refine bG ?hg (N := 2) ?hd (cs := #[.int .i64 a0_0, .int .i64 a0_1, .string a0_2]) (t := 85) ?hr ?_; (case hd => rfl); (case hg => rfl); (case hr => first | (go_simp; done) | (go_simp; rfl)); intro gb294 hg w4 hbox hb; have n0_ := aA.mk (aV (by repeat (first | (with_reducible first | exact HB.out | apply aC | apply pw_below_drewN | apply aD) | exact HB.out)) hb); have n1_ := aA.mk (hbox); have n2_ := aA.mk ((by rw [hg]; exact (aM (by repeat (first | (with_reducible first | exact HB.out | apply aC | apply pw_below_drewN | apply aD) | exact HB.out))) : w.heap.size ≤ gb294)); have n3_ := aA.mk ((by rw [hg]; exact (aM (by repeat (first | (with_reducible first | exact HB.out | apply aC | apply pw_below_drewN | apply aD) | exact HB.out))) : w.heap.size ≤ gb294)); clear HB; have HB := n0_; have BK294 := n1_; have GW294 := n2_; have GE294 := n3_; clear n0_ n1_ n2_ n3_; clear hb hbox hg) | ((with_reducible refine bK (N := 3) rfl ?_); refine bG ?hg (N := 3) ?hd (cs := #[.int .i64 a1_0, .int .i64 a1_1, .string a1_2]) (t := 85) ?hr ?_; (case hd => rfl); (case hg => rfl); (case hr => first | (go_simp; done) | (go_simp; rfl)); intro gb295 hg w5 hbox hb; have n0_ := aA.mk (bD (g := gb294) (o := .cells #[.int .i64 a0_0, .int .i64 a0_1, .string a0_2] 85 (0, 0)) (by (with_reducible repeat (first | refine aJ ?_ _ | refine aK ?_ | refine aI ?_ _)); exact BK294.out) hb); have n1_ := aA.mk (aV (by repeat (first | (with_reducible first | exact HB.out | apply aC | apply pw_below_drewN | apply aD | refine aG ?_ GE294.out) | exact HB.out)) hb); have n2_ := aA.mk (hbox); have n3_ := aA.mk ((by rw [hg]; exact (aM (by repeat (first | (with_reducible first | exact HB.out | apply aC | apply pw_below_drewN | apply aD | refine aG ?_ GE294.out) | exact HB.out))) : w.heap.size ≤ gb295)); have n4_ := aA.mk ((by rw [hg]; exact (aM (by repeat (first | (with_reducible first | exact HB.out | apply aC | apply pw_below_drewN | apply aD | refine aG ?_ GE294.out) | exact HB.out))) : w.heap.size ≤ gb295)); have n5_ := aA.mk ((by rw [hg]; exact Nat.ne_of_lt (blk_lt (g := gb294) (o := .cells #[.int .i64 a0_0, .int .i64 a0_1, .string a0_2] 85 (0, 0)) (by (with_reducible repeat (first | refine aJ ?_ _ | refine aK ?_ | refine aI ?_ _)); exact BK294.out)) : gb294 ≠ gb295)); have n6_ := aA.mk ((by rw [hg]; exact Nat.ne_of_gt (blk_lt (g := gb294) (o := .cells #[.int .i64 a0_0, .int .i64 a0_1, .string a0_2] 85 (0, 0)) (by (with_reducible repeat (first | refine aJ ?_ _ | refine aK ?_ | refine aI ?_ _)); exact BK294.out)) : gb295 ≠ gb294)); clear BK294; clear HB; have BK294 := n0_; have HB := n1_; have BK295 := n2_; have GW295 := n3_; have GE295 := n4_; have NB294_295 := n5_; have NB295_294 := n6_; clear n0_ n1_ n2_ n3_ n4_ n5_ n6_; clear hb hbox hg))
 (try simp only [Act.put, List.setIfInBounds_toArray, List.set_cons_zero, List.set_cons_succ])
 go_cut [40] (fun v40 wc => ∃ (kq : Nat) (x40_2 : Bool), v40 = .bool x40_2 ∧ aA (aY.j0 kq x40_2 a0_0 a0_1 a0_2 a1_0 a1_1 a1_2 = some r) ∧ aA (kq ≤ k) ∧ aA (wc.heap[gb294]? = some (.cells #[.int .i64 a0_0, .int .i64 a0_1, .string a0_2] 85 (0, 0))) ∧ aA (wc.heap[gb295]? = some (.cells #[.int .i64 a1_0, .int .i64 a1_1, .string a1_2] 85 (0, 0))) ∧ aA (Below w.heap.size w wc))
 case first =>
  have H := HC3.out
  clear HC3
  by_cases c6 : a0_0 < a1_0
  ·rw [if_pos c6] at H
   have c6b0 : decide (a0_0 < a1_0) = true := decide_eq_true c6
   clear c6
   (first | rw [c6b0] | (simp only [cN, cO]; rw [c6b0]) | skip)
   have H' := aA.mk H
   clear H
   have hnb7 := NB294_295.out
   have hnc7 := NB295_294.out
   have hcz8_0 : w5.cell? ⟨gb294, 0, none⟩ = some (.int .i64 a0_0) := (aE BK294.out 0).trans rfl
   have hcz8_1 : w5.cell? ⟨gb294, 1, none⟩ = some (.int .i64 a0_1) := (aE BK294.out 1).trans rfl
   have hcz8_2 : w5.cell? ⟨gb294, 2, none⟩ = some (.string a0_2) := (aE BK294.out 2).trans rfl
   have hfz8_0 := blk_frozen BK294.out 0
   have hfz8_1 := blk_frozen BK294.out 1
   have hfz8_2 := blk_frozen BK294.out 2
   have hcz9_0 : w5.cell? ⟨gb295, 0, none⟩ = some (.int .i64 a1_0) := (aE BK295.out 0).trans rfl
   have hcz9_1 : w5.cell? ⟨gb295, 1, none⟩ = some (.int .i64 a1_1) := (aE BK295.out 1).trans rfl
   have hcz9_2 : w5.cell? ⟨gb295, 2, none⟩ = some (.string a1_2) := (aE BK295.out 2).trans rfl
   have hfz9_0 := blk_frozen BK295.out 0
   have hfz9_1 := blk_frozen BK295.out 1
   have hfz9_2 := blk_frozen BK295.out 2
   go_wp2
   go_meet
   case rel => exact ⟨_, (true), (by first | rfl | (simp; done) | (simp [*]; done)), H', ⟨by first | omega | exact Nat.le_refl _⟩, ⟨by (with_reducible repeat (first | refine aJ ?_ _ | refine aK ?_ | refine aI ?_ _)); exact BK294.out⟩, ⟨by (with_reducible repeat (first | refine aJ ?_ _ | refine aK ?_ | refine aI ?_ _)); exact BK295.out⟩, ⟨by repeat (first | (with_reducible first | exact HB.out | apply aC | apply pw_below_drewN | apply aD | refine aG ?_ GE294.out | refine aG ?_ GE295.out) | exact HB.out)⟩⟩
  ·rw [if_neg c6] at H
   have c6b0 : decide (a0_0 < a1_0) = false := decide_eq_false c6
   clear c6
   (first | rw [c6b0] | (simp only [cN, cO]; rw [c6b0]) | skip)
   by_cases c10 : a0_0 = a1_0
   ·rw [if_pos c10] at H
    have c10b0 : (a0_0 == a1_0) = true := beq_iff_eq.mpr c10
    have c10b1 : (a0_0 != a1_0) = false := bne_eq_false_iff_eq.mpr c10
    clear c10
    by_cases c11 : a0_0 = 0
    ·rw [if_pos c11] at H
     have c11b0 : (a0_0 == 0) = true := beq_iff_eq.mpr c11
     have c11b1 : (a0_0 != 0) = false := bne_eq_false_iff_eq.mpr c11
     clear c11
     by_cases c12 : a0_1 < a1_1
     ·rw [if_pos c12] at H
      have c12b0 : decide (a0_1 < a1_1) = true := decide_eq_true c12
      clear c12
      have H' := aA.mk H
      clear H
      have hnb13 := NB294_295.out
      have hnc13 := NB295_294.out
      have hcz14_0 : w5.cell? ⟨gb294, 0, none⟩ = some (.int .i64 a0_0) := (aE BK294.out 0).trans rfl
      have hcz14_1 : w5.cell? ⟨gb294, 1, none⟩ = some (.int .i64 a0_1) := (aE BK294.out 1).trans rfl
      have hcz14_2 : w5.cell? ⟨gb294, 2, none⟩ = some (.string a0_2) := (aE BK294.out 2).trans rfl
      have hfz14_0 := blk_frozen BK294.out 0
      have hfz14_1 := blk_frozen BK294.out 1
      have hfz14_2 := blk_frozen BK294.out 2
      have hcz15_0 : w5.cell? ⟨gb295, 0, none⟩ = some (.int .i64 a1_0) := (aE BK295.out 0).trans rfl
      have hcz15_1 : w5.cell? ⟨gb295, 1, none⟩ = some (.int .i64 a1_1) := (aE BK295.out 1).trans rfl
      have hcz15_2 : w5.cell? ⟨gb295, 2, none⟩ = some (.string a1_2) := (aE BK295.out 2).trans rfl
      have hfz15_0 := blk_frozen BK295.out 0
      have hfz15_1 := blk_frozen BK295.out 1
      have hfz15_2 := blk_frozen BK295.out 2
      go_wp2
      go_meet
      case rel => exact ⟨_, (true), (by first | rfl | (simp; done) | (simp [*]; done)), H', ⟨by first | omega | exact Nat.le_refl _⟩, ⟨by (with_reducible repeat (first | refine aJ ?_ _ | refine aK ?_ | refine aI ?_ _)); exact BK294.out⟩, ⟨by (with_reducible repeat (first | refine aJ ?_ _ | refine aK ?_ | refine aI ?_ _)); exact BK295.out⟩, ⟨by repeat (first | (with_reducible first | exact HB.out | apply aC | apply pw_below_drewN | apply aD | refine aG ?_ GE294.out | refine aG ?_ GE295.out) | exact HB.out)⟩⟩
     ·rw [if_neg c12] at H
      have c12b0 : decide (a0_1 < a1_1) = false := decide_eq_false c12
      clear c12
      by_cases c16 : a0_0 = 1
      ·rw [if_pos c16] at H
       have c16b0 : (a0_0 == 1) = true := beq_iff_eq.mpr c16
       have c16b1 : (a0_0 != 1) = false := bne_eq_false_iff_eq.mpr c16
       clear c16
       have H' := aA.mk H
       clear H
       have hnb17 := NB294_295.out
       have hnc17 := NB295_294.out
       have hcz18_0 : w5.cell? ⟨gb294, 0, none⟩ = some (.int .i64 a0_0) := (aE BK294.out 0).trans rfl
       have hcz18_1 : w5.cell? ⟨gb294, 1, none⟩ = some (.int .i64 a0_1) := (aE BK294.out 1).trans rfl
       have hcz18_2 : w5.cell? ⟨gb294, 2, none⟩ = some (.string a0_2) := (aE BK294.out 2).trans rfl
       have hfz18_0 := blk_frozen BK294.out 0
       have hfz18_1 := blk_frozen BK294.out 1
       have hfz18_2 := blk_frozen BK294.out 2
       have hcz19_0 : w5.cell? ⟨gb295, 0, none⟩ = some (.int .i64 a1_0) := (aE BK295.out 0).trans rfl
       have hcz19_1 : w5.cell? ⟨gb295, 1, none⟩ = some (.int .i64 a1_1) := (aE BK295.out 1).trans rfl
       have hcz19_2 : w5.cell? ⟨gb295, 2, none⟩ = some (.string a1_2) := (aE BK295.out 2).trans rfl
       have hfz19_0 := blk_frozen BK295.out 0
       have hfz19_1 := blk_frozen BK295.out 1
       have hfz19_2 := blk_frozen BK295.out 2
       go_wp2
       go_meet
       case rel => exact ⟨_, ((Op.bytesLess a0_2.toList a1_2.toList)), (by first | rfl | (simp; done) | (simp [*]; done)), H', ⟨by first | omega | exact Nat.le_refl _⟩, ⟨by (with_reducible repeat (first | refine aJ ?_ _ | refine aK ?_ | refine aI ?_ _)); exact BK294.out⟩, ⟨by (with_reducible repeat (first | refine aJ ?_ _ | refine aK ?_ | refine aI ?_ _)); exact BK295.out⟩, ⟨by repeat (first | (with_reducible first | exact HB.out | apply aC | apply pw_below_drewN | apply aD | refine aG ?_ GE294.out | refine aG ?_ GE295.out) | exact HB.out)⟩⟩
      ·rw [if_neg c16] at H
       have c16b0 : (a0_0 == 1) = false := beq_eq_false_iff_ne.mpr c16
       have c16b1 : (a0_0 != 1) = true := bne_iff_ne.mpr c16
       have H' := aA.mk H
       clear H
       have hnb20 := NB294_295.out
       have hnc20 := NB295_294.out
       have hcz21_0 : w5.cell? ⟨gb294, 0, none⟩ = some (.int .i64 a0_0) := (aE BK294.out 0).trans rfl
       have hcz21_1 : w5.cell? ⟨gb294, 1, none⟩ = some (.int .i64 a0_1) := (aE BK294.out 1).trans rfl
       have hcz21_2 : w5.cell? ⟨gb294, 2, none⟩ = some (.string a0_2) := (aE BK294.out 2).trans rfl
       have hfz21_0 := blk_frozen BK294.out 0
       have hfz21_1 := blk_frozen BK294.out 1
       have hfz21_2 := blk_frozen BK294.out 2
       have hcz22_0 : w5.cell? ⟨gb295, 0, none⟩ = some (.int .i64 a1_0) := (aE BK295.out 0).trans rfl
       have hcz22_1 : w5.cell? ⟨gb295, 1, none⟩ = some (.int .i64 a1_1) := (aE BK295.out 1).trans rfl
       have hcz22_2 : w5.cell? ⟨gb295, 2, none⟩ = some (.string a1_2) := (aE BK295.out 2).trans rfl
       have hfz22_0 := blk_frozen BK295.out 0
       have hfz22_1 := blk_frozen BK295.out 1
       have hfz22_2 := blk_frozen BK295.out 2
       go_wp2
       go_meet
       case rel => exact ⟨_, (false), (by first | rfl | (simp; done) | (simp [*]; done)), H', ⟨by first | omega | exact Nat.le_refl _⟩, ⟨by (with_reducible repeat (first | refine aJ ?_ _ | refine aK ?_ | refine aI ?_ _)); exact BK294.out⟩, ⟨by (with_reducible repeat (first | refine aJ ?_ _ | refine aK ?_ | refine aI ?_ _)); exact BK295.out⟩, ⟨by repeat (first | (with_reducible first | exact HB.out | apply aC | apply pw_below_drewN | apply aD | refine aG ?_ GE294.out | refine aG ?_ GE295.out) | exact HB.out)⟩⟩
    ·rw [if_neg c11] at H
     have c11b0 : (a0_0 == 0) = false := beq_eq_false_iff_ne.mpr c11
     have c11b1 : (a0_0 != 0) = true := bne_iff_ne.mpr c11
     by_cases c23 : a0_0 = 1
     ·rw [if_pos c23] at H
      have c23b0 : (a0_0 == 1) = true := beq_iff_eq.mpr c23
      have c23b1 : (a0_0 != 1) = false := bne_eq_false_iff_eq.mpr c23
      clear c23
      have H' := aA.mk H
      clear H
      have hnb24 := NB294_295.out
      have hnc24 := NB295_294.out
      have hcz25_0 : w5.cell? ⟨gb294, 0, none⟩ = some (.int .i64 a0_0) := (aE BK294.out 0).trans rfl
      have hcz25_1 : w5.cell? ⟨gb294, 1, none⟩ = some (.int .i64 a0_1) := (aE BK294.out 1).trans rfl
      have hcz25_2 : w5.cell? ⟨gb294, 2, none⟩ = some (.string a0_2) := (aE BK294.out 2).trans rfl
      have hfz25_0 := blk_frozen BK294.out 0
      have hfz25_1 := blk_frozen BK294.out 1
      have hfz25_2 := blk_frozen BK294.out 2
      have hcz26_0 : w5.cell? ⟨gb295, 0, none⟩ = some (.int .i64 a1_0) := (aE BK295.out 0).trans rfl
      have hcz26_1 : w5.cell? ⟨gb295, 1, none⟩ = some (.int .i64 a1_1) := (aE BK295.out 1).trans rfl
      have hcz26_2 : w5.cell? ⟨gb295, 2, none⟩ = some (.string a1_2) := (aE BK295.out 2).trans rfl
      have hfz26_0 := blk_frozen BK295.out 0
      have hfz26_1 := blk_frozen BK295.out 1
      have hfz26_2 := blk_frozen BK295.out 2
      go_wp2
      go_meet
      case rel => exact ⟨_, ((Op.bytesLess a0_2.toList a1_2.toList)), (by first | rfl | (simp; done) | (simp [*]; done)), H', ⟨by first | omega | exact Nat.le_refl _⟩, ⟨by (with_reducible repeat (first | refine aJ ?_ _ | refine aK ?_ | refine aI ?_ _)); exact BK294.out⟩, ⟨by (with_reducible repeat (first | refine aJ ?_ _ | refine aK ?_ | refine aI ?_ _)); exact BK295.out⟩, ⟨by repeat (first | (with_reducible first | exact HB.out | apply aC | apply pw_below_drewN | apply aD | refine aG ?_ GE294.out | refine aG ?_ GE295.out) | exact HB.out)⟩⟩
     ·rw [if_neg c23] at H
      have c23b0 : (a0_0 == 1) = false := beq_eq_false_iff_ne.mpr c23
      have c23b1 : (a0_0 != 1) = true := bne_iff_ne.mpr c23
      have H' := aA.mk H
      clear H
      have hnb27 := NB294_295.out
      have hnc27 := NB295_294.out
      have hcz28_0 : w5.cell? ⟨gb294, 0, none⟩ = some (.int .i64 a0_0) := (aE BK294.out 0).trans rfl
      have hcz28_1 : w5.cell? ⟨gb294, 1, none⟩ = some (.int .i64 a0_1) := (aE BK294.out 1).trans rfl
      have hcz28_2 : w5.cell? ⟨gb294, 2, none⟩ = some (.string a0_2) := (aE BK294.out 2).trans rfl
      have hfz28_0 := blk_frozen BK294.out 0
      have hfz28_1 := blk_frozen BK294.out 1
      have hfz28_2 := blk_frozen BK294.out 2
      have hcz29_0 : w5.cell? ⟨gb295, 0, none⟩ = some (.int .i64 a1_0) := (aE BK295.out 0).trans rfl
      have hcz29_1 : w5.cell? ⟨gb295, 1, none⟩ = some (.int .i64 a1_1) := (aE BK295.out 1).trans rfl
      have hcz29_2 : w5.cell? ⟨gb295, 2, none⟩ = some (.string a1_2) := (aE BK295.out 2).trans rfl
      have hfz29_0 := blk_frozen BK295.out 0
      have hfz29_1 := blk_frozen BK295.out 1
      have hfz29_2 := blk_frozen BK295.out 2
      go_wp2
      go_meet
      case rel => exact ⟨_, (false), (by first | rfl | (simp; done) | (simp [*]; done)), H', ⟨by first | omega | exact Nat.le_refl _⟩, ⟨by (with_reducible repeat (first | refine aJ ?_ _ | refine aK ?_ | refine aI ?_ _)); exact BK294.out⟩, ⟨by (with_reducible repeat (first | refine aJ ?_ _ | refine aK ?_ | refine aI ?_ _)); exact BK295.out⟩, ⟨by repeat (first | (with_reducible first | exact HB.out | apply aC | apply pw_below_drewN | apply aD | refine aG ?_ GE294.out | refine aG ?_ GE295.out) | exact HB.out)⟩⟩
   ·rw [if_neg c10] at H
    have c10b0 : (a0_0 == a1_0) = false := beq_eq_false_iff_ne.mpr c10
    have c10b1 : (a0_0 != a1_0) = true := bne_iff_ne.mpr c10
    have H' := aA.mk H
    clear H
    have hnb30 := NB294_295.out
    have hnc30 := NB295_294.out
    have hcz31_0 : w5.cell? ⟨gb294, 0, none⟩ = some (.int .i64 a0_0) := (aE BK294.out 0).trans rfl
    have hcz31_1 : w5.cell? ⟨gb294, 1, none⟩ = some (.int .i64 a0_1) := (aE BK294.out 1).trans rfl
    have hcz31_2 : w5.cell? ⟨gb294, 2, none⟩ = some (.string a0_2) := (aE BK294.out 2).trans rfl
    have hfz31_0 := blk_frozen BK294.out 0
    have hfz31_1 := blk_frozen BK294.out 1
    have hfz31_2 := blk_frozen BK294.out 2
    have hcz32_0 : w5.cell? ⟨gb295, 0, none⟩ = some (.int .i64 a1_0) := (aE BK295.out 0).trans rfl
    have hcz32_1 : w5.cell? ⟨gb295, 1, none⟩ = some (.int .i64 a1_1) := (aE BK295.out 1).trans rfl
    have hcz32_2 : w5.cell? ⟨gb295, 2, none⟩ = some (.string a1_2) := (aE BK295.out 2).trans rfl
    have hfz32_0 := blk_frozen BK295.out 0
    have hfz32_1 := blk_frozen BK295.out 1
    have hfz32_2 := blk_frozen BK295.out 2
    go_wp2
    go_meet
    case rel => exact ⟨_, (false), (by first | rfl | (simp; done) | (simp [*]; done)), H', ⟨by first | omega | exact Nat.le_refl _⟩, ⟨by (with_reducible repeat (first | refine aJ ?_ _ | refine aK ?_ | refine aI ?_ _)); exact BK294.out⟩, ⟨by (with_reducible repeat (first | refine aJ ?_ _ | refine aK ?_ | refine aI ?_ _)); exact BK295.out⟩, ⟨by repeat (first | (with_reducible first | exact HB.out | apply aC | apply pw_below_drewN | apply aD | refine aG ?_ GE294.out | refine aG ?_ GE295.out) | exact HB.out)⟩⟩
 case rest =>
  clear HC3
  try clear c1
  try clear c2
  try clear p2
  try clear c3
  try clear c6
  try clear c6b0
  try clear c7
  try clear c10
  try clear c10b0
  try clear c10b1
  try clear c11
  try clear c11b0
  try clear c11b1
  try clear c12
  try clear c12b0
  try clear c13
  try clear c16
  try clear c16b0
  try clear c16b1
  try clear c17
  try clear c20
  try clear c23
  try clear c23b0
  try clear c23b1
  try clear c24
  try clear c27
  try clear c30
  try clear hcz14_0
  try clear hcz14_1
  try clear hcz14_2
  try clear hcz15_0
  try clear hcz15_1
  try clear hcz15_2
  try clear hcz18_0
  try clear hcz18_1
  try clear hcz18_2
  try clear hcz19_0
  try clear hcz19_1
  try clear hcz19_2
  try clear hcz21_0
  try clear hcz21_1
  try clear hcz21_2
  try clear hcz22_0
  try clear hcz22_1
  try clear hcz22_2
  try clear hcz25_0
  try clear hcz25_1
  try clear hcz25_2
  try clear hcz26_0
  try clear hcz26_1
  try clear hcz26_2
  try clear hcz28_0
  try clear hcz28_1
  try clear hcz28_2
  try clear hcz29_0
  try clear hcz29_1
  try clear hcz29_2
  try clear hcz31_0
  try clear hcz31_1
  try clear hcz31_2
  try clear hcz32_0
  try clear hcz32_1
  try clear hcz32_2
  try clear hcz8_0
  try clear hcz8_1
  try clear hcz8_2
  try clear hcz9_0
  try clear hcz9_1
  try clear hcz9_2
  try clear hfz14_0
  try clear hfz14_1
  try clear hfz14_2
  try clear hfz15_0
  try clear hfz15_1
  try clear hfz15_2
  try clear hfz18_0
  try clear hfz18_1
  try clear hfz18_2
  try clear hfz19_0
  try clear hfz19_1
  try clear hfz19_2
  try clear hfz21_0
  try clear hfz21_1
  try clear hfz21_2
  try clear hfz22_0
  try clear hfz22_1
  try clear hfz22_2
  try clear hfz25_0
  try clear hfz25_1
  try clear hfz25_2
  try clear hfz26_0
  try clear hfz26_1
  try clear hfz26_2
  try clear hfz28_0
  try clear hfz28_1
  try clear hfz28_2
  try clear hfz29_0
  try clear hfz29_1
  try clear hfz29_2
  try clear hfz31_0
  try clear hfz31_1
  try clear hfz31_2
  try clear hfz32_0
  try clear hfz32_1
  try clear hfz32_2
  try clear hfz8_0
  try clear hfz8_1
  try clear hfz8_2
  try clear hfz9_0
  try clear hfz9_1
  try clear hfz9_2
  obtain ⟨kq, x40_2, rfl, HA, HJ2, BK294, BK295, HB⟩ := hcut
  cases kq with
  | zero => exact absurd HA.out (by simp [aY.j0])
  | succ kj2 =>
   have H := HA.out
   clear HA
   simp only [aY.j0] at H
   by_cases c33 : x40_2 = true
   ·subst c33
    have H1 : (some (-1)) = some r := by rw [if_pos rfl] at H; exact H
    clear H
    have H := H1
    clear H1
    obtain rfl := Option.some.inj H
    go_wp2
    go_ret
    exact ⟨by first | rfl | (simp [aN, aQ] <;> rfl) | (simp [*, aN, aQ] <;> rfl), by repeat (first | (with_reducible first | exact HB.out | apply aC | apply pw_below_drewN | apply aD | refine aG ?_ GE294.out | refine aG ?_ GE295.out) | exact HB.out)⟩
   ·replace c33 := Bool.eq_false_iff.mpr c33
    subst c33
    have H1 : (if a0_0 > a1_0 then (some 1) else (if a0_0 = a1_0 then (if a0_0 = 0 then (if a0_1 > a1_1 then (some 1) else (if a0_0 = 1 then (if (Op.bytesLess a1_2.toList a0_2.toList) = true then (some 1) else (some 0)) else (some 0))) else (if a0_0 = 1 then (if (Op.bytesLess a1_2.toList a0_2.toList) = true then (some 1) else (some 0)) else (some 0))) else (some 0))) = some r := by rw [if_neg (show ¬ (false = true) by decide)] at H; exact H
    clear H
    have H := H1
    clear H1
    by_cases c34 : a0_0 > a1_0
    ·rw [if_pos c34] at H
     have c34b0 : decide (a1_0 < a0_0) = true := decide_eq_true c34
     clear c34
     obtain rfl := Option.some.inj H
     have hnb35 := NB294_295.out
     have hnc35 := NB295_294.out
     have hcz36_0 : wc.cell? ⟨gb294, 0, none⟩ = some (.int .i64 a0_0) := (aE BK294.out 0).trans rfl
     have hcz36_1 : wc.cell? ⟨gb294, 1, none⟩ = some (.int .i64 a0_1) := (aE BK294.out 1).trans rfl
     have hcz36_2 : wc.cell? ⟨gb294, 2, none⟩ = some (.string a0_2) := (aE BK294.out 2).trans rfl
     have hfz36_0 := blk_frozen BK294.out 0
     have hfz36_1 := blk_frozen BK294.out 1
     have hfz36_2 := blk_frozen BK294.out 2
     have hcz37_0 : wc.cell? ⟨gb295, 0, none⟩ = some (.int .i64 a1_0) := (aE BK295.out 0).trans rfl
     have hcz37_1 : wc.cell? ⟨gb295, 1, none⟩ = some (.int .i64 a1_1) := (aE BK295.out 1).trans rfl
     have hcz37_2 : wc.cell? ⟨gb295, 2, none⟩ = some (.string a1_2) := (aE BK295.out 2).trans rfl
     have hfz37_0 := blk_frozen BK295.out 0
     have hfz37_1 := blk_frozen BK295.out 1
     have hfz37_2 := blk_frozen BK295.out 2
     go_wp2
     go_ret
     exact ⟨by first | rfl | (simp [aN, aQ] <;> rfl) | (simp [*, aN, aQ] <;> rfl), by repeat (first | (with_reducible first | exact HB.out | apply aC | apply pw_below_drewN | apply aD | refine aG ?_ GE294.out | refine aG ?_ GE295.out) | exact HB.out)⟩
    ·rw [if_neg c34] at H
     have c34b0 : decide (a1_0 < a0_0) = false := decide_eq_false c34
     clear c34
     by_cases c38 : a0_0 = a1_0
     ·rw [if_pos c38] at H
      have c38b0 : (a0_0 == a1_0) = true := beq_iff_eq.mpr c38
      have c38b1 : (a0_0 != a1_0) = false := bne_eq_false_iff_eq.mpr c38
      clear c38
      by_cases c39 : a0_0 = 0
      ·rw [if_pos c39] at H
       have c39b0 : (a0_0 == 0) = true := beq_iff_eq.mpr c39
       have c39b1 : (a0_0 != 0) = false := bne_eq_false_iff_eq.mpr c39
       clear c39
       by_cases c40 : a0_1 > a1_1
       ·rw [if_pos c40] at H
        have c40b0 : decide (a1_1 < a0_1) = true := decide_eq_true c40
        clear c40
        obtain rfl := Option.some.inj H
        have hnb41 := NB294_295.out
        have hnc41 := NB295_294.out
        have hcz42_0 : wc.cell? ⟨gb294, 0, none⟩ = some (.int .i64 a0_0) := (aE BK294.out 0).trans rfl
        have hcz42_1 : wc.cell? ⟨gb294, 1, none⟩ = some (.int .i64 a0_1) := (aE BK294.out 1).trans rfl
        have hcz42_2 : wc.cell? ⟨gb294, 2, none⟩ = some (.string a0_2) := (aE BK294.out 2).trans rfl
        have hfz42_0 := blk_frozen BK294.out 0
        have hfz42_1 := blk_frozen BK294.out 1
        have hfz42_2 := blk_frozen BK294.out 2
        have hcz43_0 : wc.cell? ⟨gb295, 0, none⟩ = some (.int .i64 a1_0) := (aE BK295.out 0).trans rfl
        have hcz43_1 : wc.cell? ⟨gb295, 1, none⟩ = some (.int .i64 a1_1) := (aE BK295.out 1).trans rfl
        have hcz43_2 : wc.cell? ⟨gb295, 2, none⟩ = some (.string a1_2) := (aE BK295.out 2).trans rfl
        have hfz43_0 := blk_frozen BK295.out 0
        have hfz43_1 := blk_frozen BK295.out 1
        have hfz43_2 := blk_frozen BK295.out 2
        go_wp2
        go_ret
        exact ⟨by first | rfl | (simp [aN, aQ] <;> rfl) | (simp [*, aN, aQ] <;> rfl), by repeat (first | (with_reducible first | exact HB.out | apply aC | apply pw_below_drewN | apply aD | refine aG ?_ GE294.out | refine aG ?_ GE295.out) | exact HB.out)⟩
       ·rw [if_neg c40] at H
        have c40b0 : decide (a1_1 < a0_1) = false := decide_eq_false c40
        clear c40
        by_cases c44 : a0_0 = 1
        ·rw [if_pos c44] at H
         have c44b0 : (a0_0 == 1) = true := beq_iff_eq.mpr c44
         have c44b1 : (a0_0 != 1) = false := bne_eq_false_iff_eq.mpr c44
         clear c44
         by_cases c45 : (Op.bytesLess a1_2.toList a0_2.toList) = true
         ·rw [if_pos c45] at H
          have c45b0 : (Op.bytesLess a1_2.toList a0_2.toList) = true := c45
          clear c45
          obtain rfl := Option.some.inj H
          have hnb46 := NB294_295.out
          have hnc46 := NB295_294.out
          have hcz47_0 : wc.cell? ⟨gb294, 0, none⟩ = some (.int .i64 a0_0) := (aE BK294.out 0).trans rfl
          have hcz47_1 : wc.cell? ⟨gb294, 1, none⟩ = some (.int .i64 a0_1) := (aE BK294.out 1).trans rfl
          have hcz47_2 : wc.cell? ⟨gb294, 2, none⟩ = some (.string a0_2) := (aE BK294.out 2).trans rfl
          have hfz47_0 := blk_frozen BK294.out 0
          have hfz47_1 := blk_frozen BK294.out 1
          have hfz47_2 := blk_frozen BK294.out 2
          have hcz48_0 : wc.cell? ⟨gb295, 0, none⟩ = some (.int .i64 a1_0) := (aE BK295.out 0).trans rfl
          have hcz48_1 : wc.cell? ⟨gb295, 1, none⟩ = some (.int .i64 a1_1) := (aE BK295.out 1).trans rfl
          have hcz48_2 : wc.cell? ⟨gb295, 2, none⟩ = some (.string a1_2) := (aE BK295.out 2).trans rfl
          have hfz48_0 := blk_frozen BK295.out 0
          have hfz48_1 := blk_frozen BK295.out 1
          have hfz48_2 := blk_frozen BK295.out 2
          go_wp2
          go_ret
          exact ⟨by first | rfl | (simp [aN, aQ] <;> rfl) | (simp [*, aN, aQ] <;> rfl), by repeat (first | (with_reducible first | exact HB.out | apply aC | apply pw_below_drewN | apply aD | refine aG ?_ GE294.out | refine aG ?_ GE295.out) | exact HB.out)⟩
         ·rw [if_neg c45] at H
          have c45b0 : (Op.bytesLess a1_2.toList a0_2.toList) = false := by simpa using c45
          clear c45
          obtain rfl := Option.some.inj H
          have hnb49 := NB294_295.out
          have hnc49 := NB295_294.out
          have hcz50_0 : wc.cell? ⟨gb294, 0, none⟩ = some (.int .i64 a0_0) := (aE BK294.out 0).trans rfl
          have hcz50_1 : wc.cell? ⟨gb294, 1, none⟩ = some (.int .i64 a0_1) := (aE BK294.out 1).trans rfl
          have hcz50_2 : wc.cell? ⟨gb294, 2, none⟩ = some (.string a0_2) := (aE BK294.out 2).trans rfl
          have hfz50_0 := blk_frozen BK294.out 0
          have hfz50_1 := blk_frozen BK294.out 1
          have hfz50_2 := blk_frozen BK294.out 2
          have hcz51_0 : wc.cell? ⟨gb295, 0, none⟩ = some (.int .i64 a1_0) := (aE BK295.out 0).trans rfl
          have hcz51_1 : wc.cell? ⟨gb295, 1, none⟩ = some (.int .i64 a1_1) := (aE BK295.out 1).trans rfl
          have hcz51_2 : wc.cell? ⟨gb295, 2, none⟩ = some (.string a1_2) := (aE BK295.out 2).trans rfl
          have hfz51_0 := blk_frozen BK295.out 0
          have hfz51_1 := blk_frozen BK295.out 1
          have hfz51_2 := blk_frozen BK295.out 2
          go_wp2
          go_ret
          exact ⟨by first | rfl | (simp [aN, aQ] <;> rfl) | (simp [*, aN, aQ] <;> rfl), by repeat (first | (with_reducible first | exact HB.out | apply aC | apply pw_below_drewN | apply aD | refine aG ?_ GE294.out | refine aG ?_ GE295.out) | exact HB.out)⟩
        ·rw [if_neg c44] at H
         have c44b0 : (a0_0 == 1) = false := beq_eq_false_iff_ne.mpr c44
         have c44b1 : (a0_0 != 1) = true := bne_iff_ne.mpr c44
         obtain rfl := Option.some.inj H
         have hnb52 := NB294_295.out
         have hnc52 := NB295_294.out
         have hcz53_0 : wc.cell? ⟨gb294, 0, none⟩ = some (.int .i64 a0_0) := (aE BK294.out 0).trans rfl
         have hcz53_1 : wc.cell? ⟨gb294, 1, none⟩ = some (.int .i64 a0_1) := (aE BK294.out 1).trans rfl
         have hcz53_2 : wc.cell? ⟨gb294, 2, none⟩ = some (.string a0_2) := (aE BK294.out 2).trans rfl
         have hfz53_0 := blk_frozen BK294.out 0
         have hfz53_1 := blk_frozen BK294.out 1
         have hfz53_2 := blk_frozen BK294.out 2
         have hcz54_0 : wc.cell? ⟨gb295, 0, none⟩ = some (.int .i64 a1_0) := (aE BK295.out 0).trans rfl
         have hcz54_1 : wc.cell? ⟨gb295, 1, none⟩ = some (.int .i64 a1_1) := (aE BK295.out 1).trans rfl
         have hcz54_2 : wc.cell? ⟨gb295, 2, none⟩ = some (.string a1_2) := (aE BK295.out 2).trans rfl
         have hfz54_0 := blk_frozen BK295.out 0
         have hfz54_1 := blk_frozen BK295.out 1
         have hfz54_2 := blk_frozen BK295.out 2
         go_wp2
         go_ret
         exact ⟨by first | rfl | (simp [aN, aQ] <;> rfl) | (simp [*, aN, aQ] <;> rfl), by repeat (first | (with_reducible first | exact HB.out | apply aC | apply pw_below_drewN | apply aD | refine aG ?_ GE294.out | refine aG ?_ GE295.out) | exact HB.out)⟩
      ·rw [if_neg c39] at H
       have c39b0 : (a0_0 == 0) = false := beq_eq_false_iff_ne.mpr c39
       have c39b1 : (a0_0 != 0) = true := bne_iff_ne.mpr c39
       by_cases c55 : a0_0 = 1
       ·rw [if_pos c55] at H
        have c55b0 : (a0_0 == 1) = true := beq_iff_eq.mpr c55
        have c55b1 : (a0_0 != 1) = false := bne_eq_false_iff_eq.mpr c55
        clear c55
        by_cases c56 : (Op.bytesLess a1_2.toList a0_2.toList) = true
        ·rw [if_pos c56] at H
         have c56b0 : (Op.bytesLess a1_2.toList a0_2.toList) = true := c56
         clear c56
         obtain rfl := Option.some.inj H
         have hnb57 := NB294_295.out
         have hnc57 := NB295_294.out
         have hcz58_0 : wc.cell? ⟨gb294, 0, none⟩ = some (.int .i64 a0_0) := (aE BK294.out 0).trans rfl
         have hcz58_1 : wc.cell? ⟨gb294, 1, none⟩ = some (.int .i64 a0_1) := (aE BK294.out 1).trans rfl
         have hcz58_2 : wc.cell? ⟨gb294, 2, none⟩ = some (.string a0_2) := (aE BK294.out 2).trans rfl
         have hfz58_0 := blk_frozen BK294.out 0
         have hfz58_1 := blk_frozen BK294.out 1
         have hfz58_2 := blk_frozen BK294.out 2
         have hcz59_0 : wc.cell? ⟨gb295, 0, none⟩ = some (.int .i64 a1_0) := (aE BK295.out 0).trans rfl
         have hcz59_1 : wc.cell? ⟨gb295, 1, none⟩ = some (.int .i64 a1_1) := (aE BK295.out 1).trans rfl
         have hcz59_2 : wc.cell? ⟨gb295, 2, none⟩ = some (.string a1_2) := (aE BK295.out 2).trans rfl
         have hfz59_0 := blk_frozen BK295.out 0
         have hfz59_1 := blk_frozen BK295.out 1
         have hfz59_2 := blk_frozen BK295.out 2
         go_wp2
         go_ret
         exact ⟨by first | rfl | (simp [aN, aQ] <;> rfl) | (simp [*, aN, aQ] <;> rfl), by repeat (first | (with_reducible first | exact HB.out | apply aC | apply pw_below_drewN | apply aD | refine aG ?_ GE294.out | refine aG ?_ GE295.out) | exact HB.out)⟩
        ·rw [if_neg c56] at H
         have c56b0 : (Op.bytesLess a1_2.toList a0_2.toList) = false := by simpa using c56
         clear c56
         obtain rfl := Option.some.inj H
         have hnb60 := NB294_295.out
         have hnc60 := NB295_294.out
         have hcz61_0 : wc.cell? ⟨gb294, 0, none⟩ = some (.int .i64 a0_0) := (aE BK294.out 0).trans rfl
         have hcz61_1 : wc.cell? ⟨gb294, 1, none⟩ = some (.int .i64 a0_1) := (aE BK294.out 1).trans rfl
         have hcz61_2 : wc.cell? ⟨gb294, 2, none⟩ = some (.string a0_2) := (aE BK294.out 2).trans rfl
         have hfz61_0 := blk_frozen BK294.out 0
         have hfz61_1 := blk_frozen BK294.out 1
         have hfz61_2 := blk_frozen BK294.out 2
         have hcz62_0 : wc.cell? ⟨gb295, 0, none⟩ = some (.int .i64 a1_0) := (aE BK295.out 0).trans rfl
         have hcz62_1 : wc.cell? ⟨gb295, 1, none⟩ = some (.int .i64 a1_1) := (aE BK295.out 1).trans rfl
         have hcz62_2 : wc.cell? ⟨gb295, 2, none⟩ = some (.string a1_2) := (aE BK295.out 2).trans rfl
         have hfz62_0 := blk_frozen BK295.out 0
         have hfz62_1 := blk_frozen BK295.out 1
         have hfz62_2 := blk_frozen BK295.out 2
         go_wp2
         go_ret
         exact ⟨by first | rfl | (simp [aN, aQ] <;> rfl) | (simp [*, aN, aQ] <;> rfl), by repeat (first | (with_reducible first | exact HB.out | apply aC | apply pw_below_drewN | apply aD | refine aG ?_ GE294.out | refine aG ?_ GE295.out) | exact HB.out)⟩
       ·rw [if_neg c55] at H
        have c55b0 : (a0_0 == 1) = false := beq_eq_false_iff_ne.mpr c55
        have c55b1 : (a0_0 != 1) = true := bne_iff_ne.mpr c55
        obtain rfl := Option.some.inj H
        have hnb63 := NB294_295.out
        have hnc63 := NB295_294.out
        have hcz64_0 : wc.cell? ⟨gb294, 0, none⟩ = some (.int .i64 a0_0) := (aE BK294.out 0).trans rfl
        have hcz64_1 : wc.cell? ⟨gb294, 1, none⟩ = some (.int .i64 a0_1) := (aE BK294.out 1).trans rfl
        have hcz64_2 : wc.cell? ⟨gb294, 2, none⟩ = some (.string a0_2) := (aE BK294.out 2).trans rfl
        have hfz64_0 := blk_frozen BK294.out 0
        have hfz64_1 := blk_frozen BK294.out 1
        have hfz64_2 := blk_frozen BK294.out 2
        have hcz65_0 : wc.cell? ⟨gb295, 0, none⟩ = some (.int .i64 a1_0) := (aE BK295.out 0).trans rfl
        have hcz65_1 : wc.cell? ⟨gb295, 1, none⟩ = some (.int .i64 a1_1) := (aE BK295.out 1).trans rfl
        have hcz65_2 : wc.cell? ⟨gb295, 2, none⟩ = some (.string a1_2) := (aE BK295.out 2).trans rfl
        have hfz65_0 := blk_frozen BK295.out 0
        have hfz65_1 := blk_frozen BK295.out 1
        have hfz65_2 := blk_frozen BK295.out 2
        go_wp2
        go_ret
        exact ⟨by first | rfl | (simp [aN, aQ] <;> rfl) | (simp [*, aN, aQ] <;> rfl), by repeat (first | (with_reducible first | exact HB.out | apply aC | apply pw_below_drewN | apply aD | refine aG ?_ GE294.out | refine aG ?_ GE295.out) | exact HB.out)⟩
     ·rw [if_neg c38] at H
      have c38b0 : (a0_0 == a1_0) = false := beq_eq_false_iff_ne.mpr c38
      have c38b1 : (a0_0 != a1_0) = true := bne_iff_ne.mpr c38
      obtain rfl := Option.some.inj H
      have hnb66 := NB294_295.out
      have hnc66 := NB295_294.out
      have hcz67_0 : wc.cell? ⟨gb294, 0, none⟩ = some (.int .i64 a0_0) := (aE BK294.out 0).trans rfl
      have hcz67_1 : wc.cell? ⟨gb294, 1, none⟩ = some (.int .i64 a0_1) := (aE BK294.out 1).trans rfl
      have hcz67_2 : wc.cell? ⟨gb294, 2, none⟩ = some (.string a0_2) := (aE BK294.out 2).trans rfl
      have hfz67_0 := blk_frozen BK294.out 0
      have hfz67_1 := blk_frozen BK294.out 1
      have hfz67_2 := blk_frozen BK294.out 2
      have hcz68_0 : wc.cell? ⟨gb295, 0, none⟩ = some (.int .i64 a1_0) := (aE BK295.out 0).trans rfl
      have hcz68_1 : wc.cell? ⟨gb295, 1, none⟩ = some (.int .i64 a1_1) := (aE BK295.out 1).trans rfl
      have hcz68_2 : wc.cell? ⟨gb295, 2, none⟩ = some (.string a1_2) := (aE BK295.out 2).trans rfl
      have hfz68_0 := blk_frozen BK295.out 0
      have hfz68_1 := blk_frozen BK295.out 1
      have hfz68_2 := blk_frozen BK295.out 2
      go_wp2
      go_ret
      exact ⟨by first | rfl | (simp [aN, aQ] <;> rfl) | (simp [*, aN, aQ] <;> rfl), by repeat (first | (with_reducible first | exact HB.out | apply aC | apply pw_below_drewN | apply aD | refine aG ?_ GE294.out | refine aG ?_ GE295.out) | exact HB.out)⟩
end Go.Proofs.YtpflmgbpjhbmnaaGreat.B
end
section
namespace Go.Proofs.YtpflmgbpjhbmnaaGreat.B
open Go.RowKit Go.Proofs.YtpflmgbpjhbmnaaGreatW.PrintWords Go.Proofs.YtpflmgbpjhbmnaaGreatW.PrintLast Go.Proofs.YtpflmgbpjhbmnaaGreatW.PrintMore
attribute [local go_sem] Go.Proofs.YtpflmgbpjhbmnaaGreat.str_gtr bZ cA cJ cK bT bU cB cC   -- for this text's walks alone
set_option linter.unusedVariables false
set_option linter.unusedSimpArgs false
mutual
def aU.l0 : Nat → List (S85) → List (S85) → Int → Option (Int)
 | 0, _, _, _ => none
 | k + 1, x0, x1, x5 => if x5 < (x0.length : Int) then (aU.j1 k x0 x1 x5 (decide (x5 < (x1.length : Int)))) else (aU.j1 k x0 x1 x5 false)
def aU.j1 : Nat → List (S85) → List (S85) → Int → Bool → Option (Int)
 | 0, _, _, _, _ => none
 | k + 1, x0, x1, x5, x16 => if x16 = true then (if 0 ≤ x5 then (if x5 < (x0.length : Int) then (if x5 < (x1.length : Int) then ((aY.f k ((bW x0 x5).f0) ((bW x0 x5).f1) ((bW x0 x5).f2) ((bW x1 x5).f0) ((bW x1 x5).f1) ((bW x1 x5).f2)).bind fun t298 => (if t298 = 0 then (aU.l0 k x0 x1 (wrap64 (x5 + 1))) else (some t298))) else (none)) else (none)) else (none)) else (if (x0.length : Int) < (x1.length : Int) then (some (-1)) else (if (x0.length : Int) > (x1.length : Int) then (some 1) else (some 0)))
end
def aU.f (k : Nat) (l0 : List (S85)) (l1 : List (S85)) : Option (Int) := aU.l0 k l0 l1 0
theorem aU.mono_l : ∀ k, (∀ y0 y1 y2, LeO (aU.l0 k y0 y1 y2) (aU.l0 (k + 1) y0 y1 y2)) ∧ (∀ y0 y1 y2 y3, LeO (aU.j1 k y0 y1 y2 y3) (aU.j1 (k + 1) y0 y1 y2 y3))
 | 0 => ⟨fun _ _ _ r h => by simp [aU.l0] at h, fun _ _ _ _ r h => by simp [aU.j1] at h⟩
 | k + 1 => by
  obtain ⟨ih0, ih1⟩ := aU.mono_l k
  refine ⟨?_, ?_⟩
  ·intro y0 y1 y2
   unfold aU.l0
   repeat' first
   | (with_reducible exact ih0 _ _ _)
   | (with_reducible exact ih1 _ _ _ _)
   | (with_reducible exact aY.mono _ _ _ _ _ _ _)
   | (with_reducible exact LeO.refl _)
   | (with_reducible exact LeO.none _)
   | (with_reducible refine LeO.ite ?_ ?_)
   | (with_reducible refine LeO.bind ?_ (fun _ => ?_))
   | exact ih0 _ _ _
   | exact ih1 _ _ _ _
   | exact aY.mono _ _ _ _ _ _ _
   | exact LeO.none _
   | refine LeO.ite ?_ ?_
   | refine LeO.bind ?_ (fun _ => ?_)
  ·intro y0 y1 y2 y3
   unfold aU.j1
   repeat' first
   | (with_reducible exact ih0 _ _ _)
   | (with_reducible exact ih1 _ _ _ _)
   | (with_reducible exact aY.mono _ _ _ _ _ _ _)
   | (with_reducible exact LeO.refl _)
   | (with_reducible exact LeO.none _)
   | (with_reducible refine LeO.ite ?_ ?_)
   | (with_reducible refine LeO.bind ?_ (fun _ => ?_))
   | exact ih0 _ _ _
   | exact ih1 _ _ _ _
   | exact aY.mono _ _ _ _ _ _ _
   | exact LeO.none _
   | refine LeO.ite ?_ ?_
   | refine LeO.bind ?_ (fun _ => ?_)
theorem aU.mono : ∀ a0 a1 k, LeO (aU.f k a0 a1) (aU.f (k + 1) a0 a1) := by
 intro a0 a1 k
 obtain ⟨ih0, ih1⟩ := aU.mono_l k
 unfold aU.f
 repeat' first
   | (with_reducible exact ih0 _ _ _)
   | (with_reducible exact ih1 _ _ _ _)
   | (with_reducible exact aY.mono _ _ _ _ _ _ _)
   | (with_reducible exact LeO.refl _)
   | (with_reducible exact LeO.none _)
   | (with_reducible refine LeO.ite ?_ ?_)
   | (with_reducible refine LeO.bind ?_ (fun _ => ?_))
   | exact ih0 _ _ _
   | exact ih1 _ _ _ _
   | exact aY.mono _ _ _ _ _ _ _
   | exact LeO.none _
   | refine LeO.ite ?_ ?_
   | refine LeO.bind ?_ (fun _ => ?_)
def aU.T4 : Bool × List (List Nat × List Nat) := (true, [([], []), ([], []), ([0, 1], [0, 1]), ([2], [2]), ([], []), ([], []), ([4, 5], [4, 5]), ([6], [6]), ([3, 7], [3, 7]), ([8, 8, 0, 1, 2, 3, 4, 5, 6, 7, 8], [8])])
def aU.B4 : List Nat := [0, 0, 3, 7, 0, 0, 48, 112, 255, 511]
theorem aU.tab4 : rtab .any (wJ Tryz.f33 4) = aU.T4 := by kernel_rfl
theorem aU.bits4 : gV aU.T4.2 aU.B4 = true := by kernel_rfl
set_option maxHeartbeats 8000000 in
set_option maxRecDepth 100000 in
theorem aU.calls (k : Nat) (A0 : Option Addr) (c0 : Nat) (l0 : List (S85)) (A1 : Option Addr) (c1 : Nat) (l1 : List (S85)) (r : Int) (w : World) (hr0 : Kd.C k85 w A0 l0.length l0) (hc0 : l0.length ≤ c0) (hr1 : Kd.C k85 w A1 l1.length l1) (hc1 : l1.length ≤ c1) (h : aU.f k l0 l1 = some r) :
  Calls Tryz.prog 33 #[.slice A0 l0.length c0, .slice A1 l1.length c1] w fun e w' => e = .returned (.int .i64 r) ∧ Below w.heap.size w w' := by
 have hu85 := Tryz.underlying85
 have HR0 := aA.mk hr0
 have HC0 := aA.mk hc0
 clear hr0 hc0
 have HR1 := aA.mk hr1
 have HC1 := aA.mk hc1
 clear hr1 hc1
 have HB := aA.mk (Below.refl w.heap.size w)
 have H : (aU.l0 k l0 l1 0) = some r := h
 clear h
 have H' := aA.mk H
 clear H
 go_enter Tryz.func33, Tryz.ntmps33
 go_wp2
 go_loopg [5] k (fun kq v5 w' => ∃ (x5_1 : Int), v5 = .int .i64 x5_1 ∧ aA (aU.l0 kq l0 l1 x5_1 = some r) ∧ aA (kq ≤ k) ∧ aA (Below w.heap.size w w'))
 case atStart => exact ⟨(0), (by first | rfl | (simp; done) | (simp [*]; done)), H', ⟨Nat.le_refl _⟩, ⟨by repeat (first | (with_reducible first | exact HB.out | apply aC | apply pw_below_drewN | apply aD) | exact HB.out)⟩⟩
 case round =>
  clear H'
  try clear c1
  try clear p2
  obtain ⟨x5_1, rfl, HA, HK1, HB⟩ := hrel
  cases gk with
  | zero => exact absurd HA.out (by simp [aU.l0])
  | succ k1 =>
   have H := HA.out
   clear HA
   simp only [aU.l0] at H
   have HC3 := aA.mk H
   clear H
   go_upto_region 2 with (fail)
   go_cut [16] (fun v16 wc => ∃ (kq : Nat) (x16_2 : Bool), v16 = .bool x16_2 ∧ aA (aU.j1 kq l0 l1 x5_1 x16_2 = some r) ∧ aA (kq ≤ k1) ∧ aA (Below w.heap.size w wc))
   case first =>
    have H := HC3.out
    clear HC3
    by_cases c4 : x5_1 < (l0.length : Int)
    ·rw [if_pos c4] at H
     have c4b0 : decide (x5_1 < (l0.length : Int)) = true := decide_eq_true c4
     clear c4
     (first | rw [c4b0] | (simp only [cN, cO]; rw [c4b0]) | skip)
     have H' := aA.mk H
     clear H
     go_wp2
     go_meet
     case rel => exact ⟨_, (decide (x5_1 < (l1.length : Int))), (by first | rfl | (simp; done) | (simp [*]; done)), H', ⟨by have := HK1.out; first | omega | exact Nat.le_refl _⟩, ⟨by repeat (first | (with_reducible first | exact HB.out | apply aC | apply pw_below_drewN | apply aD) | exact HB.out)⟩⟩
    ·rw [if_neg c4] at H
     have c4b0 : decide (x5_1 < (l0.length : Int)) = false := decide_eq_false c4
     clear c4
     (first | rw [c4b0] | (simp only [cN, cO]; rw [c4b0]) | skip)
     have H' := aA.mk H
     clear H
     go_wp2
     go_meet
     case rel => exact ⟨_, (false), (by first | rfl | (simp; done) | (simp [*]; done)), H', ⟨by have := HK1.out; first | omega | exact Nat.le_refl _⟩, ⟨by repeat (first | (with_reducible first | exact HB.out | apply aC | apply pw_below_drewN | apply aD) | exact HB.out)⟩⟩
   case rest =>
    clear HC3
    try clear c1
    try clear p2
    try clear c3
    try clear c4
    try clear c4b0
    try clear p2
    obtain ⟨kq, x16_2, rfl, HA, HJ2, HB⟩ := hcut
    cases kq with
    | zero => exact absurd HA.out (by simp [aU.j1])
    | succ kj2 =>
     have H := HA.out
     clear HA
     simp only [aU.j1] at H
     by_cases c5 : x16_2 = true
     ·subst c5
      have H1 : (if 0 ≤ x5_1 then (if x5_1 < (l0.length : Int) then (if x5_1 < (l1.length : Int) then ((aY.f kj2 ((bW l0 x5_1).f0) ((bW l0 x5_1).f1) ((bW l0 x5_1).f2) ((bW l1 x5_1).f0) ((bW l1 x5_1).f1) ((bW l1 x5_1).f2)).bind fun t298 => (if t298 = 0 then (aU.l0 kj2 l0 l1 (wrap64 (x5_1 + 1))) else (some t298))) else (none)) else (none)) else (none)) = some r := by rw [if_pos rfl] at H; exact H
      clear H
      have H := H1
      clear H1
      by_cases c6 : 0 ≤ x5_1
      ·rw [if_pos c6] at H
       have c6b0 : decide (0 ≤ x5_1) = true := decide_eq_true c6
       clear c6
       by_cases c7 : x5_1 < (l0.length : Int)
       ·rw [if_pos c7] at H
        have c7b0 : decide (x5_1 < (l0.length : Int)) = true := decide_eq_true c7
        clear c7
        by_cases c8 : x5_1 < (l1.length : Int)
        ·rw [if_pos c8] at H
         have c8b0 : decide (x5_1 < (l1.length : Int)) = true := decide_eq_true c8
         clear c8
         replace H := Option.bind_eq_some_iff.mp H
         obtain ⟨t298, A90, H⟩ := H
         replace H : (if t298 = 0 then (aU.l0 kj2 l0 l1 (wrap64 (x5_1 + 1))) else (some t298)) = some r := H
         have A9 := aA.mk A90
         clear A90
         by_cases c10 : t298 = 0
         ·rw [if_pos c10] at H
          have c10b0 : (t298 == 0) = true := beq_iff_eq.mpr c10
          have c10b1 : (t298 != 0) = false := bne_eq_false_iff_eq.mpr c10
          clear c10
          have H' := aA.mk H
          clear H
          try go_wp2
          have n0_ := aA.mk (aD HB.out)
          clear HB
          have HB := n0_
          clear n0_
          have p296 : 0 ≤ (x5_1 : Int) := of_decide_eq_true (by first | (with_reducible assumption) | assumption)
          have q296 : x5_1 < (l0.length : Int) := of_decide_eq_true (by first | (with_reducible assumption) | assumption)
          obtain ⟨ad296, e296, hx296_0, hx296_1, hx296_2⟩ := kT HR0.out x5_1 p296 q296
          have hw296_2 := hx296_2
          have hw296_1 := hx296_1
          have hw296_0 := hx296_0
          cases e296
          replace hx296_0 := (HB.out.cell (World.block_lt_of_cell? w _ hx296_0)).trans hx296_0
          replace hx296_1 := (HB.out.cell (World.block_lt_of_cell? w _ hx296_1)).trans hx296_1
          replace hx296_2 := (HB.out.cell (World.block_lt_of_cell? w _ hx296_2)).trans hx296_2
          replace p296 := eq_true p296
          replace q296 := eq_true q296
          have p297 : 0 ≤ (x5_1 : Int) := of_decide_eq_true (by first | (with_reducible assumption) | assumption)
          have q297 : x5_1 < (l1.length : Int) := of_decide_eq_true (by first | (with_reducible assumption) | assumption)
          obtain ⟨ad297, e297, hx297_0, hx297_1, hx297_2⟩ := kT HR1.out x5_1 p297 q297
          have hw297_2 := hx297_2
          have hw297_1 := hx297_1
          have hw297_0 := hx297_0
          cases e297
          replace hx297_0 := (HB.out.cell (World.block_lt_of_cell? w _ hx297_0)).trans hx297_0
          replace hx297_1 := (HB.out.cell (World.block_lt_of_cell? w _ hx297_1)).trans hx297_1
          replace hx297_2 := (HB.out.cell (World.block_lt_of_cell? w _ hx297_2)).trans hx297_2
          replace p297 := eq_true p297
          replace q297 := eq_true q297
          refine jX (n := 10) (S := fun w' => w'.cell? (ad296.add ((x5_1).toNat * 3)) = some (.int .i64 ((bW l0 x5_1).f0)) ∧ w'.cell? ⟨(ad296.add ((x5_1).toNat * 3)).block, (ad296.add ((x5_1).toNat * 3)).off + 1, none⟩ = some (.int .i64 ((bW l0 x5_1).f1)) ∧ w'.cell? ⟨(ad296.add ((x5_1).toNat * 3)).block, (ad296.add ((x5_1).toNat * 3)).off + 2, none⟩ = some (.string ((bW l0 x5_1).f2)) ∧ w'.cell? (ad297.add ((x5_1).toNat * 3)) = some (.int .i64 ((bW l1 x5_1).f0)) ∧ w'.cell? ⟨(ad297.add ((x5_1).toNat * 3)).block, (ad297.add ((x5_1).toNat * 3)).off + 1, none⟩ = some (.int .i64 ((bW l1 x5_1).f1)) ∧ w'.cell? ⟨(ad297.add ((x5_1).toNat * 3)).block, (ad297.add ((x5_1).toNat * 3)).off + 2, none⟩ = some (.string ((bW l1 x5_1).f2))) (ds := []) #[false, false, false, false, false, false, false, false, false, false] (by kernel_rfl) rfl rfl ⟨((HB.out.cell (World.block_lt_of_cell? w _ hw296_0)).trans hw296_0), ((HB.out.cell (World.block_lt_of_cell? w _ hw296_1)).trans hw296_1), ((HB.out.cell (World.block_lt_of_cell? w _ hw296_2)).trans hw296_2), ((HB.out.cell (World.block_lt_of_cell? w _ hw297_0)).trans hw297_0), ((HB.out.cell (World.block_lt_of_cell? w _ hw297_1)).trans hw297_1), ((HB.out.cell (World.block_lt_of_cell? w _ hw297_2)).trans hw297_2)⟩ (fun hHeld => ?_); refine fY aU.tab4 aU.bits4 (fun HT_ HW_ => ?_)
          generalize wc.drew = w11 at HB hx296_0 hx296_1 hx296_2 hx297_0 hx297_1 hx297_2 hHeld ⊢
          refine dJ (i := 0) (N := some 19) (v := ?_) (a' := ?_) #[true, false, false, false, false, false, false, false, false, false] rfl rfl (cV HT_.out (by kernel_rfl)) (fun _ _ _ h => h) (Or.inl ⟨by rfl, ?_⟩) ?_ ?_
          rotate_left
          ·intro w'
           go_simp
           with_reducible rfl
          rotate_left
          ·simp only [Act.put, List.setIfInBounds_toArray, List.set_cons_zero, List.set_cons_succ, cN, cO]
           rfl
          refine dJ (i := 1) (N := some 20) (v := ?_) (a' := ?_) #[true, true, false, false, false, false, false, false, false, false] rfl rfl (cV HT_.out (by kernel_rfl)) (fun _ _ _ h => h) (Or.inl ⟨by rfl, ?_⟩) ?_ ?_
          rotate_left
          ·intro w'
           go_simp
           with_reducible rfl
          rotate_left
          ·simp only [Act.put, List.setIfInBounds_toArray, List.set_cons_zero, List.set_cons_succ, cN, cO]
           rfl
          refine dJ (i := 2) (N := some 21) (v := ?_) (a' := ?_) #[true, true, true, false, false, false, false, false, false, false] rfl rfl (cV HT_.out (by kernel_rfl)) (fun _ _ _ h => h) (Or.inl ⟨by rfl, ?_⟩) ?_ ?_
          rotate_left
          ·intro w'
           go_simp
           with_reducible rfl
          rotate_left
          ·simp only [Act.put, List.setIfInBounds_toArray, List.set_cons_zero, List.set_cons_succ, cN, cO]
           rfl
          refine dJ (i := 4) (N := some 23) (v := ?_) (a' := ?_) #[true, true, true, false, true, false, false, false, false, false] rfl rfl (cV HT_.out (by kernel_rfl)) (fun _ _ _ h => h) (Or.inl ⟨by rfl, ?_⟩) ?_ ?_
          rotate_left
          ·intro w'
           go_simp
           with_reducible rfl
          rotate_left
          ·simp only [Act.put, List.setIfInBounds_toArray, List.set_cons_zero, List.set_cons_succ, cN, cO]
           rfl
          refine dJ (i := 5) (N := some 24) (v := ?_) (a' := ?_) #[true, true, true, false, true, true, false, false, false, false] rfl rfl (cV HT_.out (by kernel_rfl)) (fun _ _ _ h => h) (Or.inl ⟨by rfl, ?_⟩) ?_ ?_
          rotate_left
          ·intro w'
           go_simp
           with_reducible rfl
          rotate_left
          ·simp only [Act.put, List.setIfInBounds_toArray, List.set_cons_zero, List.set_cons_succ, cN, cO]
           rfl
          refine dJ (i := 6) (N := some 25) (v := ?_) (a' := ?_) #[true, true, true, false, true, true, true, false, false, false] rfl rfl (cV HT_.out (by kernel_rfl)) (fun _ _ _ h => h) (Or.inl ⟨by rfl, ?_⟩) ?_ ?_
          rotate_left
          ·intro w'
           go_simp
           with_reducible rfl
          rotate_left
          ·simp only [Act.put, List.setIfInBounds_toArray, List.set_cons_zero, List.set_cons_succ, cN, cO]
           rfl
          refine take_ (i := 3) (N := some 22) (v := ?_) (a' := ?_) #[true, true, true, true, true, true, true, false, false, false] rfl rfl (eP HT_.out HW_.out (by kernel_rfl)) (fun _ _ _ h => h) (Or.inl ⟨by rfl, ?_⟩) hHeld ?_ ?_
          rotate_left
          ·rintro w' ⟨s0, s1, s2, s3, s4, s5⟩
           go_simp
           with_reducible rfl
          rotate_left
          ·simp only [Act.put, List.setIfInBounds_toArray, List.set_cons_zero, List.set_cons_succ, cN, cO]
           rfl
          refine take_ (i := 7) (N := some 26) (v := ?_) (a' := ?_) #[true, true, true, true, true, true, true, true, false, false] rfl rfl (eP HT_.out HW_.out (by kernel_rfl)) (fun _ _ _ h => h) (Or.inl ⟨by rfl, ?_⟩) hHeld ?_ ?_
          rotate_left
          ·rintro w' ⟨s0, s1, s2, s3, s4, s5⟩
           go_simp
           with_reducible rfl
          rotate_left
          ·simp only [Act.put, List.setIfInBounds_toArray, List.set_cons_zero, List.set_cons_succ, cN, cO]
           rfl
          refine pL (i := 8) (N := some 27) #[true, true, true, true, true, true, true, true, true, false] rfl rfl (iI HT_.out (by kernel_rfl)) (by decide) (fun K hK => ?_)
          refine kB Tryz.func69 (by kernel_rfl) rfl #[.agg #[.int .i64 ((bW l0 x5_1).f0), .int .i64 ((bW l0 x5_1).f1), .string ((bW l0 x5_1).f2)], .agg #[.int .i64 ((bW l1 x5_1).f0), .int .i64 ((bW l1 x5_1).f1), .string ((bW l1 x5_1).f2)]] (by rfl) rfl rfl (by (try simp only [List.map_toArray, List.map_cons, List.map_nil]); first | done | rfl | (simp only [List.length_drop, List.length_take]; rfl)) ?_
          with_reducible refine (aY.calls kj2 ((bW l0 x5_1).f0) ((bW l0 x5_1).f1) ((bW l0 x5_1).f2) ((bW l1 x5_1).f0) ((bW l1 x5_1).f1) ((bW l1 x5_1).f2) t298 _ A9.out).mono ?_
          rintro e w12 ⟨rfl, hb⟩
          refine ⟨_, rfl, ?_⟩
          have n0_ := aA.mk (aV (by repeat (first | (with_reducible first | exact HB.out | apply aC | apply pw_below_drewN | apply aD) | exact HB.out)) hb)
          clear HB
          have HB := n0_
          clear n0_
          (try clear hb)
          (try clear hb2)
          (try clear hk)
          (try clear hi)
          refine hK.out _ _ ⟨((HB.out.cell (World.block_lt_of_cell? w _ hw296_0)).trans hw296_0), ((HB.out.cell (World.block_lt_of_cell? w _ hw296_1)).trans hw296_1), ((HB.out.cell (World.block_lt_of_cell? w _ hw296_2)).trans hw296_2), ((HB.out.cell (World.block_lt_of_cell? w _ hw297_0)).trans hw297_0), ((HB.out.cell (World.block_lt_of_cell? w _ hw297_1)).trans hw297_1), ((HB.out.cell (World.block_lt_of_cell? w _ hw297_2)).trans hw297_2)⟩ (fun hHeld => ?_)
          clear hK K
          refine gG (a' := ?_) ?_ ?_
          rotate_left
          ·show Act.put _ (some 27) _ = _
           simp only [Act.put, List.setIfInBounds_toArray, List.set_cons_zero, List.set_cons_succ, cN, cO]
           rfl
          refine dJ (i := 9) (N := some 6) (v := ?_) (a' := ?_) #[true, true, true, true, true, true, true, true, true, true] rfl rfl (cV HT_.out (by kernel_rfl)) (fun _ _ _ h => h) (Or.inl ⟨by rfl, ?_⟩) ?_ ?_
          rotate_left
          ·intro w'
           go_simp
           with_reducible rfl
          rotate_left
          ·simp only [Act.put, List.setIfInBounds_toArray, List.set_cons_zero, List.set_cons_succ, cN, cO]
           rfl
          refine oA (jJ HT_.out (by kernel_rfl)) ?_
          try go_wp2
          go_roundg kj2
          case measure => have := HK1.out; have := HJ2.out; omega
          case rel => exact ⟨(wrap64 (x5_1 + 1)), (by first | rfl | (simp; done) | (simp [*]; done)), H', ⟨by have := HK1.out; have := HJ2.out; omega⟩, ⟨by repeat (first | (with_reducible first | exact HB.out | apply aC | apply pw_below_drewN | apply aD) | exact HB.out)⟩⟩
         ·rw [if_neg c10] at H
          have c10b0 : (t298 == 0) = false := beq_eq_false_iff_ne.mpr c10
          have c10b1 : (t298 != 0) = true := bne_iff_ne.mpr c10
          obtain rfl := Option.some.inj H
          try go_wp2
          have n0_ := aA.mk (aD HB.out)
          clear HB
          have HB := n0_
          clear n0_
          have p296 : 0 ≤ (x5_1 : Int) := of_decide_eq_true (by first | (with_reducible assumption) | assumption)
          have q296 : x5_1 < (l0.length : Int) := of_decide_eq_true (by first | (with_reducible assumption) | assumption)
          obtain ⟨ad296, e296, hx296_0, hx296_1, hx296_2⟩ := kT HR0.out x5_1 p296 q296
          have hw296_2 := hx296_2
          have hw296_1 := hx296_1
          have hw296_0 := hx296_0
          cases e296
          replace hx296_0 := (HB.out.cell (World.block_lt_of_cell? w _ hx296_0)).trans hx296_0
          replace hx296_1 := (HB.out.cell (World.block_lt_of_cell? w _ hx296_1)).trans hx296_1
          replace hx296_2 := (HB.out.cell (World.block_lt_of_cell? w _ hx296_2)).trans hx296_2
          replace p296 := eq_true p296
          replace q296 := eq_true q296
          have p297 : 0 ≤ (x5_1 : Int) := of_decide_eq_true (by first | (with_reducible assumption) | assumption)
          have q297 : x5_1 < (l1.length : Int) := of_decide_eq_true (by first | (with_reducible assumption) | assumption)
          obtain ⟨ad297, e297, hx297_0, hx297_1, hx297_2⟩ := kT HR1.out x5_1 p297 q297
          have hw297_2 := hx297_2
          have hw297_1 := hx297_1
          have hw297_0 := hx297_0
          cases e297
          replace hx297_0 := (HB.out.cell (World.block_lt_of_cell? w _ hx297_0)).trans hx297_0
          replace hx297_1 := (HB.out.cell (World.block_lt_of_cell? w _ hx297_1)).trans hx297_1
          replace hx297_2 := (HB.out.cell (World.block_lt_of_cell? w _ hx297_2)).trans hx297_2
          replace p297 := eq_true p297
          replace q297 := eq_true q297
          refine jX (n := 10) (S := fun w' => w'.cell? (ad296.add ((x5_1).toNat * 3)) = some (.int .i64 ((bW l0 x5_1).f0)) ∧ w'.cell? ⟨(ad296.add ((x5_1).toNat * 3)).block, (ad296.add ((x5_1).toNat * 3)).off + 1, none⟩ = some (.int .i64 ((bW l0 x5_1).f1)) ∧ w'.cell? ⟨(ad296.add ((x5_1).toNat * 3)).block, (ad296.add ((x5_1).toNat * 3)).off + 2, none⟩ = some (.string ((bW l0 x5_1).f2)) ∧ w'.cell? (ad297.add ((x5_1).toNat * 3)) = some (.int .i64 ((bW l1 x5_1).f0)) ∧ w'.cell? ⟨(ad297.add ((x5_1).toNat * 3)).block, (ad297.add ((x5_1).toNat * 3)).off + 1, none⟩ = some (.int .i64 ((bW l1 x5_1).f1)) ∧ w'.cell? ⟨(ad297.add ((x5_1).toNat * 3)).block, (ad297.add ((x5_1).toNat * 3)).off + 2, none⟩ = some (.string ((bW l1 x5_1).f2))) (ds := []) #[false, false, false, false, false, false, false, false, false, false] (by kernel_rfl) rfl rfl ⟨((HB.out.cell (World.block_lt_of_cell? w _ hw296_0)).trans hw296_0), ((HB.out.cell (World.block_lt_of_cell? w _ hw296_1)).trans hw296_1), ((HB.out.cell (World.block_lt_of_cell? w _ hw296_2)).trans hw296_2), ((HB.out.cell (World.block_lt_of_cell? w _ hw297_0)).trans hw297_0), ((HB.out.cell (World.block_lt_of_cell? w _ hw297_1)).trans hw297_1), ((HB.out.cell (World.block_lt_of_cell? w _ hw297_2)).trans hw297_2)⟩ (fun hHeld => ?_); refine fY aU.tab4 aU.bits4 (fun HT_ HW_ => ?_)
          generalize wc.drew = w13 at HB hx296_0 hx296_1 hx296_2 hx297_0 hx297_1 hx297_2 hHeld ⊢
          refine dJ (i := 0) (N := some 19) (v := ?_) (a' := ?_) #[true, false, false, false, false, false, false, false, false, false] rfl rfl (cV HT_.out (by kernel_rfl)) (fun _ _ _ h => h) (Or.inl ⟨by rfl, ?_⟩) ?_ ?_
          rotate_left
          ·intro w'
           go_simp
           with_reducible rfl
          rotate_left
          ·simp only [Act.put, List.setIfInBounds_toArray, List.set_cons_zero, List.set_cons_succ, cN, cO]
           rfl
          refine dJ (i := 1) (N := some 20) (v := ?_) (a' := ?_) #[true, true, false, false, false, false, false, false, false, false] rfl rfl (cV HT_.out (by kernel_rfl)) (fun _ _ _ h => h) (Or.inl ⟨by rfl, ?_⟩) ?_ ?_
          rotate_left
          ·intro w'
           go_simp
           with_reducible rfl
          rotate_left
          ·simp only [Act.put, List.setIfInBounds_toArray, List.set_cons_zero, List.set_cons_succ, cN, cO]
           rfl
          refine dJ (i := 2) (N := some 21) (v := ?_) (a' := ?_) #[true, true, true, false, false, false, false, false, false, false] rfl rfl (cV HT_.out (by kernel_rfl)) (fun _ _ _ h => h) (Or.inl ⟨by rfl, ?_⟩) ?_ ?_
          rotate_left
          ·intro w'
           go_simp
           with_reducible rfl
          rotate_left
          ·simp only [Act.put, List.setIfInBounds_toArray, List.set_cons_zero, List.set_cons_succ, cN, cO]
           rfl
          refine dJ (i := 4) (N := some 23) (v := ?_) (a' := ?_) #[true, true, true, false, true, false, false, false, false, false] rfl rfl (cV HT_.out (by kernel_rfl)) (fun _ _ _ h => h) (Or.inl ⟨by rfl, ?_⟩) ?_ ?_
          rotate_left
          ·intro w'
           go_simp
           with_reducible rfl
          rotate_left
          ·simp only [Act.put, List.setIfInBounds_toArray, List.set_cons_zero, List.set_cons_succ, cN, cO]
           rfl
          refine dJ (i := 5) (N := some 24) (v := ?_) (a' := ?_) #[true, true, true, false, true, true, false, false, false, false] rfl rfl (cV HT_.out (by kernel_rfl)) (fun _ _ _ h => h) (Or.inl ⟨by rfl, ?_⟩) ?_ ?_
          rotate_left
          ·intro w'
           go_simp
           with_reducible rfl
          rotate_left
          ·simp only [Act.put, List.setIfInBounds_toArray, List.set_cons_zero, List.set_cons_succ, cN, cO]
           rfl
          refine dJ (i := 6) (N := some 25) (v := ?_) (a' := ?_) #[true, true, true, false, true, true, true, false, false, false] rfl rfl (cV HT_.out (by kernel_rfl)) (fun _ _ _ h => h) (Or.inl ⟨by rfl, ?_⟩) ?_ ?_
          rotate_left
          ·intro w'
           go_simp
           with_reducible rfl
          rotate_left
          ·simp only [Act.put, List.setIfInBounds_toArray, List.set_cons_zero, List.set_cons_succ, cN, cO]
           rfl
          refine take_ (i := 3) (N := some 22) (v := ?_) (a' := ?_) #[true, true, true, true, true, true, true, false, false, false] rfl rfl (eP HT_.out HW_.out (by kernel_rfl)) (fun _ _ _ h => h) (Or.inl ⟨by rfl, ?_⟩) hHeld ?_ ?_
          rotate_left
          ·rintro w' ⟨s0, s1, s2, s3, s4, s5⟩
           go_simp
           with_reducible rfl
          rotate_left
          ·simp only [Act.put, List.setIfInBounds_toArray, List.set_cons_zero, List.set_cons_succ, cN, cO]
           rfl
          refine take_ (i := 7) (N := some 26) (v := ?_) (a' := ?_) #[true, true, true, true, true, true, true, true, false, false] rfl rfl (eP HT_.out HW_.out (by kernel_rfl)) (fun _ _ _ h => h) (Or.inl ⟨by rfl, ?_⟩) hHeld ?_ ?_
          rotate_left
          ·rintro w' ⟨s0, s1, s2, s3, s4, s5⟩
           go_simp
           with_reducible rfl
          rotate_left
          ·simp only [Act.put, List.setIfInBounds_toArray, List.set_cons_zero, List.set_cons_succ, cN, cO]
           rfl
          refine pL (i := 8) (N := some 27) #[true, true, true, true, true, true, true, true, true, false] rfl rfl (iI HT_.out (by kernel_rfl)) (by decide) (fun K hK => ?_)
          refine kB Tryz.func69 (by kernel_rfl) rfl #[.agg #[.int .i64 ((bW l0 x5_1).f0), .int .i64 ((bW l0 x5_1).f1), .string ((bW l0 x5_1).f2)], .agg #[.int .i64 ((bW l1 x5_1).f0), .int .i64 ((bW l1 x5_1).f1), .string ((bW l1 x5_1).f2)]] (by rfl) rfl rfl (by (try simp only [List.map_toArray, List.map_cons, List.map_nil]); first | done | rfl | (simp only [List.length_drop, List.length_take]; rfl)) ?_
          with_reducible refine (aY.calls kj2 ((bW l0 x5_1).f0) ((bW l0 x5_1).f1) ((bW l0 x5_1).f2) ((bW l1 x5_1).f0) ((bW l1 x5_1).f1) ((bW l1 x5_1).f2) t298 _ A9.out).mono ?_
          rintro e w14 ⟨rfl, hb⟩
          refine ⟨_, rfl, ?_⟩
          have n0_ := aA.mk (aV (by repeat (first | (with_reducible first | exact HB.out | apply aC | apply pw_below_drewN | apply aD) | exact HB.out)) hb)
          clear HB
          have HB := n0_
          clear n0_
          (try clear hb)
          (try clear hb2)
          (try clear hk)
          (try clear hi)
          refine hK.out _ _ ⟨((HB.out.cell (World.block_lt_of_cell? w _ hw296_0)).trans hw296_0), ((HB.out.cell (World.block_lt_of_cell? w _ hw296_1)).trans hw296_1), ((HB.out.cell (World.block_lt_of_cell? w _ hw296_2)).trans hw296_2), ((HB.out.cell (World.block_lt_of_cell? w _ hw297_0)).trans hw297_0), ((HB.out.cell (World.block_lt_of_cell? w _ hw297_1)).trans hw297_1), ((HB.out.cell (World.block_lt_of_cell? w _ hw297_2)).trans hw297_2)⟩ (fun hHeld => ?_)
          clear hK K
          refine gG (a' := ?_) ?_ ?_
          rotate_left
          ·show Act.put _ (some 27) _ = _
           simp only [Act.put, List.setIfInBounds_toArray, List.set_cons_zero, List.set_cons_succ, cN, cO]
           rfl
          refine dJ (i := 9) (N := some 6) (v := ?_) (a' := ?_) #[true, true, true, true, true, true, true, true, true, true] rfl rfl (cV HT_.out (by kernel_rfl)) (fun _ _ _ h => h) (Or.inl ⟨by rfl, ?_⟩) ?_ ?_
          rotate_left
          ·intro w'
           go_simp
           with_reducible rfl
          rotate_left
          ·simp only [Act.put, List.setIfInBounds_toArray, List.set_cons_zero, List.set_cons_succ, cN, cO]
           rfl
          refine oA (jJ HT_.out (by kernel_rfl)) ?_
          try go_wp2
          go_ret
          exact ⟨by first | rfl | (simp [aN, aQ] <;> rfl) | (simp [*, aN, aQ] <;> rfl), by repeat (first | (with_reducible first | exact HB.out | apply aC | apply pw_below_drewN | apply aD) | exact HB.out)⟩
        ·rw [if_neg c8] at H
         exact absurd H (by simp)
       ·rw [if_neg c7] at H
        exact absurd H (by simp)
      ·rw [if_neg c6] at H
       exact absurd H (by simp)
     ·replace c5 := Bool.eq_false_iff.mpr c5
      subst c5
      have H1 : (if (l0.length : Int) < (l1.length : Int) then (some (-1)) else (if (l0.length : Int) > (l1.length : Int) then (some 1) else (some 0))) = some r := by rw [if_neg (show ¬ (false = true) by decide)] at H; exact H
      clear H
      have H := H1
      clear H1
      by_cases c15 : (l0.length : Int) < (l1.length : Int)
      ·rw [if_pos c15] at H
       have c15b0 : decide ((l0.length : Int) < (l1.length : Int)) = true := decide_eq_true c15
       have c15b1 : decide (l0.length < l1.length) = true := decide_eq_true (Int.ofNat_lt.mp c15)
       clear c15
       obtain rfl := Option.some.inj H
       go_wp2
       go_ret
       exact ⟨by first | rfl | (simp [aN, aQ] <;> rfl) | (simp [*, aN, aQ] <;> rfl), by repeat (first | (with_reducible first | exact HB.out | apply aC | apply pw_below_drewN | apply aD) | exact HB.out)⟩
      ·rw [if_neg c15] at H
       have c15b0 : decide ((l0.length : Int) < (l1.length : Int)) = false := decide_eq_false c15
       have c15b1 : decide (l0.length < l1.length) = false := decide_eq_false (fun h => c15 (Int.ofNat_lt.mpr h))
       clear c15
       by_cases c16 : (l0.length : Int) > (l1.length : Int)
       ·rw [if_pos c16] at H
        have c16b0 : decide ((l1.length : Int) < (l0.length : Int)) = true := decide_eq_true c16
        have c16b1 : decide (l1.length < l0.length) = true := decide_eq_true (Int.ofNat_lt.mp c16)
        clear c16
        obtain rfl := Option.some.inj H
        go_wp2
        go_ret
        exact ⟨by first | rfl | (simp [aN, aQ] <;> rfl) | (simp [*, aN, aQ] <;> rfl), by repeat (first | (with_reducible first | exact HB.out | apply aC | apply pw_below_drewN | apply aD) | exact HB.out)⟩
       ·rw [if_neg c16] at H
        have c16b0 : decide ((l1.length : Int) < (l0.length : Int)) = false := decide_eq_false c16
        have c16b1 : decide (l1.length < l0.length) = false := decide_eq_false (fun h => c16 (Int.ofNat_lt.mpr h))
        clear c16
        obtain rfl := Option.some.inj H
        go_wp2
        go_ret
        exact ⟨by first | rfl | (simp [aN, aQ] <;> rfl) | (simp [*, aN, aQ] <;> rfl), by repeat (first | (with_reducible first | exact HB.out | apply aC | apply pw_below_drewN | apply aD) | exact HB.out)⟩
end Go.Proofs.YtpflmgbpjhbmnaaGreat.B
end
section
namespace Go.Proofs.YtpflmgbpjhbmnaaGreat.B
open Go.RowKit Go.Proofs.YtpflmgbpjhbmnaaGreatW.PrintWords Go.Proofs.YtpflmgbpjhbmnaaGreatW.PrintLast Go.Proofs.YtpflmgbpjhbmnaaGreatW.PrintMore
attribute [local go_sem] Go.Proofs.YtpflmgbpjhbmnaaGreat.str_gtr bZ cA cJ cK bT bU cB cC   -- for this text's walks alone
set_option linter.unusedVariables false
set_option linter.unusedSimpArgs false
def bH.l0 : Nat → List (S85) → Int → Option (Bool)
 | 0, _, _ => none
 | k + 1, x0, x3 => if x3 < (x0.length : Int) then (if 0 ≤ x3 then (if (((bW x0 x3).f2).size : Int) > 5000 then (some true) else (bH.l0 k x0 (wrap64 (x3 + 1)))) else (none)) else (some false)
def bH.f (k : Nat) (l0 : List (S85)) : Option (Bool) := if (l0.length : Int) > 30 then (some true) else (bH.l0 k l0 0)
theorem bH.mono_l : ∀ k, (∀ y0 y1, LeO (bH.l0 k y0 y1) (bH.l0 (k + 1) y0 y1))
 | 0 => fun _ _ r h => by simp [bH.l0] at h
 | k + 1 => by
  have ih0 := bH.mono_l k
  ·intro y0 y1
   unfold bH.l0
   repeat' first
   | (with_reducible exact ih0 _ _)
   | (with_reducible exact LeO.refl _)
   | (with_reducible exact LeO.none _)
   | (with_reducible refine LeO.ite ?_ ?_)
   | (with_reducible refine LeO.bind ?_ (fun _ => ?_))
   | exact ih0 _ _
   | exact LeO.none _
   | refine LeO.ite ?_ ?_
   | refine LeO.bind ?_ (fun _ => ?_)
theorem bH.mono : ∀ a0 k, LeO (bH.f k a0) (bH.f (k + 1) a0) := by
 intro a0 k
 have ih0 := bH.mono_l k
 unfold bH.f
 repeat' first
   | (with_reducible exact ih0 _ _)
   | (with_reducible exact LeO.refl _)
   | (with_reducible exact LeO.none _)
   | (with_reducible refine LeO.ite ?_ ?_)
   | (with_reducible refine LeO.bind ?_ (fun _ => ?_))
   | exact ih0 _ _
   | exact LeO.none _
   | refine LeO.ite ?_ ?_
   | refine LeO.bind ?_ (fun _ => ?_)
set_option maxHeartbeats 8000000 in
set_option maxRecDepth 100000 in
theorem bH.calls (k : Nat) (A0 : Option Addr) (c0 : Nat) (l0 : List (S85)) (r : Bool) (w : World) (hr0 : Kd.C k85 w A0 l0.length l0) (hc0 : l0.length ≤ c0) (h : bH.f k l0 = some r) :
  Calls Tryz.prog 38 #[.slice A0 l0.length c0] w fun e w' => e = .returned (.bool r) ∧ bQ w w' := by
 have HR0 := aA.mk hr0
 have HC0 := aA.mk hc0
 clear hr0 hc0
 have H : (if (l0.length : Int) > 30 then (some true) else (bH.l0 k l0 0)) = some r := h
 clear h
 by_cases c2 : (l0.length : Int) > 30
 ·rw [if_pos c2] at H
  have c2b0 : decide (30 < (l0.length : Int)) = true := decide_eq_true c2
  have c2b1 : decide (30 < l0.length) = true := decide_eq_true (by omega)
  clear c2
  obtain rfl := Option.some.inj H
  go_enter Tryz.func38, Tryz.ntmps38
  go_wp2
  go_ret
  exact ⟨by first | rfl | (simp; done) | (simp [*]; done), by repeat (first | exact bQ.refl _ | apply bQ.step)⟩
 ·rw [if_neg c2] at H
  have c2b0 : decide (30 < (l0.length : Int)) = false := decide_eq_false c2
  have c2b1 : decide (30 < l0.length) = false := decide_eq_false (by omega)
  clear c2
  have H' := aA.mk H
  clear H
  go_enter Tryz.func38, Tryz.ntmps38
  go_wp2
  go_loopg [3] k (fun kq v3 w' => ∃ (x3_1 : Int), v3 = .int .i64 x3_1 ∧ aA (bH.l0 kq l0 x3_1 = some r) ∧ aA (kq ≤ k) ∧ bQ w w')
  case atStart => exact ⟨(0), (by first | rfl | (simp; done) | (simp [*]; done)), H', ⟨Nat.le_refl _⟩, by repeat (first | exact bQ.refl _ | apply bQ.step)⟩
  case round =>
   clear H'
   try clear c2
   try clear c2b0
   try clear c2b1
   try clear p2
   obtain ⟨x3_1, rfl, HA, HK1, ⟨m1, rfl⟩⟩ := hrel
   cases gk with
   | zero => exact absurd HA.out (by simp [bH.l0])
   | succ k1 =>
    have H := HA.out
    clear HA
    simp only [bH.l0] at H
    by_cases c3 : x3_1 < (l0.length : Int)
    ·rw [if_pos c3] at H
     have c3b0 : decide (x3_1 < (l0.length : Int)) = true := decide_eq_true c3
     clear c3
     by_cases c4 : 0 ≤ x3_1
     ·rw [if_pos c4] at H
      have c4b0 : decide (0 ≤ x3_1) = true := decide_eq_true c4
      clear c4
      by_cases c5 : (((bW l0 x3_1).f2).size : Int) > 5000
      ·rw [if_pos c5] at H
       have c5b0 : decide (5000 < (((bW l0 x3_1).f2).size : Int)) = true := decide_eq_true c5
       have c5b1 : decide (5000 < ((bW l0 x3_1).f2).size) = true := decide_eq_true (by omega)
       clear c5
       obtain rfl := Option.some.inj H
       have p101 : 0 ≤ (x3_1 : Int) := of_decide_eq_true (by first | (with_reducible assumption) | assumption)
       have q101 : x3_1 < (l0.length : Int) := of_decide_eq_true (by first | (with_reducible assumption) | assumption)
       obtain ⟨ad101, e101, hx101_0, hx101_1, hx101_2⟩ := kT HR0.out x3_1 p101 q101
       cases e101
       replace p101 := eq_true p101
       replace q101 := eq_true q101
       go_wp2
       go_ret
       exact ⟨by first | rfl | (simp; done) | (simp [*]; done), by repeat (first | exact bQ.refl _ | apply bQ.step)⟩
      ·rw [if_neg c5] at H
       have c5b0 : decide (5000 < (((bW l0 x3_1).f2).size : Int)) = false := decide_eq_false c5
       have c5b1 : decide (5000 < ((bW l0 x3_1).f2).size) = false := decide_eq_false (by omega)
       clear c5
       have H' := aA.mk H
       clear H
       have p101 : 0 ≤ (x3_1 : Int) := of_decide_eq_true (by first | (with_reducible assumption) | assumption)
       have q101 : x3_1 < (l0.length : Int) := of_decide_eq_true (by first | (with_reducible assumption) | assumption)
       obtain ⟨ad101, e101, hx101_0, hx101_1, hx101_2⟩ := kT HR0.out x3_1 p101 q101
       cases e101
       replace p101 := eq_true p101
       replace q101 := eq_true q101
       go_wp2
       go_roundg k1
       case measure => have := HK1.out; omega
       case rel => exact ⟨(wrap64 (x3_1 + 1)), (by first | rfl | (simp; done) | (simp [*]; done)), H', ⟨by have := HK1.out; omega⟩, by repeat (first | exact bQ.refl _ | apply bQ.step)⟩
     ·rw [if_neg c4] at H
      exact absurd H (by simp)
    ·rw [if_neg c3] at H
     have c3b0 : decide (x3_1 < (l0.length : Int)) = false := decide_eq_false c3
     clear c3
     obtain rfl := Option.some.inj H
     go_wp2
     go_ret
     exact ⟨by first | rfl | (simp; done) | (simp [*]; done), by repeat (first | exact bQ.refl _ | apply bQ.step)⟩
end Go.Proofs.YtpflmgbpjhbmnaaGreat.B
end
section
namespace Go.Proofs.YtpflmgbpjhbmnaaGreat.B
open Go.RowKit Go.Proofs.YtpflmgbpjhbmnaaGreatW.PrintWords Go.Proofs.YtpflmgbpjhbmnaaGreatW.PrintLast Go.Proofs.YtpflmgbpjhbmnaaGreatW.PrintMore
attribute [local go_sem] Go.Proofs.YtpflmgbpjhbmnaaGreat.str_gtr bZ cA cJ cK bT bU cB cC   -- for this text's walks alone
set_option linter.unusedVariables false
set_option linter.unusedSimpArgs false
def dA.f (a0_0 : Int) (a0_1 : Int) (a1_0 : Int) (a1_1 : Int) : Option (Int) := if a0_0 = a1_0 then ((cD.f a0_1 a1_1).bind fun t110 => (some t110)) else ((cD.f a0_0 a1_0).bind fun t111 => (some t111))
set_option maxHeartbeats 8000000 in
set_option maxRecDepth 100000 in
theorem dA.calls (a0_0 : Int) (a0_1 : Int) (a1_0 : Int) (a1_1 : Int) (r : Int) (w : World) (h : dA.f a0_0 a0_1 a1_0 a1_1 = some r) :
  Calls Tryz.prog 118 #[.agg #[.int .i64 a0_0, .int .i64 a0_1], .agg #[.int .i64 a1_0, .int .i64 a1_1]] w fun e w' => e = .returned (.int .i64 r) ∧ Below w.heap.size w w' := by
 have hu160 := Tryz.underlying160
 have HB := aA.mk (Below.refl w.heap.size w)
 have H : (if a0_0 = a1_0 then ((cD.f a0_1 a1_1).bind fun t110 => (some t110)) else ((cD.f a0_0 a1_0).bind fun t111 => (some t111))) = some r := h
 clear h
 by_cases c3 : a0_0 = a1_0
 ·rw [if_pos c3] at H
  have c3b0 : (a0_0 == a1_0) = true := beq_iff_eq.mpr c3
  have c3b1 : (a0_0 != a1_0) = false := bne_eq_false_iff_eq.mpr c3
  clear c3
  replace H := Option.bind_eq_some_iff.mp H
  obtain ⟨t110, A40, H⟩ := H
  replace H : (some t110) = some r := H
  have A4 := aA.mk A40
  clear A40
  obtain rfl := Option.some.inj H
  go_enter Tryz.func118, Tryz.ntmps118
  go_wp2_with (first | ((with_reducible refine bK (N := 2) rfl ?_); refine bG ?hg (N := 2) ?hd (cs := #[.int .i64 a0_0, .int .i64 a0_1]) (t := 160) ?hr ?_; (case hd => rfl); (case hg => rfl); (case hr => first | (go_simp; done) | (go_simp; rfl)); intro gb108 hg w5 hbox hb; have n0_ := aA.mk (aV (by repeat (first | (with_reducible first | exact HB.out | apply aC | apply pw_below_drewN | apply aD) | exact HB.out)) hb); have n1_ := aA.mk (hbox); have n2_ := aA.mk ((by rw [hg]; exact (aM (by repeat (first | (with_reducible first | exact HB.out | apply aC | apply pw_below_drewN | apply aD) | exact HB.out))) : w.heap.size ≤ gb108)); have n3_ := aA.mk ((by rw [hg]; exact (aM (by repeat (first | (with_reducible first | exact HB.out | apply aC | apply pw_below_drewN | apply aD) | exact HB.out))) : w.heap.size ≤ gb108)); clear HB; have HB := n0_; have BK108 := n1_; have GW108 := n2_; have GE108 := n3_; clear n0_ n1_ n2_ n3_; clear hb hbox hg) | ((with_reducible refine bK (N := 3) rfl ?_); refine bG ?hg (N := 3) ?hd (cs := #[.int .i64 a1_0, .int .i64 a1_1]) (t := 160) ?hr ?_; (case hd => rfl); (case hg => rfl); (case hr => first | (go_simp; done) | (go_simp; rfl)); intro gb109 hg w6 hbox hb; have n0_ := aA.mk (bD (g := gb108) (o := .cells #[.int .i64 a0_0, .int .i64 a0_1] 160 (0, 0)) (by (with_reducible repeat (first | refine aJ ?_ _ | refine aK ?_ | refine aI ?_ _)); exact BK108.out) hb); have n1_ := aA.mk (aV (by repeat (first | (with_reducible first | exact HB.out | apply aC | apply pw_below_drewN | apply aD | refine aG ?_ GE108.out) | exact HB.out)) hb); have n2_ := aA.mk (hbox); have n3_ := aA.mk ((by rw [hg]; exact (aM (by repeat (first | (with_reducible first | exact HB.out | apply aC | apply pw_below_drewN | apply aD | refine aG ?_ GE108.out) | exact HB.out))) : w.heap.size ≤ gb109)); have n4_ := aA.mk ((by rw [hg]; exact (aM (by repeat (first | (with_reducible first | exact HB.out | apply aC | apply pw_below_drewN | apply aD | refine aG ?_ GE108.out) | exact HB.out))) : w.heap.size ≤ gb109)); have n5_ := aA.mk ((by rw [hg]; exact Nat.ne_of_lt (blk_lt (g := gb108) (o := .cells #[.int .i64 a0_0, .int .i64 a0_1] 160 (0, 0)) (by (with_reducible repeat (first | refine aJ ?_ _ | refine aK ?_ | refine aI ?_ _)); exact BK108.out)) : gb108 ≠ gb109)); have n6_ := aA.mk ((by rw [hg]; exact Nat.ne_of_gt (blk_lt (g := gb108) (o := .cells #[.int .i64 a0_0, .int .i64 a0_1] 160 (0, 0)) (by (with_reducible repeat (first | refine aJ ?_ _ | refine aK ?_ | refine aI ?_ _)); exact BK108.out)) : gb109 ≠ gb108)); clear BK108; clear HB; have BK108 := n0_; have HB := n1_; have BK109 := n2_; have GW109 := n3_; have GE109 := n4_; have NB108_109 := n5_; have NB109_108 := n6_; clear n0_ n1_ n2_ n3_ n4_ n5_ n6_; clear hb hbox hg; have hnb7 := NB108_109.out; have hnc7 := NB109_108.out; have hcz8_0 : w6.cell? ⟨gb108, 0, none⟩ = some (.int .i64 a0_0) := (aE BK108.out 0).trans rfl; have hcz8_1 : w6.cell? ⟨gb108, 1, none⟩ = some (.int .i64 a0_1) := (aE BK108.out 1).trans rfl; have hfz8_0 := blk_frozen BK108.out 0; have hfz8_1 := blk_frozen BK108.out 1; have hcz9_0 : w6.cell? ⟨gb109, 0, none⟩ = some (.int .i64 a1_0) := (aE BK109.out 0).trans rfl; have hcz9_1 : w6.cell? ⟨gb109, 1, none⟩ = some (.int .i64 a1_1) := (aE BK109.out 1).trans rfl; have hfz9_0 := blk_frozen BK109.out 0; have hfz9_1 := blk_frozen BK109.out 1) | ((with_reducible refine aZ (f := 121) rfl ?_); refine cH (some 19) rfl rfl Tryz.func121 (by kernel_rfl) rfl #[.int .i64 a0_1, .int .i64 a1_1] rfl (by (try simp only [List.map_toArray, List.map_cons, List.map_nil]); first | done | rfl | (simp only [List.length_drop, List.length_take]; rfl)) ?_; (with_reducible refine (cD.calls a0_1 a1_1 t110 _ A4.out).mono ?_); rintro e w' ⟨rfl, ⟨nd, rfl⟩⟩; refine ⟨_, rfl, ?_⟩))
  go_ret
  exact ⟨by first | rfl | (simp [aN, aQ] <;> rfl) | (simp [*, aN, aQ] <;> rfl), by repeat (first | (with_reducible first | exact HB.out | apply aC | apply pw_below_drewN | apply aD | refine aG ?_ GE108.out | refine aG ?_ GE109.out) | exact HB.out)⟩
 ·rw [if_neg c3] at H
  have c3b0 : (a0_0 == a1_0) = false := beq_eq_false_iff_ne.mpr c3
  have c3b1 : (a0_0 != a1_0) = true := bne_iff_ne.mpr c3
  replace H := Option.bind_eq_some_iff.mp H
  obtain ⟨t111, A100, H⟩ := H
  replace H : (some t111) = some r := H
  have A10 := aA.mk A100
  clear A100
  obtain rfl := Option.some.inj H
  go_enter Tryz.func118, Tryz.ntmps118
  go_wp2_with (first | ((with_reducible refine bK (N := 2) rfl ?_); refine bG ?hg (N := 2) ?hd (cs := #[.int .i64 a0_0, .int .i64 a0_1]) (t := 160) ?hr ?_; (case hd => rfl); (case hg => rfl); (case hr => first | (go_simp; done) | (go_simp; rfl)); intro gb108 hg w11 hbox hb; have n0_ := aA.mk (aV (by repeat (first | (with_reducible first | exact HB.out | apply aC | apply pw_below_drewN | apply aD) | exact HB.out)) hb); have n1_ := aA.mk (hbox); have n2_ := aA.mk ((by rw [hg]; exact (aM (by repeat (first | (with_reducible first | exact HB.out | apply aC | apply pw_below_drewN | apply aD) | exact HB.out))) : w.heap.size ≤ gb108)); have n3_ := aA.mk ((by rw [hg]; exact (aM (by repeat (first | (with_reducible first | exact HB.out | apply aC | apply pw_below_drewN | apply aD) | exact HB.out))) : w.heap.size ≤ gb108)); clear HB; have HB := n0_; have BK108 := n1_; have GW108 := n2_; have GE108 := n3_; clear n0_ n1_ n2_ n3_; clear hb hbox hg) | ((with_reducible refine bK (N := 3) rfl ?_); refine bG ?hg (N := 3) ?hd (cs := #[.int .i64 a1_0, .int .i64 a1_1]) (t := 160) ?hr ?_; (case hd => rfl); (case hg => rfl); (case hr => first | (go_simp; done) | (go_simp; rfl)); intro gb109 hg w12 hbox hb; have n0_ := aA.mk (bD (g := gb108) (o := .cells #[.int .i64 a0_0, .int .i64 a0_1] 160 (0, 0)) (by (with_reducible repeat (first | refine aJ ?_ _ | refine aK ?_ | refine aI ?_ _)); exact BK108.out) hb); have n1_ := aA.mk (aV (by repeat (first | (with_reducible first | exact HB.out | apply aC | apply pw_below_drewN | apply aD | refine aG ?_ GE108.out) | exact HB.out)) hb); have n2_ := aA.mk (hbox); have n3_ := aA.mk ((by rw [hg]; exact (aM (by repeat (first | (with_reducible first | exact HB.out | apply aC | apply pw_below_drewN | apply aD | refine aG ?_ GE108.out) | exact HB.out))) : w.heap.size ≤ gb109)); have n4_ := aA.mk ((by rw [hg]; exact (aM (by repeat (first | (with_reducible first | exact HB.out | apply aC | apply pw_below_drewN | apply aD | refine aG ?_ GE108.out) | exact HB.out))) : w.heap.size ≤ gb109)); have n5_ := aA.mk ((by rw [hg]; exact Nat.ne_of_lt (blk_lt (g := gb108) (o := .cells #[.int .i64 a0_0, .int .i64 a0_1] 160 (0, 0)) (by (with_reducible repeat (first | refine aJ ?_ _ | refine aK ?_ | refine aI ?_ _)); exact BK108.out)) : gb108 ≠ gb109)); have n6_ := aA.mk ((by rw [hg]; exact Nat.ne_of_gt (blk_lt (g := gb108) (o := .cells #[.int .i64 a0_0, .int .i64 a0_1] 160 (0, 0)) (by (with_reducible repeat (first | refine aJ ?_ _ | refine aK ?_ | refine aI ?_ _)); exact BK108.out)) : gb109 ≠ gb108)); clear BK108; clear HB; have BK108 := n0_; have HB := n1_; have BK109 := n2_; have GW109 := n3_; have GE109 := n4_; have NB108_109 := n5_; have NB109_108 := n6_; clear n0_ n1_ n2_ n3_ n4_ n5_ n6_; clear hb hbox hg; have hnb13 := NB108_109.out; have hnc13 := NB109_108.out; have hcz14_0 : w12.cell? ⟨gb108, 0, none⟩ = some (.int .i64 a0_0) := (aE BK108.out 0).trans rfl; have hcz14_1 : w12.cell? ⟨gb108, 1, none⟩ = some (.int .i64 a0_1) := (aE BK108.out 1).trans rfl; have hfz14_0 := blk_frozen BK108.out 0; have hfz14_1 := blk_frozen BK108.out 1; have hcz15_0 : w12.cell? ⟨gb109, 0, none⟩ = some (.int .i64 a1_0) := (aE BK109.out 0).trans rfl; have hcz15_1 : w12.cell? ⟨gb109, 1, none⟩ = some (.int .i64 a1_1) := (aE BK109.out 1).trans rfl; have hfz15_0 := blk_frozen BK109.out 0; have hfz15_1 := blk_frozen BK109.out 1) | ((with_reducible refine aZ (f := 121) rfl ?_); refine cH (some 14) rfl rfl Tryz.func121 (by kernel_rfl) rfl #[.int .i64 a0_0, .int .i64 a1_0] rfl (by (try simp only [List.map_toArray, List.map_cons, List.map_nil]); first | done | rfl | (simp only [List.length_drop, List.length_take]; rfl)) ?_; (with_reducible refine (cD.calls a0_0 a1_0 t111 _ A10.out).mono ?_); rintro e w' ⟨rfl, ⟨nd, rfl⟩⟩; refine ⟨_, rfl, ?_⟩))
  go_ret
  exact ⟨by first | rfl | (simp [aN, aQ] <;> rfl) | (simp [*, aN, aQ] <;> rfl), by repeat (first | (with_reducible first | exact HB.out | apply aC | apply pw_below_drewN | apply aD | refine aG ?_ GE108.out | refine aG ?_ GE109.out) | exact HB.out)⟩
end Go.Proofs.YtpflmgbpjhbmnaaGreat.B
end
section
namespace Go.Proofs.YtpflmgbpjhbmnaaGreat.B
open Go.RowKit Go.Proofs.YtpflmgbpjhbmnaaGreatW.PrintWords Go.Proofs.YtpflmgbpjhbmnaaGreatW.PrintLast Go.Proofs.YtpflmgbpjhbmnaaGreatW.PrintMore
attribute [local go_sem] Go.Proofs.YtpflmgbpjhbmnaaGreat.str_gtr bZ cA cJ cK bT bU cB cC   -- for this text's walks alone
set_option linter.unusedVariables false
set_option linter.unusedSimpArgs false
def dS.f (a0_0 : Int) (a0_1 : Int) (a1_0 : Int) (a1_1 : Int) : Option (Int) := (dA.f a0_0 a0_1 a1_0 a1_1).bind fun t114 => (some t114)
set_option maxHeartbeats 8000000 in
set_option maxRecDepth 100000 in
theorem dS.calls (a0_0 : Int) (a0_1 : Int) (a1_0 : Int) (a1_1 : Int) (r : Int) (w : World) (h : dS.f a0_0 a0_1 a1_0 a1_1 = some r) :
  Calls Tryz.prog 99 #[.agg #[.int .i64 a0_0, .int .i64 a0_1], .agg #[.int .i64 a1_0, .int .i64 a1_1]] w fun e w' => e = .returned (.int .i64 r) ∧ Below w.heap.size w w' := by
 have hu59 := Tryz.underlying59
 have HB := aA.mk (Below.refl w.heap.size w)
 have H : ((dA.f a0_0 a0_1 a1_0 a1_1).bind fun t114 => (some t114)) = some r := h
 clear h
 replace H := Option.bind_eq_some_iff.mp H
 obtain ⟨t114, A30, H⟩ := H
 replace H : (some t114) = some r := H
 have A3 := aA.mk A30
 clear A30
 obtain rfl := Option.some.inj H
 go_enter Tryz.func99, Tryz.ntmps99
 go_wp2_with (first | ((with_reducible refine bK (N := 2) rfl ?_); refine bG ?hg (N := 2) ?hd (cs := #[.int .i64 a0_0, .int .i64 a0_1]) (t := 59) ?hr ?_; (case hd => rfl); (case hg => rfl); (case hr => first | (go_simp; done) | (go_simp; rfl)); intro gb112 hg w4 hbox hb; have n0_ := aA.mk (aV (by repeat (first | (with_reducible first | exact HB.out | apply aC | apply pw_below_drewN | apply aD) | exact HB.out)) hb); have n1_ := aA.mk (hbox); have n2_ := aA.mk ((by rw [hg]; exact (aM (by repeat (first | (with_reducible first | exact HB.out | apply aC | apply pw_below_drewN | apply aD) | exact HB.out))) : w.heap.size ≤ gb112)); have n3_ := aA.mk ((by rw [hg]; exact (aM (by repeat (first | (with_reducible first | exact HB.out | apply aC | apply pw_below_drewN | apply aD) | exact HB.out))) : w.heap.size ≤ gb112)); clear HB; have HB := n0_; have BK112 := n1_; have GW112 := n2_; have GE112 := n3_; clear n0_ n1_ n2_ n3_; clear hb hbox hg) | ((with_reducible refine bK (N := 3) rfl ?_); refine bG ?hg (N := 3) ?hd (cs := #[.int .i64 a1_0, .int .i64 a1_1]) (t := 59) ?hr ?_; (case hd => rfl); (case hg => rfl); (case hr => first | (go_simp; done) | (go_simp; rfl)); intro gb113 hg w5 hbox hb; have n0_ := aA.mk (bD (g := gb112) (o := .cells #[.int .i64 a0_0, .int .i64 a0_1] 59 (0, 0)) (by (with_reducible repeat (first | refine aJ ?_ _ | refine aK ?_ | refine aI ?_ _)); exact BK112.out) hb); have n1_ := aA.mk (aV (by repeat (first | (with_reducible first | exact HB.out | apply aC | apply pw_below_drewN | apply aD | refine aG ?_ GE112.out) | exact HB.out)) hb); have n2_ := aA.mk (hbox); have n3_ := aA.mk ((by rw [hg]; exact (aM (by repeat (first | (with_reducible first | exact HB.out | apply aC | apply pw_below_drewN | apply aD | refine aG ?_ GE112.out) | exact HB.out))) : w.heap.size ≤ gb113)); have n4_ := aA.mk ((by rw [hg]; exact (aM (by repeat (first | (with_reducible first | exact HB.out | apply aC | apply pw_below_drewN | apply aD | refine aG ?_ GE112.out) | exact HB.out))) : w.heap.size ≤ gb113)); have n5_ := aA.mk ((by rw [hg]; exact Nat.ne_of_lt (blk_lt (g := gb112) (o := .cells #[.int .i64 a0_0, .int .i64 a0_1] 59 (0, 0)) (by (with_reducible repeat (first | refine aJ ?_ _ | refine aK ?_ | refine aI ?_ _)); exact BK112.out)) : gb112 ≠ gb113)); have n6_ := aA.mk ((by rw [hg]; exact Nat.ne_of_gt (blk_lt (g := gb112) (o := .cells #[.int .i64 a0_0, .int .i64 a0_1] 59 (0, 0)) (by (with_reducible repeat (first | refine aJ ?_ _ | refine aK ?_ | refine aI ?_ _)); exact BK112.out)) : gb113 ≠ gb112)); clear BK112; clear HB; have BK112 := n0_; have HB := n1_; have BK113 := n2_; have GW113 := n3_; have GE113 := n4_; have NB112_113 := n5_; have NB113_112 := n6_; clear n0_ n1_ n2_ n3_ n4_ n5_ n6_; clear hb hbox hg; have hnb6 := NB112_113.out; have hnc6 := NB113_112.out; have hcz7_0 : w5.cell? ⟨gb112, 0, none⟩ = some (.int .i64 a0_0) := (aE BK112.out 0).trans rfl; have hcz7_1 : w5.cell? ⟨gb112, 1, none⟩ = some (.int .i64 a0_1) := (aE BK112.out 1).trans rfl; have hfz7_0 := blk_frozen BK112.out 0; have hfz7_1 := blk_frozen BK112.out 1; have hcz8_0 : w5.cell? ⟨gb113, 0, none⟩ = some (.int .i64 a1_0) := (aE BK113.out 0).trans rfl; have hcz8_1 : w5.cell? ⟨gb113, 1, none⟩ = some (.int .i64 a1_1) := (aE BK113.out 1).trans rfl; have hfz8_0 := blk_frozen BK113.out 0; have hfz8_1 := blk_frozen BK113.out 1) | ((with_reducible refine aZ (f := 118) rfl ?_); refine cH (some 7) rfl rfl Tryz.func118 (by kernel_rfl) rfl #[.agg #[.int .i64 a0_0, .int .i64 a0_1], .agg #[.int .i64 a1_0, .int .i64 a1_1]] rfl (by (try simp only [List.map_toArray, List.map_cons, List.map_nil]); first | done | rfl | (simp only [List.length_drop, List.length_take]; rfl)) ?_; (with_reducible refine (dA.calls a0_0 a0_1 a1_0 a1_1 t114 _ A3.out).mono ?_); rintro e w9 ⟨rfl, hb⟩; refine ⟨_, rfl, ?_⟩; have n0_ := aA.mk (bD (g := gb112) (o := .cells #[.int .i64 a0_0, .int .i64 a0_1] 59 (0, 0)) (by (with_reducible repeat (first | refine aJ ?_ _ | refine aK ?_ | refine aI ?_ _)); exact BK112.out) hb); have n1_ := aA.mk (bD (g := gb113) (o := .cells #[.int .i64 a1_0, .int .i64 a1_1] 59 (0, 0)) (by (with_reducible repeat (first | refine aJ ?_ _ | refine aK ?_ | refine aI ?_ _)); exact BK113.out) hb); have n2_ := aA.mk (aV (by repeat (first | (with_reducible first | exact HB.out | apply aC | apply pw_below_drewN | apply aD | refine aG ?_ GE112.out | refine aG ?_ GE113.out) | exact HB.out)) hb); clear BK112; clear BK113; clear HB; have BK112 := n0_; have BK113 := n1_; have HB := n2_; clear n0_ n1_ n2_; (try clear hb); (try clear hb2); (try clear hk); (try clear hi)))
 go_ret
 exact ⟨by first | rfl | (simp [aN, aQ] <;> rfl) | (simp [*, aN, aQ] <;> rfl), by repeat (first | (with_reducible first | exact HB.out | apply aC | apply pw_below_drewN | apply aD | refine aG ?_ GE112.out | refine aG ?_ GE113.out) | exact HB.out)⟩
end Go.Proofs.YtpflmgbpjhbmnaaGreat.B
end
