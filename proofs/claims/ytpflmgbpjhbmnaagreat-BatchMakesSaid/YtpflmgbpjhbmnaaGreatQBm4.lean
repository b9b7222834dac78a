/- Ord, OrdLaws, OwnK, SortTL, SortT, Clone. -/
import Derived.Test.YtpflmgbpjhbmnaaGreatQBm3
import Derived.Test.YtpflmgbpjhbmnaaGreatQBm1
import Derived.Shelf.SlSortFuncK.RowK2
import Derived.Shelf.SlicesQ.Reverse
import Derived.Shelf.SlSortCmp.WholeK
import Derived.Test.YtpflmgbpjhbmnaaGreatProg
import Derived.Shelf.SlSortCmp.NoneTotal
import Derived.Lib.QuietBelow
import Derived.WalkSpells
section
namespace Go.Proofs.YtpflmgbpjhbmnaaGreat.B
open Go.RowKit Go.Proofs.YtpflmgbpjhbmnaaGreatW.PrintWords Go.Proofs.YtpflmgbpjhbmnaaGreatW.PrintLast Go.Proofs.YtpflmgbpjhbmnaaGreatW.PrintMore
attribute [local go_sem] Go.Proofs.YtpflmgbpjhbmnaaGreat.str_gtr bZ cA cJ cK bT bU cB cC
set_option linter.unusedVariables false
set_option linter.unusedSimpArgs false
def iY (a b : S85) : Int := (gW.f a.f0 a.f1 a.f2 b.f0 b.f1 b.f2).getD 0
theorem yH (a b : S85) : gW.f a.f0 a.f1 a.f2 b.f0 b.f1 b.f2 = some (iY a b) := by
 have h : ∀ o : Option Int, o.isSome → o = some (o.getD 0) := by intro o ho; cases o <;> simp_all
 refine h _ ?_
 have hi : ∀ x y : Int, ∃ r, cD.f x y = some r := by
  intro x y; unfold cD.f cF.f; simp only [Option.bind_some]; repeat' split
  all_goals exact ⟨_, rfl⟩
 have hs : ∀ x y : ByteArray, ∃ r, cQ.f x y = some r := by
  intro x y; unfold cQ.f bS.f; simp only [Option.bind_some]; repeat' split
  all_goals exact ⟨_, rfl⟩
 obtain ⟨r0, h0⟩ := hi a.f0 b.f0
 obtain ⟨r1, h1⟩ := hi a.f1 b.f1
 obtain ⟨r2, h2⟩ := hs a.f2 b.f2
 unfold gW.f
 rw [h0, h1, h2]
 simp only [Option.bind_some]
 repeat' split
 all_goals rfl
def dV : List S85 → List S85 → Int
 | [], [] => 0
 | [], _ :: _ => -1
 | _ :: _, [] => 1
 | a :: x, b :: y => if iY a b = 0 then dV x y else iY a b
theorem kW (x y : List S85) (k : Nat) (hx : k < x.length) (hy : k < y.length) :
  dV (x.drop k) (y.drop k) = if iY (bW x k) (bW y k) = 0 then dV (x.drop (k + 1)) (y.drop (k + 1)) else iY (bW x k) (bW y k) := by
 rw [List.drop_eq_getElem_cons hx, List.drop_eq_getElem_cons hy, dV]
 simp [bW, List.getD, hx, hy]
theorem oE (x y : List S85) (k : Nat) (hx : k < x.length) (hy : y.length = k) : dV (x.drop k) (y.drop k) = 1 := by
 rw [List.drop_eq_getElem_cons hx, show y.drop k = [] from List.drop_of_length_le (by omega)]; rfl
theorem qV (x y : List S85) (k : Nat) (hx : k = x.length) (hy : k ≤ y.length) : dV (x.drop k) (y.drop k) = if x.length < y.length then -1 else 0 := by
 rw [List.drop_of_length_le (by omega : x.length ≤ k)]
 by_cases h : k < y.length
 ·rw [List.drop_eq_getElem_cons h, if_pos (by omega)]; rfl
 ·rw [List.drop_of_length_le (by omega), if_neg (by omega)]; rfl
theorem wQ {a b : Int} (h : b = a) : Ending.returned (.int .i64 a) = .returned (.int .i64 b) := by rw [h]
theorem BL {w : World} {A : Option Addr} {n : Nat} {xs : List S85} (h : Kd.C k85 w A n xs) (k : Nat) (hk : k < n) : ∃ ad, A = some ad ∧ w.cell? (ad.add (k * 3)) = some (.int .i64 (bW xs k).f0) ∧ w.cell? ⟨(ad.add (k * 3)).block, (ad.add (k * 3)).off + 1, none⟩ = some (.int .i64 (bW xs k).f1) ∧ w.cell? ⟨(ad.add (k * 3)).block, (ad.add (k * 3)).off + 2, none⟩ = some (.string (bW xs k).f2) :=
 kT h (k : Int) (by omega) (by omega)
set_option maxHeartbeats 2000000 in
set_option maxRecDepth 100000 in
theorem pN (A0 : Option Addr) (c0 : Nat) (l0 : List S85) (A1 : Option Addr) (c1 : Nat) (l1 : List S85) (w : World) (hr0 : Kd.C k85 w A0 l0.length l0) (hc0 : l0.length ≤ c0) (hr1 : Kd.C k85 w A1 l1.length l1) (hc1 : l1.length ≤ c1) :
  Calls Tryz.prog 112 #[.slice A0 l0.length c0, .slice A1 l1.length c1, .func (.func 113) #[] #[]] w fun e w' => e = .returned (.int .i64 (dV l0 l1)) ∧ Below w.heap.size w w' := by
 have HR0 := aA.mk hr0
 have HR1 := aA.mk hr1
 have HC0 := aA.mk hc0
 have hm0 : l0.length ≤ 9223372036854775807 := hr0.2.1
 have hm1 : l1.length ≤ 9223372036854775807 := hr1.2.1
 clear hr0 hr1 hc0 hc1
 go_enter Tryz.func112, Tryz.ntmps112
 go_wp2_with fail
 go_loopw [13] (fun i wr => ∃ k : Nat, i = .int .i64 k ∧ k ≤ l0.length ∧ k ≤ l1.length ∧ aA (dV l0 l1 = dV (l0.drop k) (l1.drop k)) ∧ Below w.heap.size w wr) (fun i wr => l0.length - (intOf i).toNat)
 case atStart => exact ⟨0, rfl, by omega, by omega, ⟨rfl⟩, Below.refl _ _⟩
 case round =>
  obtain ⟨k, rfl, hk0, hk1, HE, hB⟩ := hrel
  have HB := aA.mk hB
  clear hB
  by_cases hlt : k < l0.length
  ·obtain ⟨ad0, e0, g0, g1, g2⟩ := BL (Kd.C_below HR0.out HB.out) k hlt
   cases e0
   have bt0 : decide (k < l0.length) = true := decide_eq_true hlt
   by_cases hl1 : k < l1.length
   ·obtain ⟨ad1, e1, -, -, -⟩ := BL (Kd.C_below HR1.out HB.out) k hl1
    cases e1
    have g3 : ∀ o, (wr.alloc o).cell? (ad1.add (k * 3)) = some (.int .i64 (bW l1 k).f0) := fun o => by
     obtain ⟨ad, e, h, _, _⟩ := BL (Kd.C_below HR1.out (HB.out.alloc HB.out.size o)) k hl1; cases e; exact h
    have g4 : ∀ o, (wr.alloc o).cell? ⟨(ad1.add (k * 3)).block, (ad1.add (k * 3)).off + 1, none⟩ = some (.int .i64 (bW l1 k).f1) := fun o => by
     obtain ⟨ad, e, _, h, _⟩ := BL (Kd.C_below HR1.out (HB.out.alloc HB.out.size o)) k hl1; cases e; exact h
    have g5 : ∀ o, (wr.alloc o).cell? ⟨(ad1.add (k * 3)).block, (ad1.add (k * 3)).off + 2, none⟩ = some (.string (bW l1 k).f2) := fun o => by
     obtain ⟨ad, e, _, _, h⟩ := BL (Kd.C_below HR1.out (HB.out.alloc HB.out.size o)) k hl1; cases e; exact h
    have bt1 : decide (l1.length ≤ k) = false := decide_eq_false (by omega)
    by_cases hc : iY (bW l0 k) (bW l1 k) = 0
    ·have hcc := yH (bW l0 k) (bW l1 k)
     have HN := aA.mk (HE.out.trans (by rw [kW l0 l1 k hlt hl1, if_pos hc]))
     rw [hc] at hcc
     have HC := aA.mk hcc
     clear hc hcc
     go_wp2_with (go_at_call 113; refine (gW.calls _ _ _ _ _ _ _ _ HC.out).mono ?_; rintro e w' ⟨rfl, hb⟩)
     go_roundw
     case rel => exact ⟨k + 1, by go_num, by omega, by omega, HN, ((HB.out.alloc HB.out.size _).alloc (by have := HB.out.size; simp; omega) _).trans (hb.mono (by have := HB.out.size; simp; omega))⟩
     case measure => simp [intOf]; omega
    ·have HC := aA.mk (yH (bW l0 k) (bW l1 k))
     have HN := aA.mk (HE.out.trans (by rw [kW l0 l1 k hlt hl1, if_neg hc]))
     have bn : (iY (bW l0 k) (bW l1 k) != 0) = true := bne_iff_ne.2 hc
     clear hc
     go_wp2_with (go_at_call 113; refine (gW.calls _ _ _ _ _ _ _ _ HC.out).mono ?_; rintro e w' ⟨rfl, hb⟩)
     go_ret
     exact ⟨wQ HN.out, ((HB.out.alloc HB.out.size _).alloc (by have := HB.out.size; simp; omega) _).trans (hb.mono (by have := HB.out.size; simp; omega))⟩
   ·have bt1 : decide (l1.length ≤ k) = true := decide_eq_true (by omega)
    have HN := aA.mk (HE.out.trans (oE l0 l1 k hlt (by omega)))
    clear hl1
    go_wp2
    go_ret
    exact ⟨wQ HN.out, HB.out.alloc HB.out.size _⟩
  ·have bt0 : decide (k < l0.length) = false := decide_eq_false hlt
   have HN := aA.mk (HE.out.trans (qV l0 l1 k (by omega) hk1))
   by_cases hl : l0.length < l1.length
   ·have bt2 : decide (l0.length < l1.length) = true := decide_eq_true hl
    clear hlt
    go_wp2
    go_ret
    exact ⟨wQ (HN.out.trans (if_pos hl)), HB.out⟩
   ·have bt2 : decide (l0.length < l1.length) = false := decide_eq_false hl
    clear hlt
    go_wp2
    go_ret
    exact ⟨wQ (HN.out.trans (if_neg hl)), HB.out⟩
set_option maxHeartbeats 2000000 in
set_option maxRecDepth 100000 in
theorem dX (A0 : Option Addr) (c0 : Nat) (l0 : List S85) (A1 : Option Addr) (c1 : Nat) (l1 : List S85) (w : World) (hr0 : Kd.C k85 w A0 l0.length l0) (hc0 : l0.length ≤ c0) (hr1 : Kd.C k85 w A1 l1.length l1) (hc1 : l1.length ≤ c1) :
  Calls Tryz.prog 90 #[.slice A0 l0.length c0, .slice A1 l1.length c1] w fun e w' => e = .returned (.int .i64 (dV l0 l1)) ∧ Below w.heap.size w w' := by
 have HC := pN A0 c0 l0 A1 c1 l1 w hr0 hc0 hr1 hc1
 clear hr0 hc0 hr1 hc1
 go_enter Tryz.func90, Tryz.ntmps90
 go_wp2_with (go_at_call 112; refine HC.mono ?_; rintro e w' ⟨rfl, hb⟩)
 go_ret
 exact ⟨rfl, hb⟩
def dX.f (l0 l1 : List S85) : Option Int := some (dV l0 l1)
theorem dX.calls (A0 : Option Addr) (c0 : Nat) (l0 : List S85) (A1 : Option Addr) (c1 : Nat) (l1 : List S85) (r : Int) (w : World) (hr0 : Kd.C k85 w A0 l0.length l0) (hc0 : l0.length ≤ c0) (hr1 : Kd.C k85 w A1 l1.length l1) (hc1 : l1.length ≤ c1) (h : dX.f l0 l1 = some r) :
  Calls Tryz.prog 90 #[.slice A0 l0.length c0, .slice A1 l1.length c1] w fun e w' => e = .returned (.int .i64 r) ∧ Below w.heap.size w w' := by
 obtain rfl := Option.some.inj h
 exact dX A0 c0 l0 A1 c1 l1 w hr0 hc0 hr1 hc1
end Go.Proofs.YtpflmgbpjhbmnaaGreat.B
end
section
namespace Go.Proofs.YtpflmgbpjhbmnaaGreat.B
open Go.RowKit Go.Proofs.YtpflmgbpjhbmnaaGreatW.PrintWords Go.Proofs.YtpflmgbpjhbmnaaGreatW.PrintLast Go.Proofs.YtpflmgbpjhbmnaaGreatW.PrintMore
set_option linter.unusedVariables false
set_option linter.unusedSimpArgs false
def iK (x y : Int) : Int := if x < y then -1 else if y < x then 1 else 0
def tO (x y : ByteArray) : Int := if Op.bytesLess x.toList y.toList = true then -1 else if Op.bytesLess y.toList x.toList = true then 1 else 0
theorem kF (x y : Int) : cD.f x y = some (iK x y) := by
 unfold cD.f cF.f iK
 simp only [Option.bind_some, bne_self_eq_false, Bool.false_eq_true, if_false]
 split
 ·rfl
 ·split <;> rfl
theorem wR (x y : ByteArray) : cQ.f x y = some (tO x y) := by
 unfold cQ.f bS.f tO
 simp only [Option.bind_some, bne_self_eq_false, Bool.false_eq_true, if_false]
 split
 ·rfl
 ·split <;> rfl
theorem nA (a b : S85) : iY a b = if a.f0 = b.f0 then (if a.f0 = 0 then iK a.f1 b.f1 else if a.f0 = 1 then tO a.f2 b.f2 else 0) else iK a.f0 b.f0 := by
 unfold iY gW.f
 rw [kF, kF, wR]
 simp only [Option.bind_some]
 repeat' split
 all_goals rfl
theorem kX (x y : Int) : iK y x = - iK x y := by unfold iK; repeat' split <;> omega
theorem tP (x y z : Int) : iK x y ≤ 0 → iK y z ≤ 0 → iK x z ≤ 0 := by unfold iK; repeat' split <;> omega
theorem tQ (x y : Int) : iK x y = 0 ↔ x = y := by unfold iK; repeat' split <;> omega
theorem zG (x y : ByteArray) : tO y x = - tO x y := by
 unfold tO
 rcases lY x.toList y.toList with ⟨h1, _, h3⟩ | ⟨h1, _, h3⟩ | ⟨h1, _, h3⟩ <;> simp [h1, h3]
theorem zH (x y z : ByteArray) : tO x y ≤ 0 → tO y z ≤ 0 → tO x z ≤ 0 := by
 unfold tO
 rcases lY x.toList y.toList with ⟨h1, h2, h3⟩ | ⟨h1, h2, h3⟩ | ⟨h1, h2, h3⟩ <;> rcases lY y.toList z.toList with ⟨k1, k2, k3⟩ | ⟨k1, k2, k3⟩ | ⟨k1, k2, k3⟩ <;> simp [h1, h3, k1, k3]
 ·simp [qN _ _ _ h1 k1]
 ·rw [← k2]; simp [h1]
 ·rw [h2]; simp [k1]
 ·rw [h2, k2]; simp [kL]
theorem nB (a b : S85) : iY b a = - iY a b := by
 rw [nA, nA]
 by_cases h : a.f0 = b.f0
 ·rw [if_pos h, if_pos h.symm, ← h]
  split
  ·exact kX _ _
  ·split
   ·exact zG _ _
   ·rfl
 ·rw [if_neg h, if_neg (fun e => h e.symm)]
  exact kX _ _
theorem pO (a b c : S85) (h1 : iY a b ≤ 0) (h2 : iY b c ≤ 0) : iY a c ≤ 0 := by
 rw [nA] at *
 by_cases e1 : a.f0 = b.f0
 ·by_cases e2 : b.f0 = c.f0
  ·rw [if_pos e1] at h1
   rw [if_pos e2, ← e1] at h2
   rw [if_pos (e1.trans e2)]
   split
   ·rename_i h; rw [if_pos h] at h1 h2; exact tP _ _ _ h1 h2
   ·rename_i h; rw [if_neg h] at h1 h2
    split
    ·rename_i h'; rw [if_pos h'] at h1 h2; exact zH _ _ _ h1 h2
    ·omega
  ·rw [if_neg e2] at h2
   rw [if_neg (by omega), e1]; exact h2
 ·rw [if_neg e1] at h1
  by_cases e2 : b.f0 = c.f0
  ·rw [if_neg (by omega), ← e2]; exact h1
  ·rw [if_neg e2] at h2
   have h3 := tP _ _ _ h1 h2
   by_cases e3 : a.f0 = c.f0
   ·exfalso
    have k1 := kX b.f0 c.f0
    rw [← e3] at k1 h2
    have := (tQ a.f0 b.f0).1 (by omega)
    exact e1 this
   ·rw [if_neg e3]; exact h3
abbrev Row := List S85
theorem fH : ∀ x y : Row, dV y x = - dV x y
 | [], [] => rfl
 | [], _ :: _ => rfl
 | _ :: _, [] => rfl
 | a :: x, b :: y => by
  simp only [dV]
  have h := nB a b
  by_cases e : iY a b = 0
  ·rw [if_pos e, if_pos (by omega)]; exact fH x y
  ·rw [if_neg e, if_neg (by omega)]; exact h
theorem iL : ∀ x y z : Row, dV x y ≤ 0 → dV y z ≤ 0 → dV x z ≤ 0
 | [], _, [] => fun _ _ => by simp [dV]
 | [], _, _ :: _ => fun _ _ => by simp [dV]
 | _ :: _, [], _ => fun h _ => by simp [dV] at h
 | _ :: _, _ :: _, [] => fun _ h => by simp [dV] at h
 | a :: x, b :: y, c :: z => by
  simp only [dV]
  intro h1 h2
  have s1 := nB a b
  have s2 := nB b c
  have s3 := nB a c
  have l1 : iY a b ≤ 0 := by
   by_cases e : iY a b = 0
   ·omega
   ·rw [if_neg e] at h1; exact h1
  have l2 : iY b c ≤ 0 := by
   by_cases e : iY b c = 0
   ·omega
   ·rw [if_neg e] at h2; exact h2
  have l3 := pO a b c l1 l2
  by_cases e : iY a c = 0
  ·have k1 := pO b c a l2 (by omega)
   have k2 := pO c a b (by omega) l1
   rw [if_pos (show iY a b = 0 by omega)] at h1
   rw [if_pos (show iY b c = 0 by omega)] at h2
   rw [if_pos e]
   exact iL x y z h1 h2
  ·rw [if_neg e]; exact l3
theorem fL (x : Row) : dV x x = 0 := by have := fH x x; omega
theorem kC {x y z : Row} (h1 : dV x y ≤ 0) (h2 : dV y z < 0) : dV x z < 0 := by
 have := iL z x y; have := fH x z; have := fH y z; omega
theorem gR {x y z : Row} (h1 : dV x y < 0) (h2 : dV y z ≤ 0) : dV x z < 0 := by
 have := iL y z x; have := fH x z; have := fH x y; omega
theorem BM (a b : S85) : Ev (fun k => aY.f k a.f0 a.f1 a.f2 b.f0 b.f1 b.f2) (iY a b) := by
 refine ⟨1, fun k hk => ?_⟩
 obtain ⟨k, rfl⟩ : ∃ m, k = m + 1 := ⟨k - 1, by omega⟩
 rw [nA]
 unfold aY.f
 simp only [aY.j0, if_true, Bool.false_eq_true, if_false, iK, tO]
 by_cases e : a.f0 = b.f0
 ·by_cases e0 : a.f0 = 0
  ·have e1 : ¬ a.f0 = 1 := by omega
   have e2 : ¬ b.f0 < b.f0 := by omega
   rcases Int.lt_trichotomy a.f1 b.f1 with h | h | h <;> simp [e, e0, h, show ¬ b.f0 = 1 by omega, show b.f0 = 0 by omega, e2] <;> (try omega)
   all_goals (repeat' split) <;> (try rfl) <;> (try omega)
  ·by_cases e1 : a.f0 = 1
   ·have b0 : ¬ b.f0 = 0 := by omega
    have b1 : b.f0 = 1 := by omega
    rcases lY a.f2.toList b.f2.toList with ⟨h1, _, h3⟩ | ⟨h1, _, h3⟩ | ⟨h1, _, h3⟩ <;> simp [e, e1, b0, b1, h1, h3]
   ·have b0 : ¬ b.f0 = 0 := by omega
    have b1 : ¬ b.f0 = 1 := by omega
    simp [e, b0, b1]
 ·rcases Int.lt_trichotomy a.f0 b.f0 with h | h | h
  ·simp [h, e]
  ·exact absurd h e
  ·simp [e, h, show ¬ a.f0 < b.f0 by omega]
theorem rW (x y : Row) : ∀ d k : Nat, x.length - k = d → k ≤ x.length → k ≤ y.length → x.length ≤ 9223372036854775807 → Ev (fun n => aU.l0 n x y k) (dV (x.drop k) (y.drop k)) := by
 intro d
 induction d with
 | zero =>
  intro k hd hx hy hm
  refine ⟨2, fun n hn => ?_⟩
  obtain ⟨n, rfl⟩ : ∃ m, n = m + 1 + 1 := ⟨n - 2, by omega⟩
  have hk : k = x.length := by omega
  rw [qV x y k hk hy]
  simp only [aU.l0]
  rw [if_neg (by omega)]
  simp only [aU.j1, Bool.false_eq_true, if_false]
  by_cases h : x.length < y.length
  ·rw [if_pos (by omega), if_pos h]
  ·rw [if_neg (by omega), if_neg (by omega), if_neg h]
 | succ d ih =>
  intro k hd hx hy hm
  have hkx : k < x.length := by omega
  by_cases hky : k < y.length
  ·obtain ⟨K1, h1⟩ := BM (bW x k) (bW y k)
   simp only [] at h1
   obtain ⟨K2, h2⟩ := ih (k + 1) (by omega) (by omega) (by omega) hm
   refine ⟨max K1 K2 + 2, fun n hn => ?_⟩
   obtain ⟨n, rfl⟩ : ∃ m, n = m + 1 + 1 := ⟨n - 2, by omega⟩
   simp only [aU.l0]
   rw [if_pos (by omega), decide_eq_true (by omega)]
   simp only [aU.j1, if_true]
   rw [if_pos (by omega), if_pos (by omega), if_pos (by omega), h1 n (by omega)]
   simp only [Option.bind_some]
   rw [kW x y k hkx hky]
   by_cases hc : iY (bW x k) (bW y k) = 0
   ·rw [if_pos hc, if_pos hc, show wrap64 ((k : Int) + 1) = ((k + 1 : Nat) : Int) by unfold wrap64; omega]
    exact h2 n (by omega)
   ·rw [if_neg hc, if_neg hc]
  ·refine ⟨2, fun n hn => ?_⟩
   obtain ⟨n, rfl⟩ : ∃ m, n = m + 1 + 1 := ⟨n - 2, by omega⟩
   rw [oE x y k hkx (by omega)]
   simp only [aU.l0]
   rw [if_pos (by omega), decide_eq_false (by omega)]
   simp only [aU.j1, Bool.false_eq_true, if_false]
   rw [if_neg (by omega), if_pos (by omega)]
theorem qW (x y : Row) (hm : x.length ≤ 9223372036854775807) : Ev (fun n => aU.f n x y) (dV x y) := by
 have h := rW x y x.length 0 (by omega) (by omega) (by omega) hm
 simp only [List.drop_zero] at h
 exact h
def rX (x : Row) : Bool := decide (30 < x.length) || x.any fun v => decide (5000 < v.f2.size)
theorem tR (x : Row) (hm : x.length ≤ 30) : ∀ d k : Nat, x.length - k = d → k ≤ x.length → Ev (fun n => bH.l0 n x k) ((x.drop k).any fun v => decide (5000 < v.f2.size)) := by
 intro d
 induction d with
 | zero =>
  intro k hd hx
  refine ⟨1, fun n hn => ?_⟩
  obtain ⟨n, rfl⟩ : ∃ m, n = m + 1 := ⟨n - 1, by omega⟩
  rw [List.drop_of_length_le (by omega)]
  simp only [bH.l0]
  rw [if_neg (by omega)]; rfl
 | succ d ih =>
  intro k hd hx
  have hkx : k < x.length := by omega
  obtain ⟨K2, h2⟩ := ih (k + 1) (by omega) (by omega)
  refine ⟨K2 + 1, fun n hn => ?_⟩
  obtain ⟨n, rfl⟩ : ∃ m, n = m + 1 := ⟨n - 1, by omega⟩
  simp only [bH.l0]
  rw [if_pos (by omega), if_pos (by omega), List.drop_eq_getElem_cons hkx, List.any_cons]
  have hr : bW x k = x[k] := by simp [bW, List.getD, hkx]
  rw [hr]
  by_cases hc : (x[k].f2.size : Int) > 5000
  ·rw [if_pos hc, decide_eq_true (by omega : 5000 < x[k].f2.size)]; rfl
  ·rw [if_neg hc, decide_eq_false (by omega : ¬ 5000 < x[k].f2.size), Bool.false_or, show wrap64 ((k : Int) + 1) = ((k + 1 : Nat) : Int) by unfold wrap64; omega]
   exact h2 n (by omega)
theorem zI (x : Row) : Ev (fun n => bH.f n x) (rX x) := by
 unfold bH.f rX
 by_cases h : 30 < x.length
 ·refine ⟨0, fun n _ => ?_⟩
  simp only []
  rw [if_pos (by omega), decide_eq_true h]; rfl
 ·obtain ⟨K, hk⟩ := tR x (by omega) x.length 0 (by omega) (by omega)
  refine ⟨K, fun n hn => ?_⟩
  simp only []
  rw [if_neg (by omega), decide_eq_false h, Bool.false_or]
  simpa using hk n hn
end Go.Proofs.YtpflmgbpjhbmnaaGreat.B
end
section
namespace Go.Proofs.YtpflmgbpjhbmnaaGreat.OwnK
open Go Go.Sort Go.RowKit Go.Proofs Go.Proofs.YtpflmgbpjhbmnaaGreatW.PrintWords
set_option linter.unusedVariables false
set_option linter.unusedSimpArgs false
variable {α : Type} [Inhabited α] {enc : α → List Value} {k : Nat}
theorem oF {w : World} {base g n cap : Nat} {e : TypeId} {inner : List Value} (h : w.ownsRow base e k (.slice (some ⟨g, 0, none⟩) n cap) n inner) : Holds id w g 0 inner.toArray := by
 rcases h.2 with ⟨e0, _⟩ | ⟨g', cap', cur, e0, hb, hg, hn, hm, hs, ht⟩
 ·cases e0
 ·injection e0 with e1 _ e3
  injection e1 with e1
  injection e1 with e1
  subst e1; subst e3
  intro j hj
  have hj2 : j < inner.length := by simpa using hj
  have hj' : j < n * k := by rw [← h.1]; exact hj2
  refine ⟨?_, by simp [World.frozen?, hg]⟩
  have e1 : (cur.toList.take (n * k))[j]? = inner[j]? := by rw [ht]
  rw [List.getElem?_take, if_pos hj', Array.getElem?_toList, List.getElem?_eq_getElem hj2] at e1
  simp only [World.cell?, hg, Nat.zero_add]
  simp only [Option.isSome_none, Bool.false_eq_true, if_false]
  rw [e1]
  simp [getElem!_pos, hj2]
theorem own_put {w : World} {base g n cap : Nat} {e : TypeId} {inner ys : List Value} (h : w.ownsRow base e k (.slice (some ⟨g, 0, none⟩) n cap) n inner) (hy : ys.length = n * k) :
  (putRow id w g 0 ys.toArray).ownsRow base e k (.slice (some ⟨g, 0, none⟩) n cap) n ys := by
 rcases h.2 with ⟨e0, _⟩ | ⟨g', cap', cur, e0, hb, hg, hn, hm, hs, ht⟩
 ·cases e0
 ·injection e0 with e1 _ e3
  injection e1 with e1
  injection e1 with e1
  subst e1; subst e3
  have hle : n * k ≤ cap * k := Nat.mul_le_mul_right k hn
  refine ⟨hy, .inr ⟨g, cap, putCells id 0 ys.toArray cur, rfl, hb, ?_, hn, hm, by simpa [putCells] using hs, ?_⟩⟩
  ·simp [putRow, mapBlock, Array.getElem?_modify, hg, onCells]
  ·apply List.ext_getElem?
   intro j
   rw [List.getElem?_take, Array.getElem?_toList]
   by_cases hj : j < n * k
   ·have hjc : j < cur.size := by omega
    simp only [if_pos hj, putCells, Array.getElem?_mapIdx, Array.getElem?_eq_getElem hjc, Option.map_some]
    rw [if_pos (by simp; omega), List.getElem?_eq_getElem (by omega)]
    simp [getElem!_pos, show j < ys.length by omega]
   ·simp [hj]
    omega
theorem kY {B : Nat} {w0 w : World} {g off : Nat} {d : Array Value} (h : Below B w0 w) (hg : B ≤ g) : Below B w0 (putRow id w g off d) :=
 ⟨h.os, h.tape, h.output, by simpa [putRow, mapBlock] using h.size, fun i hi => by
  rw [← h.block i hi]
  simp [putRow, mapBlock, Array.getElem?_modify, show g ≠ i by omega]⟩
theorem tS {w : World} {g off i : Nat} {d : Array Value} (hi : i ≠ g) : (putRow id w g off d).heap[i]? = w.heap[i]? := by
 simp [putRow, mapBlock, Array.getElem?_modify, Ne.symm hi]
theorem flat_get (hk : ∀ x, (enc x).length = k) (xs : List α) (j : Nat) (hj : j < xs.length * k) : (flatK enc k xs.toArray)[j]? = some (enc xs[j / k]!)[j % k]! := by
 have h1 : j < (Array.range (xs.toArray.size * k)).size := by simpa using hj
 have h2 : (Array.range (xs.toArray.size * k))[j]? = some j := by
  rw [Array.getElem?_eq_getElem h1]; simp
 unfold flatK
 rw [Array.getElem?_map, h2]
 simp
theorem qX (xs : List α) : (flatK enc k xs.toArray).toList.length = xs.length * k := by simp [flatK]
theorem oG (hk : ∀ x, (enc x).length = k) (xs : List α) : Reps (fun x cs => cs = enc x) k xs (flatK enc k xs.toArray).toList := by
 refine ⟨qX xs, fun j p hj => ?_⟩
 obtain ⟨hjl, hp⟩ := List.getElem?_eq_some_iff.1 hj
 subst hp
 show _ = enc xs[j]
 apply List.ext_getElem?
 intro i
 rw [List.getElem?_take]
 by_cases hi : i < k
 ·rw [if_pos hi, List.getElem?_drop, Array.getElem?_toList]
  have hlt : j * k + i < xs.length * k := by
   have : (j + 1) * k ≤ xs.length * k := Nat.mul_le_mul_right k hjl
   rw [Nat.add_mul, Nat.one_mul] at this; omega
  have hk0 : 0 < k := by omega
  rw [flat_get hk xs _ hlt]
  have e1 : (j * k + i) / k = j := by rw [Nat.mul_comm, Nat.mul_add_div hk0, Nat.div_eq_of_lt hi, Nat.add_zero]
  have e2 : (j * k + i) % k = i := by rw [Nat.mul_comm, Nat.mul_add_mod, Nat.mod_eq_of_lt hi]
  rw [e1, e2]
  have hi2 : i < (enc xs[j]).length := by rw [hk]; exact hi
  rw [getElem!_pos xs j hjl, List.getElem?_eq_getElem hi2, getElem!_pos (enc xs[j]) i hi2]
 ·rw [if_neg hi, List.getElem?_eq_none (by rw [hk]; omega)]
theorem tT {R : α → List Value → Prop} (hk : ∀ x, (enc x).length = k) (hk0 : 0 < k) {xs : List α} {inner : List Value} (h : Reps R k xs inner) (hR : ∀ x cs, R x cs → cs = enc x) : inner = (flatK enc k xs.toArray).toList := by
 apply List.ext_getElem?
 intro j
 rcases Nat.lt_or_ge j (xs.length * k) with hj | hj
 ·rw [show (flatK enc k xs.toArray).toList[j]? = (flatK enc k xs.toArray)[j]? from Array.getElem?_toList, flat_get hk xs j hj]
  have hq : j / k < xs.length := by rw [Nat.div_lt_iff_lt_mul hk0]; exact hj
  have h1 := hR _ _ (h.2 (j / k) _ (List.getElem?_eq_getElem hq))
  have h2 := congrArg (fun l => l[j % k]?) h1
  simp only [List.getElem?_take, List.getElem?_drop, if_pos (Nat.mod_lt j hk0)] at h2
  rw [Nat.mul_comm, Nat.div_add_mod] at h2
  have hi2 : j % k < (enc xs[j / k]).length := by rw [hk]; exact Nat.mod_lt j hk0
  rw [h2, List.getElem?_eq_getElem hi2, getElem!_pos xs (j / k) hq, getElem!_pos (enc xs[j / k]) (j % k) hi2]
 ·rw [List.getElem?_eq_none (by rw [h.1]; exact hj), List.getElem?_eq_none (by rw [qX]; exact hj)]
end Go.Proofs.YtpflmgbpjhbmnaaGreat.OwnK
end
section
namespace Go.Proofs
open Go.Shelf
def Tryz.sortTime_ren : Go.Shelf.Ren := ⟨fun | 6 => 98 | 15 => 117 | 14 => 116 | 28 => 131 | 29 => 132 | 20 => 123 | 21 => 124 | 22 => 125 | 23 => 126 | 24 => 127 | 25 => 128 | 26 => 129 | 27 => 130 | 46 => 137 | 47 => 138 | 48 => 139 | 49 => 140 | 50 => 141 | 57 => 143 | n => n, fun | 22 => 23 | 24 => 59 | 25 => 135 | 3 => 3 | 39 => 159 | 0 => 0 | 53 => 174 | 55 => 176 | 4 => 4 | 46 => 167 | 45 => 166 | 50 => 171 | 5 => 5 | 9 => 9 | 66 => 180 | 70 => 184 | 76 => 186 | 77 => 101 | n => n, fun | n => n⟩
theorem Tryz.sortTime : Go.Proofs.SlLaysF0.n6 Tryz.prog Tryz.sortTime_ren := {
 mixed := by kernel_rfl
 f6 := ⟨Tryz.f98.name, by decide, Tryz.func98.trans (congrArg some (by kernel_rfl))⟩
 f14 := ⟨Tryz.f116.name, by decide, Tryz.func116.trans (congrArg some (by kernel_rfl))⟩
 f15 := Tryz.func117.trans (congrArg some (by kernel_rfl))
 f20 := ⟨Tryz.f123.name, by decide, Tryz.func123.trans (congrArg some (by kernel_rfl))⟩
 f21 := ⟨Tryz.f124.name, by decide, Tryz.func124.trans (congrArg some (by kernel_rfl))⟩
 f22 := ⟨Tryz.f125.name, by decide, Tryz.func125.trans (congrArg some (by kernel_rfl))⟩
 f23 := ⟨Tryz.f126.name, by decide, Tryz.func126.trans (congrArg some (by kernel_rfl))⟩
 f24 := ⟨Tryz.f127.name, by decide, Tryz.func127.trans (congrArg some (by kernel_rfl))⟩
 f25 := ⟨Tryz.f128.name, by decide, Tryz.func128.trans (congrArg some (by kernel_rfl))⟩
 f26 := ⟨Tryz.f129.name, by decide, Tryz.func129.trans (congrArg some (by kernel_rfl))⟩
 f27 := ⟨Tryz.f130.name, by decide, Tryz.func130.trans (congrArg some (by kernel_rfl))⟩
 f28 := Tryz.func131.trans (congrArg some (by kernel_rfl))
 f29 := Tryz.func132.trans (congrArg some (by kernel_rfl))
 f46 := ⟨Tryz.f137.name, by decide, Tryz.func137.trans (congrArg some (by kernel_rfl))⟩
 f47 := Tryz.func138.trans (congrArg some (by kernel_rfl))
 f48 := Tryz.func139.trans (congrArg some (by kernel_rfl))
 f49 := ⟨Tryz.f140.name, by decide, Tryz.func140.trans (congrArg some (by kernel_rfl))⟩
 f50 := ⟨Tryz.f141.name, by decide, Tryz.func141.trans (congrArg some (by kernel_rfl))⟩
 f57 := ⟨Tryz.f143.name, by decide, Tryz.func143.trans (congrArg some (by kernel_rfl))⟩
 t0 := Tryz.underlying0
 a0 := Tryz.isAgg0
 z0 := Tryz.sizeOf0
 v0 := Tryz.zeroValue0
 t3 := Tryz.underlying3
 a3 := Tryz.isAgg3
 z3 := Tryz.sizeOf3
 v3 := Tryz.zeroValue3
 t4 := Tryz.underlying4
 a4 := Tryz.isAgg4
 z4 := Tryz.sizeOf4
 v4 := Tryz.zeroValue4
 t5 := Tryz.underlying5
 a5 := Tryz.isAgg5
 z5 := Tryz.sizeOf5
 v5 := Tryz.zeroValue5
 t9 := Tryz.underlying9
 a9 := Tryz.isAgg9
 z9 := Tryz.sizeOf9
 v9 := Tryz.zeroValue9
 t22 := Tryz.underlying23
 a22 := Tryz.isAgg23
 z22 := Tryz.sizeOf23
 v22 := Tryz.zeroValue23
 t25 := Tryz.underlying135
 a25 := Tryz.isAgg135
 z25 := Tryz.sizeOf135
 v25 := Tryz.zeroValue135
 t39 := Tryz.underlying159
 a39 := Tryz.isAgg159
 z39 := Tryz.sizeOf159
 v39 := Tryz.zeroValue159
 t45 := Tryz.underlying166
 a45 := Tryz.isAgg166
 z45 := Tryz.sizeOf166
 v45 := Tryz.zeroValue166
 t46 := Tryz.underlying167
 a46 := Tryz.isAgg167
 z46 := Tryz.sizeOf167
 v46 := Tryz.zeroValue167
 t50 := Tryz.underlying171
 a50 := Tryz.isAgg171
 z50 := Tryz.sizeOf171
 v50 := Tryz.zeroValue171
 t53 := Tryz.underlying174
 a53 := Tryz.isAgg174
 z53 := Tryz.sizeOf174
 v53 := Tryz.zeroValue174
 t55 := Tryz.underlying176
 a55 := Tryz.isAgg176
 z55 := Tryz.sizeOf176
 v55 := Tryz.zeroValue176
 t66 := Tryz.underlying180
 a66 := Tryz.isAgg180
 z66 := Tryz.sizeOf180
 v66 := Tryz.zeroValue180
 t70 := Tryz.underlying184
 a70 := Tryz.isAgg184
 z70 := Tryz.sizeOf184
 v70 := Tryz.zeroValue184
 t76 := Tryz.underlying186
 a76 := Tryz.isAgg186
 z76 := Tryz.sizeOf186
 v76 := Tryz.zeroValue186
 t77 := Tryz.underlying101
 a77 := Tryz.isAgg101
 z77 := Tryz.sizeOf101
 v77 := Tryz.zeroValue101 }
end Go.Proofs
end
section
namespace Go.Proofs.YtpflmgbpjhbmnaaGreat.B
open Go Go.Sort Go.RowKit Go.Lib Go.Proofs Go.Proofs.YtpflmgbpjhbmnaaGreatW.PrintWords Go.Proofs.YtpflmgbpjhbmnaaGreatW.PrintLast Go.Proofs.YtpflmgbpjhbmnaaGreatW.PrintMore Go.Proofs.YtpflmgbpjhbmnaaGreat.OwnK
set_option linter.unusedVariables false
set_option linter.unusedSimpArgs false
set_option maxRecDepth 100000
def eM (x y : S59) : Int := if x.f0 = y.f0 then iK x.f1 y.f1 else iK x.f0 y.f0
theorem gJ (x y : S59) : eM y x = - eM x y := by
 unfold eM
 by_cases h : x.f0 = y.f0
 ·rw [if_pos h, if_pos h.symm, kX]
 ·rw [if_neg h, if_neg (fun e => h e.symm), kX]
theorem tU (x y z : S59) (h1 : eM x y ≤ 0) (h2 : eM y z ≤ 0) : eM x z ≤ 0 := by
 unfold eM iK at *
 repeat' split at h1
 all_goals repeat' split at h2
 all_goals repeat' split
 all_goals omega
theorem jY (x y : S59) : eM x y = 0 ↔ x = y := by
 obtain ⟨a, b⟩ := x
 obtain ⟨c, d⟩ := y
 unfold eM
 by_cases h : a = c
 ·subst h; simp [tQ]
 ·rw [if_neg h, tQ]; simp [h]
theorem iZ (x : S59) : eM x x = 0 := (jY x x).2 rfl
theorem nC (x y : S59) : eM x y < 0 ↔ x.f0 < y.f0 ∨ (x.f0 = y.f0 ∧ x.f1 < y.f1) := by
 unfold eM iK
 repeat' split
 all_goals omega
instance : Inhabited S59 := ⟨z59⟩
theorem DQ : SWO (ltOf eM) where
 irrefl x := by unfold ltOf; rw [iZ]; rfl
 trans x y z h1 h2 := by
  unfold ltOf at *
  simp only [decide_eq_true_eq, nC] at *
  omega
 ntrans x y z h1 h2 := by
  unfold ltOf at *
  simp only [decide_eq_false_iff_not, nC] at *
  omega
set_option maxHeartbeats 1000000 in
theorem mF (x y : Int) (w : World) : Calls Tryz.prog 121 #[.int .i64 x, .int .i64 y] w fun e w' => e = .returned (.int .i64 (iK x y)) ∧ w' = w := by
 by_cases h1 : x < y
 ·have e1 : iK x y = -1 := by unfold iK; rw [if_pos h1]
  rw [e1]
  go_enter Tryz.func121, Tryz.ntmps121
  go_wp2
  go_ret
  exact ⟨rfl, rfl⟩
 ·by_cases h2 : y < x
  ·have e1 : iK x y = 1 := by unfold iK; rw [if_neg h1, if_pos h2]
   rw [e1]
   go_enter Tryz.func121, Tryz.ntmps121
   go_wp2
   go_ret
   exact ⟨rfl, rfl⟩
  ·have e1 : iK x y = 0 := by unfold iK; rw [if_neg h1, if_neg h2]
   rw [e1]
   go_enter Tryz.func121, Tryz.ntmps121
   go_wp2
   go_ret
   exact ⟨rfl, rfl⟩
set_option maxHeartbeats 1000000 in
theorem pP (x y : S59) (w : World) : Calls Tryz.prog 99 #[.agg #[.int .i64 x.f0, .int .i64 x.f1], .agg #[.int .i64 y.f0, .int .i64 y.f1]] w fun e w' => e = .returned (.int .i64 (eM x y)) ∧ ∃ os, w' = grow w os := by
 obtain ⟨a, b⟩ := x
 obtain ⟨c, d⟩ := y
 have HC : ∀ W, Calls Tryz.prog 118 #[.agg #[.int .i64 a, .int .i64 b], .agg #[.int .i64 c, .int .i64 d]] W fun e w' => e = .returned (.int .i64 (eM ⟨a, b⟩ ⟨c, d⟩)) ∧ ∃ os, w' = grow W os := by
  intro W
  by_cases h : a = c
  ·have e1 : eM ⟨a, b⟩ ⟨c, d⟩ = iK b d := by unfold eM; rw [if_pos h]
   have hne : (a != c) = false := by simp [h]
   rw [e1]
   clear e1 h
   have HI := aA.mk (mF b d)
   generalize iK b d = r at HI
   go_enter Tryz.func118, Tryz.ntmps118
   go_wp2_with (go_at_call 121; refine (HI.out _).mono ?_; rintro e w' ⟨rfl, rfl⟩)
   go_ret
   exact ⟨rfl, _, by rw [alloc_eq_grow, alloc_eq_grow, grow_grow]⟩
  ·have e1 : eM ⟨a, b⟩ ⟨c, d⟩ = iK a c := by unfold eM; rw [if_neg h]
   have hne : (a != c) = true := by simp [h]
   rw [e1]
   clear e1 h
   have HI := aA.mk (mF a c)
   generalize iK a c = r at HI
   go_enter Tryz.func118, Tryz.ntmps118
   go_wp2_with (go_at_call 121; refine (HI.out _).mono ?_; rintro e w' ⟨rfl, rfl⟩)
   go_ret
   exact ⟨rfl, _, by rw [alloc_eq_grow, alloc_eq_grow, grow_grow]⟩
 have HC := aA.mk HC
 generalize eM ⟨a, b⟩ ⟨c, d⟩ = r at HC
 go_enter Tryz.func99, Tryz.ntmps99
 go_wp2_with (go_at_call 118; refine (HC.out _).mono ?_; rintro e w' ⟨rfl, os, rfl⟩)
 go_ret
 exact ⟨rfl, _, by rw [alloc_eq_grow, alloc_eq_grow, grow_grow, grow_grow]⟩
def wS (x : S59) : List Value := [.int .i64 x.f0, .int .i64 x.f1]
theorem wT (blk off size : Nat) (w : World) : CmpLays Tryz.prog 99 #[] wS 2 eM blk off size w :=
 fun _ _ _ _ x y => (pP x y _).mono fun e w' ⟨he, os, hw⟩ => ⟨he, 0, os, hw⟩
def gS (l : List S59) : List S59 := l.mergeSort fun x y => !(ltOf eM) y x
theorem mG (l : List S59) : (gS l).Perm l := List.mergeSort_perm _ _
theorem gX (l : List S59) : (gS l).length = l.length := (mG l).length_eq
theorem tV (l : List S59) (x : S59) : x ∈ gS l ↔ x ∈ l := (mG l).mem_iff
theorem oH (l : List S59) : (gS l).Pairwise fun x y => eM x y ≤ 0 := by
 have h := List.pairwise_mergeSort (le := fun x y => !(ltOf eM) y x)
  (by
   intro x y z h1 h2
   simp only [ltOf, Bool.not_eq_true', decide_eq_false_iff_not] at *
   have a := gJ x y; have b := gJ y z; have c := gJ x z
   have := tU x y z (by omega) (by omega)
   omega)
  (by
   intro x y
   simp only [ltOf, Bool.or_eq_true, Bool.not_eq_true', decide_eq_false_iff_not]
   have := gJ x y
   omega) l
 refine h.imp ?_
 intro x y hxy
 simp only [ltOf, Bool.not_eq_true', decide_eq_false_iff_not] at hxy
 have := gJ x y
 omega
set_option maxHeartbeats 1000000 in
theorem tW (base : Nat) (u : Value) (l : List S59) (ok : Nat → Prop) (w0 w : World) (hR : Kd.R k59 59 w base ok u l) (hB : Below base w0 w) (hb : base ≤ w.heap.size) (hl : l.length ≤ 1152921504606846976) :
  Calls Tryz.prog 98 #[u, .func (.func 99) #[] #[]] w fun e w' => e = .returned (.tuple #[]) ∧ Kd.R k59 59 w' base ok u (gS l) ∧ Below base w0 w' ∧ (∀ i, i < w.heap.size → some i ≠ u.ownBlock → w'.heap[i]? = w.heap[i]?) := by
 obtain ⟨hok, inner, hown, hr⟩ := hR
 have hown2 : w.ownsRow base 59 2 u l.length inner := hown
 rcases hown2.2 with ⟨rfl, h0⟩ | ⟨g, cap, cur, rfl, hg, hcells, _⟩
 ·obtain rfl : l = [] := List.eq_nil_of_length_eq_zero h0
  refine (AnyF.slices_SortFunc_none Tryz.sortTime none 0 (.func (.func 99) #[] #[]) w).mono ?_
  rintro e w' ⟨rfl, rfl⟩
  refine ⟨rfl, ?_, hB, fun _ _ _ => rfl⟩
  have : gS ([] : List S59) = [] := List.mergeSort_nil
  rw [this]
  exact ⟨hok, inner, hown, hr⟩
 ·have hlt : g < w.heap.size := (Array.getElem?_eq_some_iff.1 hcells).1
  have hlen : ∀ x : S59, (wS x).length = 2 := fun _ => rfl
  have hin : inner = (flatK wS 2 l.toArray).toList := tT (enc := wS) hlen (by decide) hr (fun x cs h => tL h)
  have hH : HoldsK wS 2 w g 0 l.toArray := by
   unfold HoldsK
   have := oF hown2
   rw [hin] at this
   exact this
  have hcon := AnyQ.slices_SortFunc_total Tryz.sortTime 2 Tryz.isAgg59 Tryz.sizeOf59 wS hlen (fun x v hv => by simp [wS] at hv; rcases hv with rfl | rfl <;> rfl) eM DQ 99 #[] g 0 cap l.toArray w
   (enters_of Tryz.func99 (by kernel_rfl) rfl) (wT g 0 l.toArray.size w) hH hlt (by simp; omega)
   (fun x y h1 h2 => by
    simp only [ltOf, decide_eq_false_iff_not] at h1 h2
    have := gJ x y
    exact (jY x y).1 (by omega))
  have hsz : l.toArray.size = l.length := by simp
  rw [hsz] at hcon
  refine Calls.mono hcon ?_
  rintro e w' ⟨rfl, n, os, rfl⟩
  have e1 : (l.toArray.toList.mergeSort fun x y => !(ltOf eM) y x) = gS l := rfl
  rw [e1]
  unfold sortWorldK putRowK
  generalize hF : flatK wS 2 (gS l).toArray = F
  have hFr : Reps (fun x cs => cs = wS x) 2 (gS l) F.toList := hF ▸ oG hlen (gS l)
  have hp := own_put (ys := F.toList) hown2 (by rw [hFr.1, gX])
  have hw : grow (putRow id (Sort.ahead w n) g 0 F) os = grow (redrawn (putRow id w g 0 F.toList.toArray) (w.drawn + n)) os := by rw [Array.toArray_toList]; rfl
  rw [hw]
  have hb1 := below_regrown (putRow id w g 0 F.toList.toArray) (w.drawn + n) os
  have hsz2 : (putRow id w g 0 F.toList.toArray).heap.size = w.heap.size := by simp [putRow, mapBlock]
  have hB2 := kY (off := 0) (d := F.toList.toArray) hB hg
  refine ⟨rfl, ⟨hok, F.toList, ?_, ?_⟩, hB2.trans (hb1.mono (by rw [hsz2]; exact hb)), fun i hi hne => ?_⟩
  ·rw [gX]; exact gT hp hb1
  ·exact hFr.imp_ (fun x cs h => by subst h; exact gI _ _ _ x)
  ·rw [hb1.block i (by rw [hsz2]; exact hi)]
   exact tS (fun e => hne (by rw [e]; simp [Value.ownBlock]))
end Go.Proofs.YtpflmgbpjhbmnaaGreat.B
end
section
namespace Go.Proofs.YtpflmgbpjhbmnaaGreat.B
open Go.RowKit Go.Proofs.YtpflmgbpjhbmnaaGreatW.PrintWords Go.Proofs.YtpflmgbpjhbmnaaGreatW.PrintLast Go.Proofs.YtpflmgbpjhbmnaaGreatW.PrintMore
set_option linter.unusedVariables false
set_option linter.unusedSimpArgs false
set_option maxRecDepth 100000
def cP.f (l : List S59) : Option (List S59) := if l.length * 16 ≤ 140737488355328 then some l else none
theorem cP.f_some (l : List S59) (h : l.length * 16 ≤ 140737488355328) : cP.f l = some l := if_pos h
set_option maxHeartbeats 2000000 in
theorem cP.calls (A0 : Option Addr) (c0 : Nat) (l0 : List S59) (r : List S59) (w : World) (hr0 : Kd.C k59 w A0 l0.length l0) (hc0 : l0.length ≤ c0) (h : cP.f l0 = some r) :
  Calls Tryz.prog 55 #[.slice A0 l0.length c0] w fun e w' => ∃ v0_ : Value, e = .returned (v0_) ∧ Kd.R k59 59 w' w.heap.size (fun _ => True) v0_ r ∧ Below w.heap.size w w' := by
 unfold cP.f at h
 split at h
 ·rename_i hl
  obtain rfl := Option.some.inj h
  cases A0 with
  | none =>
   have h0 : l0 = [] := by
    cases l0 with
    | nil => rfl
    | cons a b => obtain ⟨ad, e, _⟩ := hr0.2.2 (by simp); cases e
   subst h0
   have hn := fun W => Lib.run_eql_slice_nil (P := Tryz.prog) W 23 59 none 0 c0 0 0 Tryz.underlying23
   go_enter Tryz.func55, Tryz.ntmps55
   go_wp2
   go_ret
   exact ⟨_, rfl, Kd.R_nil _ _ _ _ _, Below.refl _ _⟩
  | some ad =>
   have HR0 := aA.mk hr0
   have HL := aA.mk hl
   clear hr0 h hl
   have hn := fun W => Lib.run_eql_slice_nil (P := Tryz.prog) W 23 59 (some ad) l0.length c0 0 0 Tryz.underlying23
   go_enter Tryz.func55, Tryz.ntmps55
   go_wp2_with (first
    | ((with_reducible refine bK (N := 5) rfl ?_); refine Kd.R_lit k59 _ 59 ?hg (N := 5) ?hd (xs := ([] : List S59)) (inner := []) (ok := fun _ => True) (okp := fun _ => True) ?hr ?hp (fun _ hk => hk) trivial (Below.refl _ _) (Nat.le_refl _) (by simp) ?_; (case hd => rfl); (case hg => rfl); (case hr => first | (go_simp; done) | (go_simp; rfl)); (case hp => exact (Reps.none _ _)); intro v1 w1 ho hb hg hnew; have HO := aA.mk ho; have HB := aA.mk hb; clear ho hb hg hnew)
    | ((with_reducible refine cI (b := .append) (xs := #[.tmp 5, .tmp 6]) rfl ?_); at_builtin; refine Kd.R_append_rows k59 (w0 := w) w.heap.size rfl (.tmp 5) (.tmp 6) 23 59 (.agg #[(.int .i64 0), (.int .i64 0)]) 16 rfl Tryz.underlying23 fZ rfl (by decide) (by omega) v1 ([] : List S59) l0 (some ad) l0.length c0 (fun _ => True) (fun _ => False) rfl rfl HO.out (Kd.C_below HR0.out HB.out) (fun _ _ h => h) (fun _ h => h.elim) (fun _ _ => trivial) HB.out HB.out.size (by have := HL.out; simpa using this) ?_; intro v2 w2 ho hb hg hat; have HO2 := aA.mk ho; have HB2 := aA.mk hb; clear ho hb hg hat))
   go_ret
   exact ⟨_, rfl, by simpa using HO2.out, HB2.out⟩
 ·cases h
def bP.f (l : List S85) : Option (List S85) := if l.length * 32 ≤ 140737488355328 then some l else none
theorem bP.f_some (l : List S85) (h : l.length * 32 ≤ 140737488355328) : bP.f l = some l := if_pos h
set_option maxHeartbeats 2000000 in
theorem bP.calls (A0 : Option Addr) (c0 : Nat) (l0 : List S85) (r : List S85) (w : World) (hr0 : Kd.C k85 w A0 l0.length l0) (hc0 : l0.length ≤ c0) (h : bP.f l0 = some r) :
  Calls Tryz.prog 68 #[.slice A0 l0.length c0] w fun e w' => ∃ v0_ : Value, e = .returned (v0_) ∧ Kd.R k85 85 w' w.heap.size (fun _ => True) v0_ r ∧ Below w.heap.size w w' := by
 unfold bP.f at h
 split at h
 ·rename_i hl
  obtain rfl := Option.some.inj h
  cases A0 with
  | none =>
   have h0 : l0 = [] := by
    cases l0 with
    | nil => rfl
    | cons a b => obtain ⟨ad, e, _⟩ := hr0.2.2 (by simp); cases e
   subst h0
   have hn := fun W => Lib.run_eql_slice_nil (P := Tryz.prog) W 45 85 none 0 c0 0 0 Tryz.underlying45
   go_enter Tryz.func68, Tryz.ntmps68
   go_wp2
   go_ret
   exact ⟨_, rfl, Kd.R_nil _ _ _ _ _, Below.refl _ _⟩
  | some ad =>
   have HR0 := aA.mk hr0
   have HL := aA.mk hl
   clear hr0 h hl
   have hn := fun W => Lib.run_eql_slice_nil (P := Tryz.prog) W 45 85 (some ad) l0.length c0 0 0 Tryz.underlying45
   go_enter Tryz.func68, Tryz.ntmps68
   go_wp2_with (first
    | ((with_reducible refine bK (N := 5) rfl ?_); refine Kd.R_lit k85 _ 85 ?hg (N := 5) ?hd (xs := ([] : List S85)) (inner := []) (ok := fun _ => True) (okp := fun _ => True) ?hr ?hp (fun _ hk => hk) trivial (Below.refl _ _) (Nat.le_refl _) (by simp) ?_; (case hd => rfl); (case hg => rfl); (case hr => first | (go_simp; done) | (go_simp; rfl)); (case hp => exact (Reps.none _ _)); intro v1 w1 ho hb hg hnew; have HO := aA.mk ho; have HB := aA.mk hb; clear ho hb hg hnew)
    | ((with_reducible refine cI (b := .append) (xs := #[.tmp 5, .tmp 6]) rfl ?_); at_builtin; refine Kd.R_append_rows k85 (w0 := w) w.heap.size rfl (.tmp 5) (.tmp 6) 45 85 (.agg #[(.int .i64 0), (.int .i64 0), (.string ⟨#[]⟩)]) 32 rfl Tryz.underlying45 gQ rfl (by decide) (by omega) v1 ([] : List S85) l0 (some ad) l0.length c0 (fun _ => True) (fun _ => False) rfl rfl HO.out (Kd.C_below HR0.out HB.out) (fun _ _ h => h) (fun _ h => h.elim) (fun _ _ => trivial) HB.out HB.out.size (by have := HL.out; simpa using this) ?_; intro v2 w2 ho hb hg hat; have HO2 := aA.mk ho; have HB2 := aA.mk hb; clear ho hb hg hat))
   go_ret
   exact ⟨_, rfl, by simpa using HO2.out, HB2.out⟩
 ·cases h
end Go.Proofs.YtpflmgbpjhbmnaaGreat.B
end
