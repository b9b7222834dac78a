/- Ord, OrdLaws, OwnK, SortTL, SortT, Clone. -/
import Derived.Test.YtpflmgbpjhbmnaaQBb3
import Derived.Test.YtpflmgbpjhbmnaaQBb5
import Derived.Test.YtpflmgbpjhbmnaaQBb1
import Derived.Shelf.SlSortFuncK.RowK2
import Derived.Shelf.SlicesQ.Reverse
import Derived.Shelf.SlSortCmp.WholeK
import Derived.Test.YtpflmgbpjhbmnaaProg
import Derived.Shelf.SlSortCmp.NoneTotal
import Derived.Lib.QuietBelow
import Derived.WalkSpells
section
namespace Go.Proofs.Ytpflmgbpjhbmnaa.B
open Go.RowKit Go.Proofs.YtpflmgbpjhbmnaaW.PrintWords Go.Proofs.YtpflmgbpjhbmnaaW.PrintLast Go.Proofs.YtpflmgbpjhbmnaaW.PrintMore
attribute [local go_sem] Go.Proofs.Ytpflmgbpjhbmnaa.str_gtr max2_int min2_int max_two min_two max_three min_three max_four min_four
set_option linter.unusedVariables false
set_option linter.unusedSimpArgs false
def cmpV (a b : S56) : Int := (row_Cmp.f a.f0 a.f1 a.f2 b.f0 b.f1 b.f2).getD 0
theorem cmpV_f (a b : S56) : row_Cmp.f a.f0 a.f1 a.f2 b.f0 b.f1 b.f2 = some (cmpV a b) := by
 have h : ∀ o : Option Int, o.isSome → o = some (o.getD 0) := by intro o ho; cases o <;> simp_all
 refine h _ ?_
 have hi : ∀ x y : Int, ∃ r, cmp_Compare_int.f x y = some r := by
  intro x y; unfold cmp_Compare_int.f cmp_isNaN_int.f; simp only [Option.bind_some]; repeat' split
  all_goals exact ⟨_, rfl⟩
 have hs : ∀ x y : ByteArray, ∃ r, cmp_Compare_string.f x y = some r := by
  intro x y; unfold cmp_Compare_string.f cmp_isNaN_string.f; simp only [Option.bind_some]; repeat' split
  all_goals exact ⟨_, rfl⟩
 obtain ⟨r0, h0⟩ := hi a.f0 b.f0
 obtain ⟨r1, h1⟩ := hi a.f1 b.f1
 obtain ⟨r2, h2⟩ := hs a.f2 b.f2
 unfold row_Cmp.f
 rw [h0, h1, h2]
 simp only [Option.bind_some]
 repeat' split
 all_goals rfl
def ordR : List S56 → List S56 → Int
 | [], [] => 0
 | [], _ :: _ => -1
 | _ :: _, [] => 1
 | a :: x, b :: y => if cmpV a b = 0 then ordR x y else cmpV a b
theorem ordR_drop (x y : List S56) (k : Nat) (hx : k < x.length) (hy : k < y.length) :
  ordR (x.drop k) (y.drop k) = if cmpV (rd_T56 x k) (rd_T56 y k) = 0 then ordR (x.drop (k + 1)) (y.drop (k + 1)) else cmpV (rd_T56 x k) (rd_T56 y k) := by
 rw [List.drop_eq_getElem_cons hx, List.drop_eq_getElem_cons hy, ordR]
 simp [rd_T56, List.getD, hx, hy]
theorem ordR_over (x y : List S56) (k : Nat) (hx : k < x.length) (hy : y.length = k) : ordR (x.drop k) (y.drop k) = 1 := by
 rw [List.drop_eq_getElem_cons hx, show y.drop k = [] from List.drop_of_length_le (by omega)]; rfl
theorem ordR_end (x y : List S56) (k : Nat) (hx : k = x.length) (hy : k ≤ y.length) : ordR (x.drop k) (y.drop k) = if x.length < y.length then -1 else 0 := by
 rw [List.drop_of_length_le (by omega : x.length ≤ k)]
 by_cases h : k < y.length
 ·rw [List.drop_eq_getElem_cons h, if_pos (by omega)]; rfl
 ·rw [List.drop_of_length_le (by omega), if_neg (by omega)]; rfl
theorem ret_i {a b : Int} (h : b = a) : Ending.returned (.int .i64 a) = .returned (.int .i64 b) := by rw [h]
theorem at_V {w : World} {A : Option Addr} {n : Nat} {xs : List S56} (h : Kd.C k56 w A n xs) (k : Nat) (hk : k < n) : ∃ ad, A = some ad ∧ w.cell? (ad.add (k * 3)) = some (.int .i64 (rd_T56 xs k).f0) ∧ w.cell? ⟨(ad.add (k * 3)).block, (ad.add (k * 3)).off + 1, none⟩ = some (.int .i64 (rd_T56 xs k).f1) ∧ w.cell? ⟨(ad.add (k * 3)).block, (ad.add (k * 3)).off + 2, none⟩ = some (.string (rd_T56 xs k).f2) :=
 at_T56 h (k : Int) (by omega) (by omega)
set_option maxHeartbeats 2000000 in
set_option maxRecDepth 100000 in
theorem compareFunc (A0 : Option Addr) (c0 : Nat) (l0 : List S56) (A1 : Option Addr) (c1 : Nat) (l1 : List S56) (w : World) (hr0 : Kd.C k56 w A0 l0.length l0) (hc0 : l0.length ≤ c0) (hr1 : Kd.C k56 w A1 l1.length l1) (hc1 : l1.length ≤ c1) :
  Calls Try.prog 92 #[.slice A0 l0.length c0, .slice A1 l1.length c1, .func (.func 93) #[] #[]] w fun e w' => e = .returned (.int .i64 (ordR l0 l1)) ∧ Below w.heap.size w w' := by
 have HR0 := Aside0.mk hr0
 have HR1 := Aside0.mk hr1
 have HC0 := Aside0.mk hc0
 have hm0 : l0.length ≤ 9223372036854775807 := hr0.2.1
 have hm1 : l1.length ≤ 9223372036854775807 := hr1.2.1
 clear hr0 hr1 hc0 hc1
 go_enter Try.func92, Try.ntmps92
 go_wp2_with fail
 go_loopw [13] (fun i wr => ∃ k : Nat, i = .int .i64 k ∧ k ≤ l0.length ∧ k ≤ l1.length ∧ Aside0 (ordR l0 l1 = ordR (l0.drop k) (l1.drop k)) ∧ Below w.heap.size w wr) (fun i wr => l0.length - (intOf i).toNat)
 case atStart => exact ⟨0, rfl, by omega, by omega, ⟨rfl⟩, Below.refl _ _⟩
 case round =>
  obtain ⟨k, rfl, hk0, hk1, HE, hB⟩ := hrel
  have HB := Aside0.mk hB
  clear hB
  by_cases hlt : k < l0.length
  ·obtain ⟨ad0, e0, g0, g1, g2⟩ := at_V (Kd.C_below HR0.out HB.out) k hlt
   cases e0
   have bt0 : decide (k < l0.length) = true := decide_eq_true hlt
   by_cases hl1 : k < l1.length
   ·obtain ⟨ad1, e1, -, -, -⟩ := at_V (Kd.C_below HR1.out HB.out) k hl1
    cases e1
    have g3 : ∀ o, (wr.alloc o).cell? (ad1.add (k * 3)) = some (.int .i64 (rd_T56 l1 k).f0) := fun o => by
     obtain ⟨ad, e, h, _, _⟩ := at_V (Kd.C_below HR1.out (HB.out.alloc HB.out.size o)) k hl1; cases e; exact h
    have g4 : ∀ o, (wr.alloc o).cell? ⟨(ad1.add (k * 3)).block, (ad1.add (k * 3)).off + 1, none⟩ = some (.int .i64 (rd_T56 l1 k).f1) := fun o => by
     obtain ⟨ad, e, _, h, _⟩ := at_V (Kd.C_below HR1.out (HB.out.alloc HB.out.size o)) k hl1; cases e; exact h
    have g5 : ∀ o, (wr.alloc o).cell? ⟨(ad1.add (k * 3)).block, (ad1.add (k * 3)).off + 2, none⟩ = some (.string (rd_T56 l1 k).f2) := fun o => by
     obtain ⟨ad, e, _, _, h⟩ := at_V (Kd.C_below HR1.out (HB.out.alloc HB.out.size o)) k hl1; cases e; exact h
    have bt1 : decide (l1.length ≤ k) = false := decide_eq_false (by omega)
    by_cases hc : cmpV (rd_T56 l0 k) (rd_T56 l1 k) = 0
    ·have hcc := cmpV_f (rd_T56 l0 k) (rd_T56 l1 k)
     have HN := Aside0.mk (HE.out.trans (by rw [ordR_drop l0 l1 k hlt hl1, if_pos hc]))
     rw [hc] at hcc
     have HC := Aside0.mk hcc
     clear hc hcc
     go_wp2_with (go_at_call 93; refine (row_Cmp.calls _ _ _ _ _ _ _ _ HC.out).mono ?_; rintro e w' ⟨rfl, hb⟩)
     go_roundw
     case rel => exact ⟨k + 1, by go_num, by omega, by omega, HN, ((HB.out.alloc HB.out.size _).alloc (by have := HB.out.size; simp; omega) _).trans (hb.mono (by have := HB.out.size; simp; omega))⟩
     case measure => simp [intOf]; omega
    ·have HC := Aside0.mk (cmpV_f (rd_T56 l0 k) (rd_T56 l1 k))
     have HN := Aside0.mk (HE.out.trans (by rw [ordR_drop l0 l1 k hlt hl1, if_neg hc]))
     have bn : (cmpV (rd_T56 l0 k) (rd_T56 l1 k) != 0) = true := bne_iff_ne.2 hc
     clear hc
     go_wp2_with (go_at_call 93; refine (row_Cmp.calls _ _ _ _ _ _ _ _ HC.out).mono ?_; rintro e w' ⟨rfl, hb⟩)
     go_ret
     exact ⟨ret_i HN.out, ((HB.out.alloc HB.out.size _).alloc (by have := HB.out.size; simp; omega) _).trans (hb.mono (by have := HB.out.size; simp; omega))⟩
   ·have bt1 : decide (l1.length ≤ k) = true := decide_eq_true (by omega)
    have HN := Aside0.mk (HE.out.trans (ordR_over l0 l1 k hlt (by omega)))
    clear hl1
    go_wp2
    go_ret
    exact ⟨ret_i HN.out, HB.out.alloc HB.out.size _⟩
  ·have bt0 : decide (k < l0.length) = false := decide_eq_false hlt
   have HN := Aside0.mk (HE.out.trans (ordR_end l0 l1 k (by omega) hk1))
   by_cases hl : l0.length < l1.length
   ·have bt2 : decide (l0.length < l1.length) = true := decide_eq_true hl
    clear hlt
    go_wp2
    go_ret
    exact ⟨ret_i (HN.out.trans (if_pos hl)), HB.out⟩
   ·have bt2 : decide (l0.length < l1.length) = false := decide_eq_false hl
    clear hlt
    go_wp2
    go_ret
    exact ⟨ret_i (HN.out.trans (if_neg hl)), HB.out⟩
set_option maxHeartbeats 2000000 in
set_option maxRecDepth 100000 in
theorem row_Order (A0 : Option Addr) (c0 : Nat) (l0 : List S56) (A1 : Option Addr) (c1 : Nat) (l1 : List S56) (w : World) (hr0 : Kd.C k56 w A0 l0.length l0) (hc0 : l0.length ≤ c0) (hr1 : Kd.C k56 w A1 l1.length l1) (hc1 : l1.length ≤ c1) :
  Calls Try.prog 61 #[.slice A0 l0.length c0, .slice A1 l1.length c1] w fun e w' => e = .returned (.int .i64 (ordR l0 l1)) ∧ Below w.heap.size w w' := by
 have HC := compareFunc A0 c0 l0 A1 c1 l1 w hr0 hc0 hr1 hc1
 clear hr0 hc0 hr1 hc1
 go_enter Try.func61, Try.ntmps61
 go_wp2_with (go_at_call 92; refine HC.mono ?_; rintro e w' ⟨rfl, hb⟩)
 go_ret
 exact ⟨rfl, hb⟩
def row_Order.f (l0 l1 : List S56) : Option Int := some (ordR l0 l1)
theorem row_Order.calls (A0 : Option Addr) (c0 : Nat) (l0 : List S56) (A1 : Option Addr) (c1 : Nat) (l1 : List S56) (r : Int) (w : World) (hr0 : Kd.C k56 w A0 l0.length l0) (hc0 : l0.length ≤ c0) (hr1 : Kd.C k56 w A1 l1.length l1) (hc1 : l1.length ≤ c1) (h : row_Order.f l0 l1 = some r) :
  Calls Try.prog 61 #[.slice A0 l0.length c0, .slice A1 l1.length c1] w fun e w' => e = .returned (.int .i64 r) ∧ Below w.heap.size w w' := by
 obtain rfl := Option.some.inj h
 exact row_Order A0 c0 l0 A1 c1 l1 w hr0 hc0 hr1 hc1
end Go.Proofs.Ytpflmgbpjhbmnaa.B
end
section
namespace Go.Proofs.Ytpflmgbpjhbmnaa.B
open Go.RowKit Go.Proofs.YtpflmgbpjhbmnaaW.PrintWords Go.Proofs.YtpflmgbpjhbmnaaW.PrintLast Go.Proofs.YtpflmgbpjhbmnaaW.PrintMore
set_option linter.unusedVariables false
set_option linter.unusedSimpArgs false
def cmpI (x y : Int) : Int := if x < y then -1 else if y < x then 1 else 0
def cmpS (x y : ByteArray) : Int := if Op.bytesLess x.toList y.toList = true then -1 else if Op.bytesLess y.toList x.toList = true then 1 else 0
theorem compareI (x y : Int) : cmp_Compare_int.f x y = some (cmpI x y) := by
 unfold cmp_Compare_int.f cmp_isNaN_int.f cmpI
 simp only [Option.bind_some, bne_self_eq_false, Bool.false_eq_true, if_false]
 split
 ·rfl
 ·split <;> rfl
theorem compareS (x y : ByteArray) : cmp_Compare_string.f x y = some (cmpS x y) := by
 unfold cmp_Compare_string.f cmp_isNaN_string.f cmpS
 simp only [Option.bind_some, bne_self_eq_false, Bool.false_eq_true, if_false]
 split
 ·rfl
 ·split <;> rfl
theorem cmpV_eq (a b : S56) : cmpV a b = if a.f0 = b.f0 then (if a.f0 = 0 then cmpI a.f1 b.f1 else if a.f0 = 1 then cmpS a.f2 b.f2 else 0) else cmpI a.f0 b.f0 := by
 unfold cmpV row_Cmp.f
 rw [compareI, compareI, compareS]
 simp only [Option.bind_some]
 repeat' split
 all_goals rfl
theorem cmpI_sw (x y : Int) : cmpI y x = - cmpI x y := by unfold cmpI; repeat' split <;> omega
theorem cmpI_tr (x y z : Int) : cmpI x y ≤ 0 → cmpI y z ≤ 0 → cmpI x z ≤ 0 := by unfold cmpI; repeat' split <;> omega
theorem cmpI_0 (x y : Int) : cmpI x y = 0 ↔ x = y := by unfold cmpI; repeat' split <;> omega
theorem cmpS_sw (x y : ByteArray) : cmpS y x = - cmpS x y := by
 unfold cmpS
 rcases bl_tri x.toList y.toList with ⟨h1, _, h3⟩ | ⟨h1, _, h3⟩ | ⟨h1, _, h3⟩ <;> simp [h1, h3]
theorem cmpS_tr (x y z : ByteArray) : cmpS x y ≤ 0 → cmpS y z ≤ 0 → cmpS x z ≤ 0 := by
 unfold cmpS
 rcases bl_tri x.toList y.toList with ⟨h1, h2, h3⟩ | ⟨h1, h2, h3⟩ | ⟨h1, h2, h3⟩ <;> rcases bl_tri y.toList z.toList with ⟨k1, k2, k3⟩ | ⟨k1, k2, k3⟩ | ⟨k1, k2, k3⟩ <;> simp [h1, h3, k1, k3]
 ·simp [bl_trans _ _ _ h1 k1]
 ·rw [← k2]; simp [h1]
 ·rw [h2]; simp [k1]
 ·rw [h2, k2]; simp [bl_irrefl]
theorem cmpV_sw (a b : S56) : cmpV b a = - cmpV a b := by
 rw [cmpV_eq, cmpV_eq]
 by_cases h : a.f0 = b.f0
 ·rw [if_pos h, if_pos h.symm, ← h]
  split
  ·exact cmpI_sw _ _
  ·split
   ·exact cmpS_sw _ _
   ·rfl
 ·rw [if_neg h, if_neg (fun e => h e.symm)]
  exact cmpI_sw _ _
theorem cmpV_tr (a b c : S56) (h1 : cmpV a b ≤ 0) (h2 : cmpV b c ≤ 0) : cmpV a c ≤ 0 := by
 rw [cmpV_eq] at *
 by_cases e1 : a.f0 = b.f0
 ·by_cases e2 : b.f0 = c.f0
  ·rw [if_pos e1] at h1
   rw [if_pos e2, ← e1] at h2
   rw [if_pos (e1.trans e2)]
   split
   ·rename_i h; rw [if_pos h] at h1 h2; exact cmpI_tr _ _ _ h1 h2
   ·rename_i h; rw [if_neg h] at h1 h2
    split
    ·rename_i h'; rw [if_pos h'] at h1 h2; exact cmpS_tr _ _ _ h1 h2
    ·omega
  ·rw [if_neg e2] at h2
   rw [if_neg (by omega), e1]; exact h2
 ·rw [if_neg e1] at h1
  by_cases e2 : b.f0 = c.f0
  ·rw [if_neg (by omega), ← e2]; exact h1
  ·rw [if_neg e2] at h2
   have h3 := cmpI_tr _ _ _ h1 h2
   by_cases e3 : a.f0 = c.f0
   ·exfalso
    have k1 := cmpI_sw b.f0 c.f0
    rw [← e3] at k1 h2
    have := (cmpI_0 a.f0 b.f0).1 (by omega)
    exact e1 this
   ·rw [if_neg e3]; exact h3
abbrev Row := List S56
theorem ordR_sw : ∀ x y : Row, ordR y x = - ordR x y
 | [], [] => rfl
 | [], _ :: _ => rfl
 | _ :: _, [] => rfl
 | a :: x, b :: y => by
  simp only [ordR]
  have h := cmpV_sw a b
  by_cases e : cmpV a b = 0
  ·rw [if_pos e, if_pos (by omega)]; exact ordR_sw x y
  ·rw [if_neg e, if_neg (by omega)]; exact h
theorem ordR_tr : ∀ x y z : Row, ordR x y ≤ 0 → ordR y z ≤ 0 → ordR x z ≤ 0
 | [], _, [] => fun _ _ => by simp [ordR]
 | [], _, _ :: _ => fun _ _ => by simp [ordR]
 | _ :: _, [], _ => fun h _ => by simp [ordR] at h
 | _ :: _, _ :: _, [] => fun _ h => by simp [ordR] at h
 | a :: x, b :: y, c :: z => by
  simp only [ordR]
  intro h1 h2
  have s1 := cmpV_sw a b
  have s2 := cmpV_sw b c
  have s3 := cmpV_sw a c
  have l1 : cmpV a b ≤ 0 := by
   by_cases e : cmpV a b = 0
   ·omega
   ·rw [if_neg e] at h1; exact h1
  have l2 : cmpV b c ≤ 0 := by
   by_cases e : cmpV b c = 0
   ·omega
   ·rw [if_neg e] at h2; exact h2
  have l3 := cmpV_tr a b c l1 l2
  by_cases e : cmpV a c = 0
  ·have k1 := cmpV_tr b c a l2 (by omega)
   have k2 := cmpV_tr c a b (by omega) l1
   rw [if_pos (show cmpV a b = 0 by omega)] at h1
   rw [if_pos (show cmpV b c = 0 by omega)] at h2
   rw [if_pos e]
   exact ordR_tr x y z h1 h2
  ·rw [if_neg e]; exact l3
def longR (x : Row) : Bool := decide (30 < x.length) || x.any fun v => decide (5000 < v.f2.size)
theorem refLong_l (x : Row) (hm : x.length ≤ 30) : ∀ d k : Nat, x.length - k = d → k ≤ x.length → Ev (fun n => runnelref03_Long.l0 n x k) ((x.drop k).any fun v => decide (5000 < v.f2.size)) := by
 intro d
 induction d with
 | zero =>
  intro k hd hx
  refine ⟨1, fun n hn => ?_⟩
  obtain ⟨n, rfl⟩ : ∃ m, n = m + 1 := ⟨n - 1, by omega⟩
  rw [List.drop_of_length_le (by omega)]
  simp only [runnelref03_Long.l0]
  rw [if_neg (by omega)]; rfl
 | succ d ih =>
  intro k hd hx
  have hkx : k < x.length := by omega
  obtain ⟨K2, h2⟩ := ih (k + 1) (by omega) (by omega)
  refine ⟨K2 + 1, fun n hn => ?_⟩
  obtain ⟨n, rfl⟩ : ∃ m, n = m + 1 := ⟨n - 1, by omega⟩
  simp only [runnelref03_Long.l0]
  rw [if_pos (by omega), if_pos (by omega), List.drop_eq_getElem_cons hkx, List.any_cons]
  have hr : rd_T56 x k = x[k] := by simp [rd_T56, List.getD, hkx]
  rw [hr]
  by_cases hc : (x[k].f2.size : Int) > 5000
  ·rw [if_pos hc, decide_eq_true (by omega : 5000 < x[k].f2.size)]; rfl
  ·rw [if_neg hc, decide_eq_false (by omega : ¬ 5000 < x[k].f2.size), Bool.false_or, show wrap64 ((k : Int) + 1) = ((k + 1 : Nat) : Int) by unfold wrap64; omega]
   exact h2 n (by omega)
theorem refLong (x : Row) : Ev (fun n => runnelref03_Long.f n x) (longR x) := by
 unfold runnelref03_Long.f longR
 by_cases h : 30 < x.length
 ·refine ⟨0, fun n _ => ?_⟩
  simp only []
  rw [if_pos (by omega), decide_eq_true h]; rfl
 ·obtain ⟨K, hk⟩ := refLong_l x (by omega) x.length 0 (by omega) (by omega)
  refine ⟨K, fun n hn => ?_⟩
  simp only []
  rw [if_neg (by omega), decide_eq_false h, Bool.false_or]
  simpa using hk n hn
end Go.Proofs.Ytpflmgbpjhbmnaa.B
end
section
namespace Go.Proofs.Ytpflmgbpjhbmnaa.OwnK
open Go Go.Sort Go.RowKit Go.Proofs Go.Proofs.YtpflmgbpjhbmnaaW.PrintWords
set_option linter.unusedVariables false
set_option linter.unusedSimpArgs false
variable {α : Type} [Inhabited α] {enc : α → List Value} {k : Nat}
theorem own_holds {w : World} {base g n cap : Nat} {e : TypeId} {inner : List Value} (h : w.ownsRow base e k (.slice (some ⟨g, 0, none⟩) n cap) n inner) : Holds id w g 0 inner.toArray := by
 rcases h.2 with ⟨e0, _⟩ | ⟨g', cap', cur, e0, hb, hg, hn, hm, hs, ht⟩
 ·cases e0
 ·injection e0 with e1 _ e3
  injection e1 with e1
  injection e1 with e1
  subst e1; subst e3
  intro j hj
  have hj2 : j < inner.length := by simpa using hj
  have hj' : j < n * k := by rw [← h.1]; exact hj2
  refine ⟨?_, by simp [World.frozen?, hg]⟩
  have e1 : (cur.toList.take (n * k))[j]? = inner[j]? := by rw [ht]
  rw [List.getElem?_take, if_pos hj', Array.getElem?_toList, List.getElem?_eq_getElem hj2] at e1
  simp only [World.cell?, hg, Nat.zero_add]
  simp only [Option.isSome_none, Bool.false_eq_true, if_false]
  rw [e1]
  simp [getElem!_pos, hj2]
theorem own_put {w : World} {base g n cap : Nat} {e : TypeId} {inner ys : List Value} (h : w.ownsRow base e k (.slice (some ⟨g, 0, none⟩) n cap) n inner) (hy : ys.length = n * k) :
  (putRow id w g 0 ys.toArray).ownsRow base e k (.slice (some ⟨g, 0, none⟩) n cap) n ys := by
 rcases h.2 with ⟨e0, _⟩ | ⟨g', cap', cur, e0, hb, hg, hn, hm, hs, ht⟩
 ·cases e0
 ·injection e0 with e1 _ e3
  injection e1 with e1
  injection e1 with e1
  subst e1; subst e3
  have hle : n * k ≤ cap * k := Nat.mul_le_mul_right k hn
  refine ⟨hy, .inr ⟨g, cap, putCells id 0 ys.toArray cur, rfl, hb, ?_, hn, hm, by simpa [putCells] using hs, ?_⟩⟩
  ·simp [putRow, mapBlock, Array.getElem?_modify, hg, onCells]
  ·apply List.ext_getElem?
   intro j
   rw [List.getElem?_take, Array.getElem?_toList]
   by_cases hj : j < n * k
   ·have hjc : j < cur.size := by omega
    simp only [if_pos hj, putCells, Array.getElem?_mapIdx, Array.getElem?_eq_getElem hjc, Option.map_some]
    rw [if_pos (by simp; omega), List.getElem?_eq_getElem (by omega)]
    simp [getElem!_pos, show j < ys.length by omega]
   ·simp [hj]
    omega
theorem below_put {B : Nat} {w0 w : World} {g off : Nat} {d : Array Value} (h : Below B w0 w) (hg : B ≤ g) : Below B w0 (putRow id w g off d) :=
 ⟨h.os, h.tape, h.output, by simpa [putRow, mapBlock] using h.size, fun i hi => by
  rw [← h.block i hi]
  simp [putRow, mapBlock, Array.getElem?_modify, show g ≠ i by omega]⟩
theorem block_put {w : World} {g off i : Nat} {d : Array Value} (hi : i ≠ g) : (putRow id w g off d).heap[i]? = w.heap[i]? := by
 simp [putRow, mapBlock, Array.getElem?_modify, Ne.symm hi]
theorem flat_get (hk : ∀ x, (enc x).length = k) (xs : List α) (j : Nat) (hj : j < xs.length * k) : (flatK enc k xs.toArray)[j]? = some (enc xs[j / k]!)[j % k]! := by
 have h1 : j < (Array.range (xs.toArray.size * k)).size := by simpa using hj
 have h2 : (Array.range (xs.toArray.size * k))[j]? = some j := by
  rw [Array.getElem?_eq_getElem h1]; simp
 unfold flatK
 rw [Array.getElem?_map, h2]
 simp
theorem flat_len (xs : List α) : (flatK enc k xs.toArray).toList.length = xs.length * k := by simp [flatK]
theorem reps_flat (hk : ∀ x, (enc x).length = k) (xs : List α) : Reps (fun x cs => cs = enc x) k xs (flatK enc k xs.toArray).toList := by
 refine ⟨flat_len xs, fun j p hj => ?_⟩
 obtain ⟨hjl, hp⟩ := List.getElem?_eq_some_iff.1 hj
 subst hp
 show _ = enc xs[j]
 apply List.ext_getElem?
 intro i
 rw [List.getElem?_take]
 by_cases hi : i < k
 ·rw [if_pos hi, List.getElem?_drop, Array.getElem?_toList]
  have hlt : j * k + i < xs.length * k := by
   have : (j + 1) * k ≤ xs.length * k := Nat.mul_le_mul_right k hjl
   rw [Nat.add_mul, Nat.one_mul] at this; omega
  have hk0 : 0 < k := by omega
  rw [flat_get hk xs _ hlt]
  have e1 : (j * k + i) / k = j := by rw [Nat.mul_comm, Nat.mul_add_div hk0, Nat.div_eq_of_lt hi, Nat.add_zero]
  have e2 : (j * k + i) % k = i := by rw [Nat.mul_comm, Nat.mul_add_mod, Nat.mod_eq_of_lt hi]
  rw [e1, e2]
  have hi2 : i < (enc xs[j]).length := by rw [hk]; exact hi
  rw [getElem!_pos xs j hjl, List.getElem?_eq_getElem hi2, getElem!_pos (enc xs[j]) i hi2]
 ·rw [if_neg hi, List.getElem?_eq_none (by rw [hk]; omega)]
theorem reps_eq {R : α → List Value → Prop} (hk : ∀ x, (enc x).length = k) (hk0 : 0 < k) {xs : List α} {inner : List Value} (h : Reps R k xs inner) (hR : ∀ x cs, R x cs → cs = enc x) : inner = (flatK enc k xs.toArray).toList := by
 apply List.ext_getElem?
 intro j
 rcases Nat.lt_or_ge j (xs.length * k) with hj | hj
 ·rw [show (flatK enc k xs.toArray).toList[j]? = (flatK enc k xs.toArray)[j]? from Array.getElem?_toList, flat_get hk xs j hj]
  have hq : j / k < xs.length := by rw [Nat.div_lt_iff_lt_mul hk0]; exact hj
  have h1 := hR _ _ (h.2 (j / k) _ (List.getElem?_eq_getElem hq))
  have h2 := congrArg (fun l => l[j % k]?) h1
  simp only [List.getElem?_take, List.getElem?_drop, if_pos (Nat.mod_lt j hk0)] at h2
  rw [Nat.mul_comm, Nat.div_add_mod] at h2
  have hi2 : j % k < (enc xs[j / k]).length := by rw [hk]; exact Nat.mod_lt j hk0
  rw [h2, List.getElem?_eq_getElem hi2, getElem!_pos xs (j / k) hq, getElem!_pos (enc xs[j / k]) (j % k) hi2]
 ·rw [List.getElem?_eq_none (by rw [h.1]; exact hj), List.getElem?_eq_none (by rw [flat_len]; exact hj)]
end Go.Proofs.Ytpflmgbpjhbmnaa.OwnK
end
section
namespace Go.Proofs
open Go.Shelf
def Try.sortTime_ren : Go.Shelf.Ren := ⟨fun | 6 => 103 | 15 => 134 | 14 => 133 | 28 => 157 | 29 => 158 | 20 => 149 | 21 => 150 | 22 => 151 | 23 => 152 | 24 => 153 | 25 => 154 | 26 => 155 | 27 => 156 | 46 => 164 | 47 => 165 | 48 => 166 | 49 => 167 | 50 => 168 | 57 => 179 | n => n, fun | 22 => 34 | 24 => 48 | 25 => 140 | 3 => 3 | 39 => 168 | 0 => 0 | 53 => 192 | 55 => 194 | 4 => 4 | 46 => 185 | 45 => 184 | 50 => 189 | 5 => 5 | 9 => 9 | 66 => 199 | 70 => 203 | 76 => 211 | 77 => 28 | n => n, fun | n => n⟩
theorem Try.sortTime : Go.Proofs.SlLaysF0.n6 Try.prog Try.sortTime_ren := {
 mixed := by kernel_rfl
 f6 := ⟨Try.f103.name, by decide, Try.func103.trans (congrArg some (by kernel_rfl))⟩
 f14 := ⟨Try.f133.name, by decide, Try.func133.trans (congrArg some (by kernel_rfl))⟩
 f15 := Try.func134.trans (congrArg some (by kernel_rfl))
 f20 := ⟨Try.f149.name, by decide, Try.func149.trans (congrArg some (by kernel_rfl))⟩
 f21 := ⟨Try.f150.name, by decide, Try.func150.trans (congrArg some (by kernel_rfl))⟩
 f22 := ⟨Try.f151.name, by decide, Try.func151.trans (congrArg some (by kernel_rfl))⟩
 f23 := ⟨Try.f152.name, by decide, Try.func152.trans (congrArg some (by kernel_rfl))⟩
 f24 := ⟨Try.f153.name, by decide, Try.func153.trans (congrArg some (by kernel_rfl))⟩
 f25 := ⟨Try.f154.name, by decide, Try.func154.trans (congrArg some (by kernel_rfl))⟩
 f26 := ⟨Try.f155.name, by decide, Try.func155.trans (congrArg some (by kernel_rfl))⟩
 f27 := ⟨Try.f156.name, by decide, Try.func156.trans (congrArg some (by kernel_rfl))⟩
 f28 := Try.func157.trans (congrArg some (by kernel_rfl))
 f29 := Try.func158.trans (congrArg some (by kernel_rfl))
 f46 := ⟨Try.f164.name, by decide, Try.func164.trans (congrArg some (by kernel_rfl))⟩
 f47 := Try.func165.trans (congrArg some (by kernel_rfl))
 f48 := Try.func166.trans (congrArg some (by kernel_rfl))
 f49 := ⟨Try.f167.name, by decide, Try.func167.trans (congrArg some (by kernel_rfl))⟩
 f50 := ⟨Try.f168.name, by decide, Try.func168.trans (congrArg some (by kernel_rfl))⟩
 f57 := ⟨Try.f179.name, by decide, Try.func179.trans (congrArg some (by kernel_rfl))⟩
 t0 := Try.underlying0
 a0 := Try.isAgg0
 z0 := Try.sizeOf0
 v0 := Try.zeroValue0
 t3 := Try.underlying3
 a3 := Try.isAgg3
 z3 := Try.sizeOf3
 v3 := Try.zeroValue3
 t4 := Try.underlying4
 a4 := Try.isAgg4
 z4 := Try.sizeOf4
 v4 := Try.zeroValue4
 t5 := Try.underlying5
 a5 := Try.isAgg5
 z5 := Try.sizeOf5
 v5 := Try.zeroValue5
 t9 := Try.underlying9
 a9 := Try.isAgg9
 z9 := Try.sizeOf9
 v9 := Try.zeroValue9
 t22 := Try.underlying34
 a22 := Try.isAgg34
 z22 := Try.sizeOf34
 v22 := Try.zeroValue34
 t25 := Try.underlying140
 a25 := Try.isAgg140
 z25 := Try.sizeOf140
 v25 := Try.zeroValue140
 t39 := Try.underlying168
 a39 := Try.isAgg168
 z39 := Try.sizeOf168
 v39 := Try.zeroValue168
 t45 := Try.underlying184
 a45 := Try.isAgg184
 z45 := Try.sizeOf184
 v45 := Try.zeroValue184
 t46 := Try.underlying185
 a46 := Try.isAgg185
 z46 := Try.sizeOf185
 v46 := Try.zeroValue185
 t50 := Try.underlying189
 a50 := Try.isAgg189
 z50 := Try.sizeOf189
 v50 := Try.zeroValue189
 t53 := Try.underlying192
 a53 := Try.isAgg192
 z53 := Try.sizeOf192
 v53 := Try.zeroValue192
 t55 := Try.underlying194
 a55 := Try.isAgg194
 z55 := Try.sizeOf194
 v55 := Try.zeroValue194
 t66 := Try.underlying199
 a66 := Try.isAgg199
 z66 := Try.sizeOf199
 v66 := Try.zeroValue199
 t70 := Try.underlying203
 a70 := Try.isAgg203
 z70 := Try.sizeOf203
 v70 := Try.zeroValue203
 t76 := Try.underlying211
 a76 := Try.isAgg211
 z76 := Try.sizeOf211
 v76 := Try.zeroValue211
 t77 := Try.underlying28
 a77 := Try.isAgg28
 z77 := Try.sizeOf28
 v77 := Try.zeroValue28 }
end Go.Proofs
end
section
namespace Go.Proofs.Ytpflmgbpjhbmnaa.B
open Go Go.Sort Go.RowKit Go.Lib Go.Proofs Go.Proofs.YtpflmgbpjhbmnaaW.PrintWords Go.Proofs.YtpflmgbpjhbmnaaW.PrintLast Go.Proofs.YtpflmgbpjhbmnaaW.PrintMore Go.Proofs.Ytpflmgbpjhbmnaa.OwnK
set_option linter.unusedVariables false
set_option linter.unusedSimpArgs false
set_option maxRecDepth 100000
def ordT (x y : S48) : Int := if x.f0 = y.f0 then cmpI x.f1 y.f1 else cmpI x.f0 y.f0
theorem ordT_sw (x y : S48) : ordT y x = - ordT x y := by
 unfold ordT
 by_cases h : x.f0 = y.f0
 ·rw [if_pos h, if_pos h.symm, cmpI_sw]
 ·rw [if_neg h, if_neg (fun e => h e.symm), cmpI_sw]
theorem ordT_tr (x y z : S48) (h1 : ordT x y ≤ 0) (h2 : ordT y z ≤ 0) : ordT x z ≤ 0 := by
 unfold ordT cmpI at *
 repeat' split at h1
 all_goals repeat' split at h2
 all_goals repeat' split
 all_goals omega
theorem ordT_0 (x y : S48) : ordT x y = 0 ↔ x = y := by
 obtain ⟨a, b⟩ := x
 obtain ⟨c, d⟩ := y
 unfold ordT
 by_cases h : a = c
 ·subst h; simp [cmpI_0]
 ·rw [if_neg h, cmpI_0]; simp [h]
theorem ordT_refl (x : S48) : ordT x x = 0 := (ordT_0 x x).2 rfl
theorem ordT_lt (x y : S48) : ordT x y < 0 ↔ x.f0 < y.f0 ∨ (x.f0 = y.f0 ∧ x.f1 < y.f1) := by
 unfold ordT cmpI
 repeat' split
 all_goals omega
instance : Inhabited S48 := ⟨z48⟩
theorem swoT : SWO (ltOf ordT) where
 irrefl x := by unfold ltOf; rw [ordT_refl]; rfl
 trans x y z h1 h2 := by
  unfold ltOf at *
  simp only [decide_eq_true_eq, ordT_lt] at *
  omega
 ntrans x y z h1 h2 := by
  unfold ltOf at *
  simp only [decide_eq_false_iff_not, ordT_lt] at *
  omega
set_option maxHeartbeats 1000000 in
theorem compareInt (x y : Int) (w : World) : Calls Try.prog 126 #[.int .i64 x, .int .i64 y] w fun e w' => e = .returned (.int .i64 (cmpI x y)) ∧ w' = w := by
 by_cases h1 : x < y
 ·have e1 : cmpI x y = -1 := by unfold cmpI; rw [if_pos h1]
  rw [e1]
  go_enter Try.func126, Try.ntmps126
  go_wp2
  go_ret
  exact ⟨rfl, rfl⟩
 ·by_cases h2 : y < x
  ·have e1 : cmpI x y = 1 := by unfold cmpI; rw [if_neg h1, if_pos h2]
   rw [e1]
   go_enter Try.func126, Try.ntmps126
   go_wp2
   go_ret
   exact ⟨rfl, rfl⟩
  ·have e1 : cmpI x y = 0 := by unfold cmpI; rw [if_neg h1, if_neg h2]
   rw [e1]
   go_enter Try.func126, Try.ntmps126
   go_wp2
   go_ret
   exact ⟨rfl, rfl⟩
set_option maxHeartbeats 1000000 in
theorem momentOrder (x y : S48) (w : World) : Calls Try.prog 104 #[.agg #[.int .i64 x.f0, .int .i64 x.f1], .agg #[.int .i64 y.f0, .int .i64 y.f1]] w fun e w' => e = .returned (.int .i64 (ordT x y)) ∧ ∃ os, w' = grow w os := by
 obtain ⟨a, b⟩ := x
 obtain ⟨c, d⟩ := y
 have HC : ∀ W, Calls Try.prog 135 #[.agg #[.int .i64 a, .int .i64 b], .agg #[.int .i64 c, .int .i64 d]] W fun e w' => e = .returned (.int .i64 (ordT ⟨a, b⟩ ⟨c, d⟩)) ∧ ∃ os, w' = grow W os := by
  intro W
  by_cases h : a = c
  ·have e1 : ordT ⟨a, b⟩ ⟨c, d⟩ = cmpI b d := by unfold ordT; rw [if_pos h]
   have hne : (a != c) = false := by simp [h]
   rw [e1]
   clear e1 h
   have HI := Aside0.mk (compareInt b d)
   generalize cmpI b d = r at HI
   go_enter Try.func135, Try.ntmps135
   go_wp2_with (go_at_call 126; refine (HI.out _).mono ?_; rintro e w' ⟨rfl, rfl⟩)
   go_ret
   exact ⟨rfl, _, by rw [alloc_eq_grow, alloc_eq_grow, grow_grow]⟩
  ·have e1 : ordT ⟨a, b⟩ ⟨c, d⟩ = cmpI a c := by unfold ordT; rw [if_neg h]
   have hne : (a != c) = true := by simp [h]
   rw [e1]
   clear e1 h
   have HI := Aside0.mk (compareInt a c)
   generalize cmpI a c = r at HI
   go_enter Try.func135, Try.ntmps135
   go_wp2_with (go_at_call 126; refine (HI.out _).mono ?_; rintro e w' ⟨rfl, rfl⟩)
   go_ret
   exact ⟨rfl, _, by rw [alloc_eq_grow, alloc_eq_grow, grow_grow]⟩
 have HC := Aside0.mk HC
 generalize ordT ⟨a, b⟩ ⟨c, d⟩ = r at HC
 go_enter Try.func104, Try.ntmps104
 go_wp2_with (go_at_call 135; refine (HC.out _).mono ?_; rintro e w' ⟨rfl, os, rfl⟩)
 go_ret
 exact ⟨rfl, _, by rw [alloc_eq_grow, alloc_eq_grow, grow_grow, grow_grow]⟩
def encT (x : S48) : List Value := [.int .i64 x.f0, .int .i64 x.f1]
theorem cmpLaysT (blk off size : Nat) (w : World) : CmpLays Try.prog 104 #[] encT 2 ordT blk off size w :=
 fun _ _ _ _ x y => (momentOrder x y _).mono fun e w' ⟨he, os, hw⟩ => ⟨he, 0, os, hw⟩
def sortT (l : List S48) : List S48 := l.mergeSort fun x y => !(ltOf ordT) y x
theorem sortT_perm (l : List S48) : (sortT l).Perm l := List.mergeSort_perm _ _
theorem sortT_len (l : List S48) : (sortT l).length = l.length := (sortT_perm l).length_eq
theorem sortT_mem (l : List S48) (x : S48) : x ∈ sortT l ↔ x ∈ l := (sortT_perm l).mem_iff
theorem sortT_sorted (l : List S48) : (sortT l).Pairwise fun x y => ordT x y ≤ 0 := by
 have h := List.pairwise_mergeSort (le := fun x y => !(ltOf ordT) y x)
  (by
   intro x y z h1 h2
   simp only [ltOf, Bool.not_eq_true', decide_eq_false_iff_not] at *
   have a := ordT_sw x y; have b := ordT_sw y z; have c := ordT_sw x z
   have := ordT_tr x y z (by omega) (by omega)
   omega)
  (by
   intro x y
   simp only [ltOf, Bool.or_eq_true, Bool.not_eq_true', decide_eq_false_iff_not]
   have := ordT_sw x y
   omega) l
 refine h.imp ?_
 intro x y hxy
 simp only [ltOf, Bool.not_eq_true', decide_eq_false_iff_not] at hxy
 have := ordT_sw x y
 omega
set_option maxHeartbeats 1000000 in
theorem sortTimes (base : Nat) (u : Value) (l : List S48) (ok : Nat → Prop) (w0 w : World) (hR : Kd.R k48 48 w base ok u l) (hB : Below base w0 w) (hb : base ≤ w.heap.size) (hl : l.length ≤ 1152921504606846976) :
  Calls Try.prog 103 #[u, .func (.func 104) #[] #[]] w fun e w' => e = .returned (.tuple #[]) ∧ Kd.R k48 48 w' base ok u (sortT l) ∧ Below base w0 w' ∧ (∀ i, i < w.heap.size → some i ≠ u.ownBlock → w'.heap[i]? = w.heap[i]?) := by
 obtain ⟨hok, inner, hown, hr⟩ := hR
 have hown2 : w.ownsRow base 48 2 u l.length inner := hown
 rcases hown2.2 with ⟨rfl, h0⟩ | ⟨g, cap, cur, rfl, hg, hcells, _⟩
 ·obtain rfl : l = [] := List.eq_nil_of_length_eq_zero h0
  refine (AnyF.slices_SortFunc_none Try.sortTime none 0 (.func (.func 104) #[] #[]) w).mono ?_
  rintro e w' ⟨rfl, rfl⟩
  refine ⟨rfl, ?_, hB, fun _ _ _ => rfl⟩
  have : sortT ([] : List S48) = [] := List.mergeSort_nil
  rw [this]
  exact ⟨hok, inner, hown, hr⟩
 ·have hlt : g < w.heap.size := (Array.getElem?_eq_some_iff.1 hcells).1
  have hlen : ∀ x : S48, (encT x).length = 2 := fun _ => rfl
  have hin : inner = (flatK encT 2 l.toArray).toList := reps_eq (enc := encT) hlen (by decide) hr (fun x cs h => k48_openM h)
  have hH : HoldsK encT 2 w g 0 l.toArray := by
   unfold HoldsK
   have := own_holds hown2
   rw [hin] at this
   exact this
  have hcon := AnyQ.slices_SortFunc_total Try.sortTime 2 Try.isAgg48 Try.sizeOf48 encT hlen (fun x v hv => by simp [encT] at hv; rcases hv with rfl | rfl <;> rfl) ordT swoT 104 #[] g 0 cap l.toArray w
   (enters_of Try.func104 (by kernel_rfl) rfl) (cmpLaysT g 0 l.toArray.size w) hH hlt (by simp; omega)
   (fun x y h1 h2 => by
    simp only [ltOf, decide_eq_false_iff_not] at h1 h2
    have := ordT_sw x y
    exact (ordT_0 x y).1 (by omega))
  have hsz : l.toArray.size = l.length := by simp
  rw [hsz] at hcon
  refine Calls.mono hcon ?_
  rintro e w' ⟨rfl, n, os, rfl⟩
  have e1 : (l.toArray.toList.mergeSort fun x y => !(ltOf ordT) y x) = sortT l := rfl
  rw [e1]
  unfold sortWorldK putRowK
  generalize hF : flatK encT 2 (sortT l).toArray = F
  have hFr : Reps (fun x cs => cs = encT x) 2 (sortT l) F.toList := hF ▸ reps_flat hlen (sortT l)
  have hp := own_put (ys := F.toList) hown2 (by rw [hFr.1, sortT_len])
  have hw : grow (putRow id (Sort.ahead w n) g 0 F) os = grow (redrawn (putRow id w g 0 F.toList.toArray) (w.drawn + n)) os := by rw [Array.toArray_toList]; rfl
  rw [hw]
  have hb1 := below_regrown (putRow id w g 0 F.toList.toArray) (w.drawn + n) os
  have hsz2 : (putRow id w g 0 F.toList.toArray).heap.size = w.heap.size := by simp [putRow, mapBlock]
  have hB2 := below_put (off := 0) (d := F.toList.toArray) hB hg
  refine ⟨rfl, ⟨hok, F.toList, ?_, ?_⟩, hB2.trans (hb1.mono (by rw [hsz2]; exact hb)), fun i hi hne => ?_⟩
  ·rw [sortT_len]; exact pw_own_below hp hb1
  ·exact hFr.imp_ (fun x cs h => by subst h; exact k48_mkM _ _ _ x)
  ·rw [hb1.block i (by rw [hsz2]; exact hi)]
   exact block_put (fun e => hne (by rw [e]; simp [Value.ownBlock]))
end Go.Proofs.Ytpflmgbpjhbmnaa.B
end
section
namespace Go.Proofs.Ytpflmgbpjhbmnaa.B
open Go.RowKit Go.Proofs.YtpflmgbpjhbmnaaW.PrintWords Go.Proofs.YtpflmgbpjhbmnaaW.PrintLast Go.Proofs.YtpflmgbpjhbmnaaW.PrintMore
set_option linter.unusedVariables false
set_option linter.unusedSimpArgs false
set_option maxRecDepth 100000
def slices_Clone_Time.f (l : List S48) : Option (List S48) := if l.length * 16 ≤ 140737488355328 then some l else none
theorem slices_Clone_Time.f_some (l : List S48) (h : l.length * 16 ≤ 140737488355328) : slices_Clone_Time.f l = some l := if_pos h
set_option maxHeartbeats 2000000 in
theorem slices_Clone_Time.calls (A0 : Option Addr) (c0 : Nat) (l0 : List S48) (r : List S48) (w : World) (hr0 : Kd.C k48 w A0 l0.length l0) (hc0 : l0.length ≤ c0) (h : slices_Clone_Time.f l0 = some r) :
  Calls Try.prog 65 #[.slice A0 l0.length c0] w fun e w' => ∃ v0_ : Value, e = .returned (v0_) ∧ Kd.R k48 48 w' w.heap.size (fun _ => True) v0_ r ∧ Below w.heap.size w w' := by
 unfold slices_Clone_Time.f at h
 split at h
 ·rename_i hl
  obtain rfl := Option.some.inj h
  cases A0 with
  | none =>
   have h0 : l0 = [] := by
    cases l0 with
    | nil => rfl
    | cons a b => obtain ⟨ad, e, _⟩ := hr0.2.2 (by simp); cases e
   subst h0
   have hn := fun W => Lib.run_eql_slice_nil (P := Try.prog) W 34 48 none 0 c0 0 0 Try.underlying34
   go_enter Try.func65, Try.ntmps65
   go_wp2
   go_ret
   exact ⟨_, rfl, Kd.R_nil _ _ _ _ _, Below.refl _ _⟩
  | some ad =>
   have HR0 := Aside0.mk hr0
   have HL := Aside0.mk hl
   clear hr0 h hl
   have hn := fun W => Lib.run_eql_slice_nil (P := Try.prog) W 34 48 (some ad) l0.length c0 0 0 Try.underlying34
   go_enter Try.func65, Try.ntmps65
   go_wp2_with (first
    | ((with_reducible refine gate_dst (N := 5) rfl ?_); refine Kd.R_lit k48 _ 48 ?hg (N := 5) ?hd (xs := ([] : List S48)) (inner := []) (ok := fun _ => True) (okp := fun _ => True) ?hr ?hp (fun _ hk => hk) trivial (Below.refl _ _) (Nat.le_refl _) (by simp) ?_; (case hd => rfl); (case hg => rfl); (case hr => first | (go_simp; done) | (go_simp; rfl)); (case hp => exact (Reps.none _ _)); intro v1 w1 ho hb hg hnew; have HO := Aside0.mk ho; have HB := Aside0.mk hb; clear ho hb hg hnew)
    | ((with_reducible refine gate_builtin (b := .append) (xs := #[.tmp 5, .tmp 6]) rfl ?_); at_builtin; refine Kd.R_append_rows k48 (w0 := w) w.heap.size rfl (.tmp 5) (.tmp 6) 34 48 (.agg #[(.int .i64 0), (.int .i64 0)]) 16 rfl Try.underlying34 info48 rfl (by decide) (by omega) v1 ([] : List S48) l0 (some ad) l0.length c0 (fun _ => True) (fun _ => False) rfl rfl HO.out (Kd.C_below HR0.out HB.out) (fun _ _ h => h) (fun _ h => h.elim) (fun _ _ => trivial) HB.out HB.out.size (by have := HL.out; simpa using this) ?_; intro v2 w2 ho hb hg hat; have HO2 := Aside0.mk ho; have HB2 := Aside0.mk hb; clear ho hb hg hat))
   go_ret
   exact ⟨_, rfl, by simpa using HO2.out, HB2.out⟩
 ·cases h
def slices_Clone_Val.f (l : List S56) : Option (List S56) := if l.length * 32 ≤ 140737488355328 then some l else none
theorem slices_Clone_Val.f_some (l : List S56) (h : l.length * 32 ≤ 140737488355328) : slices_Clone_Val.f l = some l := if_pos h
set_option maxHeartbeats 2000000 in
theorem slices_Clone_Val.calls (A0 : Option Addr) (c0 : Nat) (l0 : List S56) (r : List S56) (w : World) (hr0 : Kd.C k56 w A0 l0.length l0) (hc0 : l0.length ≤ c0) (h : slices_Clone_Val.f l0 = some r) :
  Calls Try.prog 87 #[.slice A0 l0.length c0] w fun e w' => ∃ v0_ : Value, e = .returned (v0_) ∧ Kd.R k56 56 w' w.heap.size (fun _ => True) v0_ r ∧ Below w.heap.size w w' := by
 unfold slices_Clone_Val.f at h
 split at h
 ·rename_i hl
  obtain rfl := Option.some.inj h
  cases A0 with
  | none =>
   have h0 : l0 = [] := by
    cases l0 with
    | nil => rfl
    | cons a b => obtain ⟨ad, e, _⟩ := hr0.2.2 (by simp); cases e
   subst h0
   have hn := fun W => Lib.run_eql_slice_nil (P := Try.prog) W 24 56 none 0 c0 0 0 Try.underlying24
   go_enter Try.func87, Try.ntmps87
   go_wp2
   go_ret
   exact ⟨_, rfl, Kd.R_nil _ _ _ _ _, Below.refl _ _⟩
  | some ad =>
   have HR0 := Aside0.mk hr0
   have HL := Aside0.mk hl
   clear hr0 h hl
   have hn := fun W => Lib.run_eql_slice_nil (P := Try.prog) W 24 56 (some ad) l0.length c0 0 0 Try.underlying24
   go_enter Try.func87, Try.ntmps87
   go_wp2_with (first
    | ((with_reducible refine gate_dst (N := 5) rfl ?_); refine Kd.R_lit k56 _ 56 ?hg (N := 5) ?hd (xs := ([] : List S56)) (inner := []) (ok := fun _ => True) (okp := fun _ => True) ?hr ?hp (fun _ hk => hk) trivial (Below.refl _ _) (Nat.le_refl _) (by simp) ?_; (case hd => rfl); (case hg => rfl); (case hr => first | (go_simp; done) | (go_simp; rfl)); (case hp => exact (Reps.none _ _)); intro v1 w1 ho hb hg hnew; have HO := Aside0.mk ho; have HB := Aside0.mk hb; clear ho hb hg hnew)
    | ((with_reducible refine gate_builtin (b := .append) (xs := #[.tmp 5, .tmp 6]) rfl ?_); at_builtin; refine Kd.R_append_rows k56 (w0 := w) w.heap.size rfl (.tmp 5) (.tmp 6) 24 56 (.agg #[(.int .i64 0), (.int .i64 0), (.string ⟨#[]⟩)]) 32 rfl Try.underlying24 info56 rfl (by decide) (by omega) v1 ([] : List S56) l0 (some ad) l0.length c0 (fun _ => True) (fun _ => False) rfl rfl HO.out (Kd.C_below HR0.out HB.out) (fun _ _ h => h) (fun _ h => h.elim) (fun _ _ => trivial) HB.out HB.out.size (by have := HL.out; simpa using this) ?_; intro v2 w2 ho hb hg hat; have HO2 := Aside0.mk ho; have HB2 := Aside0.mk hb; clear ho hb hg hat))
   go_ret
   exact ⟨_, rfl, by simpa using HO2.out, HB2.out⟩
 ·cases h
end Go.Proofs.Ytpflmgbpjhbmnaa.B
end
