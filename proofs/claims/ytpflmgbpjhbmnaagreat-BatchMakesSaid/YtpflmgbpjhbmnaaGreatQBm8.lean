/- SymUp. -/
import Derived.Test.YtpflmgbpjhbmnaaGreatQBm6
import Derived.Lib.Hide
section
namespace Go.Proofs.YtpflmgbpjhbmnaaGreat.SU
open Go Go.Sort Go.RowKit Go.Lib Go.Shelf Go.Proofs Go.Proofs.YtpflmgbpjhbmnaaGreat.Stab
variable {α : Type} [Inhabited α]
set_option linter.unusedVariables false
set_option linter.unusedSimpArgs false
def yK (P : Program) (g : Nat) (cb : Array Value) (enc : α → List Value) (k : Nat) (cf : α → α → Int) (blk off size : Nat) (w0 : World) : Prop :=
 ∀ (W : World) (dk : Array α), dk.size = size → SB enc k w0 blk off dk W → ∀ x y : α, Calls P g (#[.agg (enc x).toArray, .agg (enc y).toArray] ++ cb) W fun e w' => e = .returned (.int .i64 (cf x y)) ∧ Below W.heap.size W w'
set_option maxHeartbeats 4000000 in
set_option maxRecDepth 1000000 in
theorem DR (k : Nat) (z50 : ∀ w, (Go.sizeOf 61).run Tryz.prog w = .ok k w) (enc : α → List Value) (cf : α → α → Int) (O : Ord cf) (g : Nat) (cb : Array Value) (blk off cap a m b : Nat) (d0 : Array α) (w0 w : World) (R : RK enc k w0 blk off d0)
  (eg : ∀ args w, (callFunc g args).run Tryz.prog w = .ok (.enter g args) w) (hcmp : yK Tryz.prog g cb enc k cf blk off d0.size w0)
  (p : List α) (xe : α) (y q : List α) (hp : p.length = a) (hm : a + 1 = m) (hb : m + y.length = b) (hy : Srt cf y) (hs : d0.size = (p ++ ([xe] ++ (y ++ q))).length) (S : SB enc k w0 blk off (p ++ ([xe] ++ (y ++ q))).toArray w) (hsz : d0.size < 4611686018427387904) :
  Calls Tryz.prog 134 #[.slice (some ⟨blk, off, none⟩) d0.size cap, .int .i64 a, .int .i64 m, .int .i64 b, .func (.func g) #[] cb] w fun e w' => e = .returned (.tuple #[]) ∧ ∃ z, Mrg cf [xe] y z ∧ SB enc k w0 blk off (p ++ (z ++ q)).toArray w' := by
 have F := Tryz.func134
 have mixed := mixed
 have t33 := Tryz.underlying22
 have t3 := Tryz.underlying3
 have t4 := Tryz.underlying4
 have t168 := Tryz.underlying159
 have a50 := Tryz.isAgg61
 have a33 := Tryz.isAgg22
 have a3 := Tryz.isAgg3
 have u33 := run_underlying t33
 have hla : d0.size = p.length + (1 + (y.length + q.length)) := by rw [hs]; simp; omega
 have S0 : Aside (SB enc k w0 blk off (p ++ ([xe] ++ (y ++ q))).toArray w) := S
 have HC : Aside _ := hcmp
 clear S hcmp hs
 have b0 : ((m : Int) - a == 1) = true := beq_iff_eq.2 (by omega)
 generalize Tryz.prog = P at *
 go_enter F, Tryz.ntmps134
 go_wp2_with fail
 go_loopw [10, 11] (fun v10 v11 wr => ∃ i j : Nat, v10 = .int .i64 i ∧ v11 = .int .i64 j ∧ m ≤ i ∧ i ≤ j ∧ j ≤ b ∧ Aside (∀ t, t < i - m → ∀ v, y[t]? = some v → cf v xe < 0) ∧ Aside (∀ t, j - m ≤ t → ∀ v, y[t]? = some v → 0 ≤ cf v xe) ∧ Aside (SB enc k w0 blk off (p ++ ([xe] ++ (y ++ q))).toArray wr)) (fun v10 v11 wr => (intOf v11 - intOf v10).toNat)
 case atStart => exact ⟨m, b, rfl, rfl, by omega, by omega, by omega, by intro t ht; omega, by intro t ht v hv; have := (List.getElem?_eq_some_iff.1 hv).1; omega, S0⟩
 case round =>
  obtain ⟨i, j, rfl, rfl, hmi, hij, hjb, h1, h2, S1⟩ := hrel
  clear S0
  by_cases hlt : i < j
  ·have b1 : decide ((i : Int) < j) = true := decide_eq_true (by omega)
   obtain ⟨h, hh⟩ : ∃ h, h = (i + j) / 2 := ⟨_, rfl⟩
   have hDs : (p ++ ([xe] ++ (y ++ q))).toArray.size = d0.size := by rw [hla]; simp; omega
   obtain ⟨yv, hyv⟩ : ∃ v, y[h - m]? = some v := ⟨y[h - m]'(by omega), List.getElem?_eq_getElem _⟩
   have gh : (p ++ ([xe] ++ (y ++ q))).toArray[h]! = yv := by
    have e : h = (p ++ [xe]).length + (h - m) := by simp; omega
    have hl : h - m < y.length := (List.getElem?_eq_some_iff.1 hyv).1
    simp only [List.getElem!_toArray, List.getElem!_eq_getElem?_getD]
    rw [e, show p ++ ([xe] ++ (y ++ q)) = (p ++ [xe]) ++ (y ++ q) by simp, List.getElem?_append_right (by omega), Nat.add_sub_cancel_left, List.getElem?_append_left hl, hyv]; rfl
   have ga : (p ++ ([xe] ++ (y ++ q))).toArray[a]! = xe := by rw [← hp]; simp
   have lh : ∀ d os, Sem.run P (loadCellsFrom ⟨blk, off + h * k, none⟩ 0 k #[]) (grow (redrawn wr d) os) = .ok (enc yv).toArray (grow (redrawn wr d) os) := fun d os => by rw [← gh]; exact (SB.re S1 d os).load R hDs P h (by omega)
   have la : ∀ d os, Sem.run P (loadCellsFrom ⟨blk, off + a * k, none⟩ 0 k #[]) (grow (redrawn wr d) os) = .ok (enc xe).toArray (grow (redrawn wr d) os) := fun d os => by rw [← ga]; exact (SB.re S1 d os).load R hDs P a (by omega)
   have hcg : ∀ d os, Calls P g (#[.agg (enc yv).toArray, .agg (enc xe).toArray] ++ cb) (grow (redrawn wr d) os) fun e w' => e = .returned (.int .i64 (cf yv xe)) ∧ Below (grow (redrawn wr d) os).heap.size (grow (redrawn wr d) os) w' := fun d os => HC _ _ hDs (SB.re S1 d os) yv xe
   clear gh ga hDs
   have S2 : Aside (∀ d os, SB enc k w0 blk off (p ++ ([xe] ++ (y ++ q))).toArray (grow (redrawn wr d) os)) := fun d os => SB.re S1 d os
   clear S1
   have hz : ((i : Int) + j) / 2 = (h : Nat) := by omega
   have r1 : IntKind.i64.wrap (h : Int) = (h : Int) := by rw [IntKind.wrap_i64]; omega
   have r2 : IntKind.i64.wrap (a : Int) = (a : Int) := by rw [IntKind.wrap_i64]; omega
   have s1 : (h : Int) < d0.size := by omega
   have s2 : (a : Int) < d0.size := by omega
   have hih : i ≤ h := by omega
   have hbd : b ≤ d0.size := by omega
   have hhj : h < j := by omega
   have HZ := Lib.hid hz
   have HH := Lib.hid hh
   have HLA := Lib.hid hla
   have HYV := Lib.hid hyv
   clear hz hh hla hyv
   by_cases hc : cf yv xe < 0
   ·have bc : decide (cf yv xe < 0) = true := decide_eq_true hc
    clear hc
    go_wp2_with fail
    rw [HZ.out]
    refine wp_region_quiet_below (by assumption) (by kernel_rfl) ?_
    repeat (quiet_step (first | (go_at_fn g; refine Calls.regrown_of (hcg _ _))))
    refine wpQuiet_nil ?_
    intro _ hw'
    obtain ⟨⟨dq, osq⟩, hw''⟩ := hw'
    subst hw''
    go_wp2
    go_roundw
    case rel => exact ⟨h + 1, j, by go_num, rfl, by omega, by omega, hjb, by intro t ht v hv; exact O.le_lt (eX O hy (by omega) hv HYV.out) (of_decide_eq_true bc), h2, S2 dq osq⟩
    case measure => simp [intOf]; omega
   ·have bc : decide (cf yv xe < 0) = false := decide_eq_false hc
    clear hc
    go_wp2_with fail
    rw [HZ.out]
    refine wp_region_quiet_below (by assumption) (by kernel_rfl) ?_
    repeat (quiet_step (first | (go_at_fn g; refine Calls.regrown_of (hcg _ _))))
    refine wpQuiet_nil ?_
    intro _ hw'
    obtain ⟨⟨dq, osq⟩, hw''⟩ := hw'
    subst hw''
    go_wp2
    go_roundw
    case rel => exact ⟨i, h, rfl, rfl, hmi, hih, by omega, h1, by
     intro t ht v hv
     have q1 := eX O hy ht HYV.out hv
     have q2 := of_decide_eq_false bc
     have q3 := O.sw v xe
     have q4 := O.sw yv xe
     have q5 := O.tr xe yv v (by omega) q1
     omega, S2 dq osq⟩
    case measure => simp [intOf]; omega
  ·have b1 : decide ((i : Int) < j) = false := decide_eq_false (by omega)
   have eij : i = j := by omega
   have M : Aside (Mrg cf [xe] y (y.take (i - m) ++ xe :: y.drop (i - m))) := by
    show Mrg _ _ _ _
    have := Mrg.one_left O (y1 := y.take (i - m)) (y2 := y.drop (i - m)) (e := xe) (by rw [List.take_append_drop]; exact hy) (fun v hv => by
     obtain ⟨t, ht⟩ := List.getElem?_of_mem hv
     rw [List.getElem?_take] at ht
     split at ht
     ·exact h1 t (by omega) v ht
     ·cases ht) (fun v hv => by
     obtain ⟨t, ht⟩ := List.getElem?_of_mem hv
     rw [List.getElem?_drop] at ht
     have := h2 (i - m + t) (by omega) v ht
     have := O.sw v xe
     omega)
    rwa [List.take_append_drop] at this
   have hbd : b ≤ d0.size := by omega
   subst eij
   clear h1 h2 hij
   have HLA := Lib.hid hla
   clear hla
   go_wp2_with fail
   go_loopw [13] (fun v13 wr => ∃ t : Nat, v13 = .int .i64 (a + t : Nat) ∧ t ≤ i - m ∧ Aside (SB enc k w0 blk off (p ++ (y.take t ++ xe :: y.drop t) ++ q).toArray wr)) (fun v13 wr => i - (intOf v13).toNat)
   case atStart => exact ⟨0, by go_num, by omega, by show SB _ _ _ _ _ _ _; have := S1; unfold Aside at this; simpa using this⟩
   case round =>
    obtain ⟨t, rfl, ht, S2⟩ := hrel
    clear S1
    by_cases hlt2 : t < i - m
    ·have b2 : decide (((a + t : Nat) : Int) < (i : Int) - 1) = true := decide_eq_true (by omega)
     have b2' : decide ((a : Int) + (t : Int) < (i : Int) - 1) = true := decide_eq_true (by omega)
     obtain ⟨yv, e1, e2⟩ : ∃ yv, p ++ (y.take t ++ xe :: y.drop t) ++ q = (p ++ y.take t) ++ xe :: yv :: (y.drop (t + 1) ++ q) ∧ p ++ (y.take (t + 1) ++ xe :: y.drop (t + 1)) ++ q = (p ++ y.take t) ++ yv :: xe :: (y.drop (t + 1) ++ q) := by
      have hty : t < y.length := by omega
      refine ⟨y[t], ?_, ?_⟩
      ·rw [List.drop_eq_getElem_cons hty]
       generalize y.drop (t + 1) = Y1, y.take t = Y0, y[t] = ye
       simp
      ·rw [List.take_succ_eq_append_getElem hty]
       generalize y.drop (t + 1) = Y1, y.take t = Y0, y[t] = ye
       simp
     have l1 : (p ++ y.take t).length = a + t := by simp; omega
     have hla := HLA.out
     have hDs : ((p ++ y.take t) ++ xe :: yv :: (y.drop (t + 1) ++ q)).toArray.size = d0.size := by rw [hla]; simp; omega
     have S3 : SB enc k w0 blk off ((p ++ y.take t) ++ xe :: yv :: (y.drop (t + 1) ++ q)).toArray wr := by rw [← e1]; exact S2
     clear S2
     generalize y.drop (t + 1) ++ q = Q1 at *
     generalize p ++ y.take t = P1 at *
     have ga : (P1 ++ xe :: yv :: Q1).toArray[a + t]! = xe := by rw [← l1]; exact fM _ _ _
     have gb : (P1 ++ xe :: yv :: Q1).toArray[a + t + 1]! = yv := by
      have := fM (P1 ++ [xe]) Q1 yv
      rw [show (P1 ++ [xe]).length = a + t + 1 by simp; omega] at this
      simpa using this
     have hw : swp (P1 ++ xe :: yv :: Q1).toArray (a + t) (a + t + 1) = (P1 ++ yv :: xe :: Q1).toArray := by rw [← l1]; exact tY _ _ _ _
     have S2 := S3.swapped R (a + t) (a + t + 1) (by omega) (by omega)
     have la := S3.drew.load R hDs P (a + t) (by omega)
     have lb := S3.drew.load R hDs P (a + t + 1) (by omega)
     have sa := S3.st1 R hDs P (a + t) (by omega) yv
     have sb := S3.st2 R hDs P (a + t) (a + t + 1) (by omega) (by omega) yv xe
     rw [ga, gb, hw, ← e2] at S2
     rw [ga] at la
     rw [gb] at lb
     have na : (enc xe).length = k := R.hk _
     have nb : (enc yv).length = k := R.hk _
     have ht1 : a + t + 1 < d0.size := by omega
     clear ga gb hw e1 e2 S3 hDs l1 hla
     have SS : Aside _ := S2
     clear S2
     have MM := Lib.hid M
     clear M
     generalize enc xe = cx at la sb SS na
     generalize enc yv = cy at lb sa sb SS nb
     have MM2 : Aside _ := MM.out
     clear MM
     have e1 : ((a : Int) + t).toNat = a + t := by omega
     have e2 : (0 : Int) ≤ (a : Int) + t := by omega
     have e3 : (a : Int) + t < d0.size := by omega
     have e4 : IntKind.i64.wrap ((a : Int) + t) = (a : Int) + t := by rw [IntKind.wrap_i64]; omega
     have f1 : ((a : Int) + t + 1).toNat = a + t + 1 := by omega
     have f2 : (0 : Int) ≤ (a : Int) + t + 1 := by omega
     have f3 : (a : Int) + t + 1 < d0.size := by omega
     have f4 : IntKind.i64.wrap ((a : Int) + t + 1) = (a : Int) + t + 1 := by rw [IntKind.wrap_i64]; omega
     go_wp2_with fail
     go_big_region_o
     all_goals go_wp2
     go_roundw
     case rel => exact ⟨t + 1, by go_num, by omega, SS⟩
     case measure => simp [intOf]; omega
    ·have b2 : decide (((a + t : Nat) : Int) < (i : Int) - 1) = false := decide_eq_false (by omega)
     have b2' : decide ((a : Int) + (t : Int) < (i : Int) - 1) = false := decide_eq_false (by omega)
     have et : t = i - m := by omega
     subst et
     go_wp2
     refine bodyPost_ret (results_none rfl _ _ _) rfl ?_
     exact ⟨rfl, _, M, by have := S2; unfold Aside at this; simpa using this⟩
end Go.Proofs.YtpflmgbpjhbmnaaGreat.SU
end
