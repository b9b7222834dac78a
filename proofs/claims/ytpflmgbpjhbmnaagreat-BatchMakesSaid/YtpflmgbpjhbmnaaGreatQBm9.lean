/- SymUp2. -/
import Derived.Test.YtpflmgbpjhbmnaaGreatQBm8
section
namespace Go.Proofs.YtpflmgbpjhbmnaaGreat.SU
open Go Go.Sort Go.RowKit Go.Lib Go.Shelf Go.Proofs Go.Proofs.YtpflmgbpjhbmnaaGreat.Stab
variable {α : Type} [Inhabited α]
set_option linter.unusedVariables false
set_option linter.unusedSimpArgs false
set_option maxHeartbeats 4000000 in
set_option maxRecDepth 1000000 in
theorem DS (k : Nat) (z50 : ∀ w, (Go.sizeOf 61).run Tryz.prog w = .ok k w) (enc : α → List Value) (cf : α → α → Int) (O : Ord cf) (g : Nat) (cb : Array Value) (blk off cap a m b : Nat) (d0 : Array α) (w0 w : World) (R : RK enc k w0 blk off d0)
  (eg : ∀ args w, (callFunc g args).run Tryz.prog w = .ok (.enter g args) w) (hcmp : yK Tryz.prog g cb enc k cf blk off d0.size w0)
  (p x : List α) (ye : α) (q : List α) (hp : p.length = a) (hx1 : 2 ≤ x.length) (hm : a + x.length = m) (hb : m + 1 = b) (hx : Srt cf x) (hs : d0.size = (p ++ (x ++ ([ye] ++ q))).length) (S : SB enc k w0 blk off (p ++ (x ++ ([ye] ++ q))).toArray w) (hsz : d0.size < 4611686018427387904) :
  Calls Tryz.prog 134 #[.slice (some ⟨blk, off, none⟩) d0.size cap, .int .i64 a, .int .i64 m, .int .i64 b, .func (.func g) #[] cb] w fun e w' => e = .returned (.tuple #[]) ∧ ∃ z, Mrg cf x [ye] z ∧ SB enc k w0 blk off (p ++ (z ++ q)).toArray w' := by
 have F := Tryz.func134
 have mixed := mixed
 have t33 := Tryz.underlying22
 have t3 := Tryz.underlying3
 have t4 := Tryz.underlying4
 have t168 := Tryz.underlying159
 have a50 := Tryz.isAgg61
 have a33 := Tryz.isAgg22
 have a3 := Tryz.isAgg3
 have u33 := run_underlying t33
 have hla : d0.size = p.length + (x.length + (1 + q.length)) := by rw [hs]; simp; omega
 have S0 : Aside (SB enc k w0 blk off (p ++ (x ++ ([ye] ++ q))).toArray w) := S
 have HC : Aside _ := hcmp
 clear S hcmp hs
 have b0 : ((m : Int) - a == 1) = false := beq_eq_false_iff_ne.2 (by omega)
 have b00 : ((b : Int) - m == 1) = true := beq_iff_eq.2 (by omega)
 generalize Tryz.prog = P at *
 go_enter F, Tryz.ntmps134
 go_wp2_with fail
 go_loopw [14, 15] (fun v10 v11 wr => ∃ i j : Nat, v10 = .int .i64 i ∧ v11 = .int .i64 j ∧ a ≤ i ∧ i ≤ j ∧ j ≤ m ∧ Aside (∀ t, t < i - a → ∀ v, x[t]? = some v → 0 ≤ cf ye v) ∧ Aside (∀ t, j - a ≤ t → ∀ v, x[t]? = some v → cf ye v < 0) ∧ Aside (SB enc k w0 blk off (p ++ (x ++ ([ye] ++ q))).toArray wr)) (fun v10 v11 wr => (intOf v11 - intOf v10).toNat)
 case atStart => exact ⟨a, m, rfl, rfl, by omega, by omega, by omega, by intro t ht; omega, by intro t ht v hv; have := (List.getElem?_eq_some_iff.1 hv).1; omega, S0⟩
 case round =>
  obtain ⟨i, j, rfl, rfl, hmi, hij, hjb, h1, h2, S1⟩ := hrel
  clear S0
  by_cases hlt : i < j
  ·have b1 : decide ((i : Int) < j) = true := decide_eq_true (by omega)
   obtain ⟨h, hh⟩ : ∃ h, h = (i + j) / 2 := ⟨_, rfl⟩
   have hDs : (p ++ (x ++ ([ye] ++ q))).toArray.size = d0.size := by rw [hla]; simp; omega
   obtain ⟨xv, hyv⟩ : ∃ v, x[h - a]? = some v := ⟨x[h - a]'(by omega), List.getElem?_eq_getElem _⟩
   have gh : (p ++ (x ++ ([ye] ++ q))).toArray[h]! = xv := by
    have e : h = p.length + (h - a) := by omega
    have hl : h - a < x.length := (List.getElem?_eq_some_iff.1 hyv).1
    simp only [List.getElem!_toArray, List.getElem!_eq_getElem?_getD]
    rw [e, List.getElem?_append_right (by omega), Nat.add_sub_cancel_left, List.getElem?_append_left hl, hyv]; rfl
   have ga : (p ++ (x ++ ([ye] ++ q))).toArray[m]! = ye := by
    have := fM (p ++ x) q ye
    rw [show (p ++ x).length = m by simp; omega] at this
    simpa using this
   have lh : ∀ d os, Sem.run P (loadCellsFrom ⟨blk, off + h * k, none⟩ 0 k #[]) (grow (redrawn wr d) os) = .ok (enc xv).toArray (grow (redrawn wr d) os) := fun d os => by rw [← gh]; exact (SB.re S1 d os).load R hDs P h (by omega)
   have la : ∀ d os, Sem.run P (loadCellsFrom ⟨blk, off + m * k, none⟩ 0 k #[]) (grow (redrawn wr d) os) = .ok (enc ye).toArray (grow (redrawn wr d) os) := fun d os => by rw [← ga]; exact (SB.re S1 d os).load R hDs P m (by omega)
   have hcg : ∀ d os, Calls P g (#[.agg (enc ye).toArray, .agg (enc xv).toArray] ++ cb) (grow (redrawn wr d) os) fun e w' => e = .returned (.int .i64 (cf ye xv)) ∧ Below (grow (redrawn wr d) os).heap.size (grow (redrawn wr d) os) w' := fun d os => HC _ _ hDs (SB.re S1 d os) ye xv
   clear gh ga hDs
   have S2 : Aside (∀ d os, SB enc k w0 blk off (p ++ (x ++ ([ye] ++ q))).toArray (grow (redrawn wr d) os)) := fun d os => SB.re S1 d os
   clear S1
   have hz : ((i : Int) + j) / 2 = (h : Nat) := by omega
   have r1 : IntKind.i64.wrap (h : Int) = (h : Int) := by rw [IntKind.wrap_i64]; omega
   have r2 : IntKind.i64.wrap (m : Int) = (m : Int) := by rw [IntKind.wrap_i64]; omega
   have s1 : (h : Int) < d0.size := by omega
   have s2 : (m : Int) < d0.size := by omega
   have hih : i ≤ h := by omega
   have hbd : b ≤ d0.size := by omega
   have hhj : h < j := by omega
   have HZ := Lib.hid hz
   have HH := Lib.hid hh
   have HLA := Lib.hid hla
   have HYV := Lib.hid hyv
   clear hz hh hla hyv
   by_cases hc : cf ye xv < 0
   ·have bc : decide (cf ye xv < 0) = true := decide_eq_true hc
    clear hc
    go_wp2_with fail
    rw [HZ.out]
    refine wp_region_quiet_below (by assumption) (by kernel_rfl) ?_
    repeat (quiet_step (first | (go_at_fn g; refine Calls.regrown_of (hcg _ _))))
    refine wpQuiet_nil ?_
    intro _ hw'
    obtain ⟨⟨dq, osq⟩, hw''⟩ := hw'
    subst hw''
    go_wp2
    go_roundw
    case rel => exact ⟨i, h, rfl, rfl, hmi, hih, by omega, h1, by
     intro t ht v hv
     exact O.lt_le (of_decide_eq_true bc) (eX O hx ht HYV.out hv), S2 dq osq⟩
    case measure => simp [intOf]; omega
   ·have bc : decide (cf ye xv < 0) = false := decide_eq_false hc
    clear hc
    go_wp2_with fail
    rw [HZ.out]
    refine wp_region_quiet_below (by assumption) (by kernel_rfl) ?_
    repeat (quiet_step (first | (go_at_fn g; refine Calls.regrown_of (hcg _ _))))
    refine wpQuiet_nil ?_
    intro _ hw'
    obtain ⟨⟨dq, osq⟩, hw''⟩ := hw'
    subst hw''
    go_wp2
    go_roundw
    case rel => exact ⟨h + 1, j, by go_num, rfl, by omega, by omega, hjb, by
     intro t ht v hv
     have q1 := eX O hx (show t ≤ h - a by omega) hv HYV.out
     have q2 := of_decide_eq_false bc
     have q3 := O.sw ye v
     have q4 := O.sw ye xv
     have q5 := O.tr v xv ye q1 (by omega)
     omega, h2, S2 dq osq⟩
    case measure => simp [intOf]; omega
  ·have b1 : decide ((i : Int) < j) = false := decide_eq_false (by omega)
   have eij : i = j := by omega
   have M : Aside (Mrg cf x [ye] (x.take (i - a) ++ ye :: x.drop (i - a))) := by
    show Mrg _ _ _ _
    have := Mrg.one_right O (x1 := x.take (i - a)) (x2 := x.drop (i - a)) (e := ye) (by rw [List.take_append_drop]; exact hx) (fun v hv => by
     obtain ⟨t, ht⟩ := List.getElem?_of_mem hv
     rw [List.getElem?_take] at ht
     split at ht
     ·have := h1 t (by omega) v ht
      have := O.sw ye v
      omega
     ·cases ht) (fun v hv => by
     obtain ⟨t, ht⟩ := List.getElem?_of_mem hv
     rw [List.getElem?_drop] at ht
     exact h2 (i - a + t) (by omega) v ht)
    rwa [List.take_append_drop] at this
   have hbd : b ≤ d0.size := by omega
   subst eij
   clear h1 h2 hij
   have HLA := Lib.hid hla
   clear hla
   go_wp2_with fail
   go_loopw [17] (fun v17 wr => ∃ t : Nat, v17 = .int .i64 (a + t : Nat) ∧ i ≤ a + t ∧ t ≤ x.length ∧ Aside (SB enc k w0 blk off (p ++ (x.take t ++ ye :: x.drop t) ++ q).toArray wr)) (fun v17 wr => (intOf v17).toNat)
   case atStart => exact ⟨x.length, by first | go_num | (congr 1; omega), by omega, by omega, by show SB _ _ _ _ _ _ _; have := S1; unfold Aside at this; simpa using this⟩
   case round =>
    obtain ⟨t, rfl, hit, ht, S2⟩ := hrel
    clear S1
    by_cases hlt2 : i < a + t
    ·have b2 : decide ((i : Int) < (a : Int) + (t : Int)) = true := decide_eq_true (by omega)
     obtain ⟨s, rfl⟩ : ∃ s, t = s + 1 := ⟨t - 1, by omega⟩
     obtain ⟨xv, e1, e2⟩ : ∃ xv, p ++ (x.take (s + 1) ++ ye :: x.drop (s + 1)) ++ q = (p ++ x.take s) ++ xv :: ye :: (x.drop (s + 1) ++ q) ∧ p ++ (x.take s ++ ye :: x.drop s) ++ q = (p ++ x.take s) ++ ye :: xv :: (x.drop (s + 1) ++ q) := by
      have hsx : s < x.length := by omega
      refine ⟨x[s], ?_, ?_⟩
      ·rw [List.take_succ_eq_append_getElem hsx]
       generalize x.drop (s + 1) = Y1, x.take s = Y0, x[s] = xv
       simp
      ·rw [List.drop_eq_getElem_cons hsx]
       generalize x.drop (s + 1) = Y1, x.take s = Y0, x[s] = xv
       simp
     have l1 : (p ++ x.take s).length = a + s := by simp; omega
     have hla := HLA.out
     have hDs : ((p ++ x.take s) ++ xv :: ye :: (x.drop (s + 1) ++ q)).toArray.size = d0.size := by rw [hla]; simp; omega
     have S3 : SB enc k w0 blk off ((p ++ x.take s) ++ xv :: ye :: (x.drop (s + 1) ++ q)).toArray wr := by rw [← e1]; exact S2
     clear S2
     generalize x.drop (s + 1) ++ q = Q1 at *
     generalize p ++ x.take s = P1 at *
     have ga : (P1 ++ xv :: ye :: Q1).toArray[a + s]! = xv := by rw [← l1]; exact fM _ _ _
     have gb : (P1 ++ xv :: ye :: Q1).toArray[a + s + 1]! = ye := by
      have := fM (P1 ++ [xv]) Q1 ye
      rw [show (P1 ++ [xv]).length = a + s + 1 by simp; omega] at this
      simpa using this
     have hw : swp (P1 ++ xv :: ye :: Q1).toArray (a + s + 1) (a + s) = (P1 ++ ye :: xv :: Q1).toArray := by rw [← l1]; exact swp_adj' _ _ _ _
     have S2 := S3.swapped R (a + s + 1) (a + s) (by omega) (by omega)
     have la := S3.drew.load R hDs P (a + s) (by omega)
     have lb := S3.drew.load R hDs P (a + s + 1) (by omega)
     have sa := S3.st1 R hDs P (a + s + 1) (by omega) xv
     have sb := S3.st2 R hDs P (a + s + 1) (a + s) (by omega) (by omega) xv ye
     rw [ga, gb, hw, ← e2] at S2
     rw [ga] at la
     rw [gb] at lb
     have na : (enc xv).length = k := R.hk _
     have nb : (enc ye).length = k := R.hk _
     have ht1 : a + s + 1 < d0.size := by omega
     clear ga gb hw e1 e2 S3 hDs l1 hla
     have SS : Aside _ := S2
     clear S2
     generalize enc xv = cx at la sa sb SS na
     generalize enc ye = cy at lb sb SS nb
     have z1 : (a : Int) + ((s + 1 : Nat) : Int) = (a : Int) + s + 1 := by omega
     rw [Nat.add_succ a s, Int.natCast_succ, Int.natCast_add]
     have z2 : (a : Int) + s + 1 - 1 = (a : Int) + s := by omega
     have e1 : ((a : Int) + s).toNat = a + s := by omega
     have e2 : (0 : Int) ≤ (a : Int) + s := by omega
     have e3 : (a : Int) + s < d0.size := by omega
     have e4 : IntKind.i64.wrap ((a : Int) + s) = (a : Int) + s := by rw [IntKind.wrap_i64]; omega
     have f1 : ((a : Int) + s + 1).toNat = a + s + 1 := by omega
     have f2 : (0 : Int) ≤ (a : Int) + s + 1 := by omega
     have f3 : (a : Int) + s + 1 < d0.size := by omega
     have f4 : IntKind.i64.wrap ((a : Int) + s + 1) = (a : Int) + s + 1 := by rw [IntKind.wrap_i64]; omega
     have b3 : decide ((i : Int) < (a : Int) + (s : Int) + 1) = true := decide_eq_true (by omega)
     clear z1 b2
     go_wp2_with fail
     go_big_region_o
     all_goals go_wp2
     go_roundw
     case rel => exact ⟨s, by go_num, by omega, by omega, SS⟩
     case measure => simp [intOf]; omega
    ·have b2 : decide ((i : Int) < (a : Int) + (t : Int)) = false := decide_eq_false (by omega)
     have et : t = i - a := by omega
     have SF : Aside (SB enc k w0 blk off (p ++ ((x.take (i - a) ++ ye :: x.drop (i - a)) ++ q)).toArray wr) := by
      show SB _ _ _ _ _ _ _
      rw [← et]
      have := S2
      unfold Aside at this
      simpa using this
     clear et S2
     go_wp2
     refine bodyPost_ret (results_none rfl _ _ _) rfl ?_
     exact ⟨rfl, _, M, SF⟩
end Go.Proofs.YtpflmgbpjhbmnaaGreat.SU
end
