/- InsUp. -/
import Derived.Test.YtpflmgbpjhbmnaaGreatQBm8
section
namespace Go.Proofs.YtpflmgbpjhbmnaaGreat.SU
open Go Go.Sort Go.RowKit Go.Lib Go.Shelf Go.Proofs Go.Proofs.YtpflmgbpjhbmnaaGreat.Stab
variable {α : Type} [Inhabited α]
set_option linter.unusedVariables false
set_option linter.unusedSimpArgs false
set_option maxHeartbeats 8000000 in
set_option maxRecDepth 1000000 in
theorem uE (k : Nat) (z50 : ∀ w, (Go.sizeOf 61).run Tryz.prog w = .ok k w) (enc : α → List Value) (cf : α → α → Int) (O : Ord cf) (g : Nat) (cb : Array Value) (blk off cap a b : Nat) (d0 : Array α) (w0 w : World) (R : RK enc k w0 blk off d0)
  (eg : ∀ args w, (callFunc g args).run Tryz.prog w = .ok (.enter g args) w) (hcmp : yK Tryz.prog g cb enc k cf blk off d0.size w0)
  (p : List α) (x0 : α) (x q : List α) (hp : p.length = a) (hb : a + 1 + x.length = b) (hs : d0.size = (p ++ (x0 :: x ++ q)).length) (S : SB enc k w0 blk off (p ++ (x0 :: x ++ q)).toArray w) (hsz : d0.size < 4611686018427387904) :
  Calls Tryz.prog 133 #[.slice (some ⟨blk, off, none⟩) d0.size cap, .int .i64 a, .int .i64 b, .func (.func g) #[] cb] w fun e w' => e = .returned (.tuple #[]) ∧ ∃ z, Srt cf z ∧ cL cf (x0 :: x) z ∧ SB enc k w0 blk off (p ++ (z ++ q)).toArray w' := by
 have F := Tryz.func133
 have mixed := mixed
 have t33 := Tryz.underlying22
 have t3 := Tryz.underlying3
 have t4 := Tryz.underlying4
 have a50 := Tryz.isAgg61
 have a33 := Tryz.isAgg22
 have a3 := Tryz.isAgg3
 have u33 := run_underlying t33
 have hla : d0.size = p.length + (1 + (x.length + q.length)) := by rw [hs]; simp; omega
 have S0 : Aside (SB enc k w0 blk off (p ++ (x0 :: x ++ q)).toArray w) := S
 have HC : Aside _ := hcmp
 clear S hcmp hs
 have hbd : b ≤ d0.size := by omega
 have HLA := Lib.hid hla
 have HP := Lib.hid hp
 have HB := Lib.hid hb
 have hab : a < b := by omega
 clear hla hp hb
 generalize Tryz.prog = P at *
 go_enter F, Tryz.ntmps133
 go_wp2_with fail
 go_loopw [8] (fun v8 wr => ∃ (i : Nat) (s r : List α), v8 = .int .i64 i ∧ a < i ∧ i ≤ b ∧ Aside (a + s.length = i) ∧ Aside (i + r.length = b) ∧ Aside (Srt cf s) ∧ Aside (cL cf (x0 :: x) (s ++ r)) ∧ Aside (SB enc k w0 blk off (p ++ (s ++ (r ++ q))).toArray wr)) (fun v8 wr => b - (intOf v8).toNat)
 case atStart => exact ⟨a + 1, [x0], x, by go_num, by omega, by omega, by show _ = _; simp, by show _ = _; have := HB.out; omega, pR _, cL.refl _, S0⟩
 case round =>
  obtain ⟨i, s, r, rfl, hai, hib, hsl, hrl, hss, hkp, S1⟩ := hrel
  clear S0
  by_cases hlt : i < b
  ·have b1 : decide ((i : Int) < b) = true := decide_eq_true (by omega)
   obtain ⟨e, r', rfl⟩ : ∃ e r', r = e :: r' := by
    cases r with
    | nil => have : i + 0 = b := hrl; omega
    | cons e r' => exact ⟨e, r', rfl⟩
   go_wp2_with fail
   go_loopw [9] (fun v9 wr => ∃ (j : Nat) (s1 s2 : List α), v9 = .int .i64 j ∧ a ≤ j ∧ j ≤ i ∧ Aside (s = s1 ++ s2) ∧ Aside (a + s1.length = j) ∧ Aside (∀ v ∈ s2, cf e v < 0) ∧ Aside (SB enc k w0 blk off (p ++ (s1 ++ (e :: (s2 ++ (r' ++ q))))).toArray wr)) (fun v9 wr => (intOf v9).toNat)
   case atStart => exact ⟨i, s, [], rfl, by omega, by omega, by show _ = _; simp, hsl, (show ∀ v ∈ ([] : List α), cf e v < 0 from fun v hv => by cases hv), by show SB _ _ _ _ _ _ _; have := S1; unfold Aside at this; simpa using this⟩
   case round =>
    obtain ⟨j, s1, s2, rfl, haj, hji, hs12, hs1l, h2, S2⟩ := hrel
    clear S1
    have hs1l' : a + s1.length = j := hs1l
    have hs12' : s = s1 ++ s2 := hs12
    have hla2 : d0.size = (p ++ (s1 ++ (e :: (s2 ++ (r' ++ q))))).length := by
     have e1 := HLA.out
     have e2 := HP.out
     have e3 := HB.out
     have e4 : a + s.length = i := hsl
     have e5 : i + (e :: r').length = b := hrl
     rw [hs12'] at e4
     simp at e4 e5 ⊢; omega
    have out : (s1 = [] ∨ ∃ l, s1.getLast? = some l ∧ 0 ≤ cf e l) → Aside (Srt cf (s1 ++ e :: s2)) ∧ Aside (cL cf (x0 :: x) ((s1 ++ e :: s2) ++ r')) := by
     intro h
     have hM : Mrg cf (s1 ++ s2) [e] (s1 ++ e :: s2) := Mrg.one_right O (by rw [← hs12']; exact hss) (fun v hv => by
      rcases h with rfl | ⟨l, hl, hc⟩
      ·cases hv
      ·have hs1s : Srt cf s1 := by have := hss; unfold Aside at this; rw [hs12'] at this; exact (dD.1 this).1
       have hne : s1 ≠ [] := by rintro rfl; cases hv
       obtain ⟨t, ht⟩ := List.getElem?_of_mem hv
       have hlt := (List.getElem?_eq_some_iff.1 ht).1
       rw [List.getLast?_eq_getElem?] at hl
       have q1 := eX O hs1s (show t ≤ s1.length - 1 by omega) ht hl
       have q2 := O.sw e l
       exact O.tr _ _ _ q1 (by omega)) h2
     refine ⟨hM.1, ?_⟩
     have hk1 : cL cf (x0 :: x) (s ++ e :: r') := hkp
     rw [hs12'] at hk1
     have hk2 := cL.app hM.2 (cL.refl (c := cf) r')
     exact hk1.trans (by simpa using hk2)
    have OUT := Lib.hid out
    have HS12 := Lib.hid hs12'
    have HS1L := Lib.hid hs1l'
    have HL2 := Lib.hid hla2
    clear out hs12 hs12' hs1l hs1l' hla2
    by_cases hja : a < j
    ·have b2 : decide ((a : Int) < j) = true := decide_eq_true (by omega)
     obtain ⟨s1', l, hsl1⟩ : ∃ s1' l, s1 = s1' ++ [l] := by
      refine ⟨s1.dropLast, s1.getLast (by intro h; have := HS1L.out; rw [h] at this; simp at this; omega), (List.dropLast_concat_getLast _).symm⟩
     obtain ⟨jp, rfl⟩ : ∃ jp, j = jp + 1 := ⟨j - 1, by omega⟩
     have hDs : (p ++ (s1 ++ (e :: (s2 ++ (r' ++ q))))).toArray.size = d0.size := by rw [HL2.out]; simp
     have hP1 : (p ++ s1').length = jp := by have h1 := HS1L.out; have h2 := HP.out; rw [hsl1] at h1; simp at h1 ⊢; omega
     have eD : p ++ (s1 ++ (e :: (s2 ++ (r' ++ q)))) = (p ++ s1') ++ l :: e :: (s2 ++ (r' ++ q)) := by rw [hsl1]; simp
     have eE : p ++ (s1' ++ (e :: ((l :: s2) ++ (r' ++ q)))) = (p ++ s1') ++ e :: l :: (s2 ++ (r' ++ q)) := by simp
     have gl : (p ++ (s1 ++ (e :: (s2 ++ (r' ++ q))))).toArray[jp]! = l := by rw [eD, ← hP1]; exact fM _ _ _
     have ge : (p ++ (s1 ++ (e :: (s2 ++ (r' ++ q))))).toArray[jp + 1]! = e := by
      rw [eD]
      have := fM ((p ++ s1') ++ [l]) (s2 ++ (r' ++ q)) e
      rw [show ((p ++ s1') ++ [l]).length = jp + 1 by rw [List.length_append, hP1]; rfl] at this
      simpa using this
     have le : ∀ d os, Sem.run P (loadCellsFrom ⟨blk, off + (jp + 1) * k, none⟩ 0 k #[]) (grow (redrawn wr d) os) = .ok (enc e).toArray (grow (redrawn wr d) os) := fun d os => by rw [← ge]; exact (SB.re S2 d os).load R hDs P (jp + 1) (by omega)
     have ll : ∀ d os, Sem.run P (loadCellsFrom ⟨blk, off + jp * k, none⟩ 0 k #[]) (grow (redrawn wr d) os) = .ok (enc l).toArray (grow (redrawn wr d) os) := fun d os => by rw [← gl]; exact (SB.re S2 d os).load R hDs P jp (by omega)
     have hcg : ∀ d os, Calls P g (#[.agg (enc e).toArray, .agg (enc l).toArray] ++ cb) (grow (redrawn wr d) os) fun e' w' => e' = .returned (.int .i64 (cf e l)) ∧ Below (grow (redrawn wr d) os).heap.size (grow (redrawn wr d) os) w' := fun d os => HC _ _ hDs (SB.re S2 d os) e l
     have S3 : Aside (∀ d os, SB enc k w0 blk off (p ++ (s1 ++ (e :: (s2 ++ (r' ++ q))))).toArray (grow (redrawn wr d) os)) := fun d os => SB.re S2 d os
     have HDS := Lib.hid hDs
     have HGL := Lib.hid gl
     have HGE := Lib.hid ge
     have HEE := Lib.hid eE
     have HED := Lib.hid eD
     have HPL := Lib.hid hP1
     have HSL := Lib.hid hsl1
     clear S2 hDs gl ge eE eD hP1 hsl1
     have e1 : ((jp : Int) + 1).toNat = jp + 1 := by omega
     have e2 : (0 : Int) ≤ (jp : Int) + 1 := by omega
     have e3 : (jp : Int) + 1 < d0.size := by omega
     have e4 : IntKind.i64.wrap ((jp : Int) + 1) = (jp : Int) + 1 := by rw [IntKind.wrap_i64]; omega
     have e5 : IntKind.i64.wrap ((jp : Int)) = (jp : Int) := by rw [IntKind.wrap_i64]; omega
     have e6 : (jp : Int) < d0.size := by omega
     have b2' : decide ((a : Int) < (jp : Int) + 1) = true := decide_eq_true (by omega)
     by_cases hcf : cf e l < 0
     ·have bc : decide (cf e l < 0) = true := decide_eq_true hcf
      clear OUT
      go_wp2_with fail
      refine wp_region_quiet_below (by assumption) (by kernel_rfl) ?_
      repeat (quiet_step (first | (go_at_fn g; refine Calls.regrown_of (hcg _ _))))
      refine wpQuiet_nil ?_
      intro _ hw'
      obtain ⟨⟨dq, osq⟩, hw''⟩ := hw'
      subst hw''
      go_wp2_with fail
      have S4 : SB enc k w0 blk off (p ++ (s1 ++ (e :: (s2 ++ (r' ++ q))))).toArray (grow (redrawn wr dq) osq) := S3 dq osq
      clear S3 le ll hcg
      generalize grow (redrawn wr dq) osq = wq at S4 ⊢
      have hw : swp (p ++ (s1 ++ (e :: (s2 ++ (r' ++ q))))).toArray (jp + 1) jp = (p ++ (s1' ++ (e :: ((l :: s2) ++ (r' ++ q))))).toArray := by rw [HED.out, HEE.out, ← HPL.out]; exact swp_adj' _ _ _ _
      have S5 := S4.swapped R (jp + 1) jp (by have := HDS.out; omega) (by have := HDS.out; omega)
      have la := S4.drew.load R HDS.out P jp (by have := HDS.out; omega)
      have lb := S4.drew.load R HDS.out P (jp + 1) (by have := HDS.out; omega)
      have sa := S4.st1 R HDS.out P (jp + 1) (by have := HDS.out; omega) l
      have sb := S4.st2 R HDS.out P (jp + 1) jp (by have := HDS.out; omega) (by have := HDS.out; omega) l e
      rw [HGE.out, HGL.out, hw] at S5
      rw [HGL.out] at la
      rw [HGE.out] at lb
      have na : (enc l).length = k := R.hk _
      have nb : (enc e).length = k := R.hk _
      clear hw S4
      have SS : Aside _ := S5
      clear S5
      generalize enc l = cl at la sa sb SS na
      generalize enc e = ce at lb sb SS nb
      go_big_region_o
      all_goals go_wp2
      go_roundw
      case rel => exact ⟨jp, s1', l :: s2, by first | rfl | go_num | (congr 1; omega), by omega, by omega, by show _ = _; rw [HS12.out, HSL.out]; simp, by show _ = _; have := HPL.out; have := HP.out; simp at *; omega, by
       intro v hv
       rcases List.mem_cons.1 hv with rfl | hv
       ·exact hcf
       ·exact h2 v hv, SS⟩
      case measure => simp [intOf]
     ·have bc : decide (cf e l < 0) = false := decide_eq_false hcf
      have HO := OUT.out (.inr ⟨l, by rw [HSL.out]; simp, by omega⟩)
      go_wp2_with fail
      refine wp_region_quiet_below (by assumption) (by kernel_rfl) ?_
      repeat (quiet_step (first | (go_at_fn g; refine Calls.regrown_of (hcg _ _))))
      refine wpQuiet_nil ?_
      intro _ hw'
      obtain ⟨⟨dq, osq⟩, hw''⟩ := hw'
      subst hw''
      go_wp2
      go_roundw
      case rel => exact ⟨i + 1, s1 ++ e :: s2, r', by go_num, by omega, by omega, by show _ = _; have h : a + s.length = i := hsl; rw [HS12.out] at h; simp at h ⊢; omega, by show _ = _; have h : i + (e :: r').length = b := hrl; simp at h; omega, HO.1, HO.2, by show SB _ _ _ _ _ _ _; have := S3 dq osq; simpa using this⟩
      case measure => simp [intOf]; omega
    ·have b2 : decide ((a : Int) < j) = false := decide_eq_false (by omega)
     have HO := OUT.out (.inl (List.length_eq_zero_iff.1 (by have := HS1L.out; omega)))
     have S3 : Aside (SB enc k w0 blk off (p ++ (s1 ++ (e :: (s2 ++ (r' ++ q))))).toArray wr.drew) := SB.drew S2
     clear S2
     go_wp2_with fail
     go_big_region_o
     all_goals go_wp2
     go_roundw
     case rel => exact ⟨i + 1, s1 ++ e :: s2, r', by go_num, by omega, by omega, by show _ = _; have h : a + s.length = i := hsl; rw [HS12.out] at h; simp at h ⊢; omega, by show _ = _; have h : i + (e :: r').length = b := hrl; simp at h; omega, HO.1, HO.2, by show SB _ _ _ _ _ _ _; have := S3; unfold Aside at this; simpa using this⟩
     case measure => simp [intOf]; omega
  ·have b1 : decide ((i : Int) < b) = false := decide_eq_false (by omega)
   have hr0 : r = [] := List.length_eq_zero_iff.1 (by have h : i + r.length = b := hrl; omega)
   have SF : Aside (SB enc k w0 blk off (p ++ (s ++ q)).toArray wr) := by show SB _ _ _ _ _ _ _; have := S1; unfold Aside at this; rw [hr0] at this; simpa using this
   have KF : Aside (cL cf (x0 :: x) s) := by show cL _ _ _; have := hkp; unfold Aside at this; rw [hr0] at this; simpa using this
   clear hr0 S1 hkp
   go_wp2
   go_end0
   exact ⟨rfl, s, hss, KF, SF⟩
end Go.Proofs.YtpflmgbpjhbmnaaGreat.SU
end
