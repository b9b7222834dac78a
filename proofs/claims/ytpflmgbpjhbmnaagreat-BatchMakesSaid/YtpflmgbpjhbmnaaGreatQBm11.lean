/- SymUp4. -/
import Derived.Test.YtpflmgbpjhbmnaaGreatQBm10
section
namespace Go.Proofs.YtpflmgbpjhbmnaaGreat.SU
open Go Go.Sort Go.RowKit Go.Lib Go.Shelf Go.Proofs Go.Proofs.YtpflmgbpjhbmnaaGreat.Stab
variable {α : Type} [Inhabited α]
set_option linter.unusedVariables false
set_option linter.unusedSimpArgs false
set_option maxHeartbeats 8000000 in
set_option maxRecDepth 1000000 in
theorem CP (k : Nat) (z50 : ∀ w, (Go.sizeOf 61).run Tryz.prog w = .ok k w) (enc : α → List Value) (cf : α → α → Int) (O : Ord cf) (g : Nat) (cb : Array Value) (blk off cap a m b : Nat) (d0 : Array α) (w0 w : World) (R : RK enc k w0 blk off d0)
  (eg : ∀ args w, (callFunc g args).run Tryz.prog w = .ok (.enter g args) w) (hcmp : yK Tryz.prog g cb enc k cf blk off d0.size w0)
  (p x y q : List α) (hp : p.length = a) (hx1 : 2 ≤ x.length) (hy1 : 2 ≤ y.length) (hm : a + x.length = m) (hb : m + y.length = b) (hx : Srt cf x) (hy : Srt cf y) (hs : d0.size = (p ++ (x ++ (y ++ q))).length) (S : SB enc k w0 blk off (p ++ (x ++ (y ++ q))).toArray w) (hsz : d0.size < 4611686018427387904)
  (hmidm : (a + b) / 2 < m)
  (hrec : ∀ (ai mi bi : Int) (W : World) (p x y q : List α), x.length + y.length < b - a → (p.length : Int) = ai → ((p.length + x.length : Nat) : Int) = mi → ((p.length + x.length + y.length : Nat) : Int) = bi → 0 < x.length → 0 < y.length → Srt cf x → Srt cf y → d0.size = (p ++ (x ++ (y ++ q))).length → SB enc k w0 blk off (p ++ (x ++ (y ++ q))).toArray W →
   Calls Tryz.prog 134 #[.slice (some ⟨blk, off, none⟩) d0.size cap, .int .i64 ai, .int .i64 mi, .int .i64 bi, .func (.func g) #[] cb] W fun e w' => e = .returned (.tuple #[]) ∧ ∃ z, Mrg cf x y z ∧ SB enc k w0 blk off (p ++ (z ++ q)).toArray w') :
  Calls Tryz.prog 134 #[.slice (some ⟨blk, off, none⟩) d0.size cap, .int .i64 a, .int .i64 m, .int .i64 b, .func (.func g) #[] cb] w fun e w' => e = .returned (.tuple #[]) ∧ ∃ z, Mrg cf x y z ∧ SB enc k w0 blk off (p ++ (z ++ q)).toArray w' := by
 have HROT : Aside (∀ (ai mi bi : Int) (W : World) (p x y q : List α), (p.length : Int) = ai → ((p.length + x.length : Nat) : Int) = mi → ((p.length + x.length + y.length : Nat) : Int) = bi → 0 < x.length → 0 < y.length → d0.size = (p ++ (x ++ (y ++ q))).length → SB enc k w0 blk off (p ++ (x ++ (y ++ q))).toArray W →
   Calls Tryz.prog 142 #[.slice (some ⟨blk, off, none⟩) d0.size cap, .int .i64 ai, .int .i64 mi, .int .i64 bi, .func (.func g) #[] cb] W fun e w' => e = .returned (.tuple #[]) ∧ SB enc k w0 blk off (p ++ (y ++ (x ++ q))).toArray w') := by
  show ∀ _, _
  intro ai mi bi W p x y q h1 h2 h3 h4 h5 h6 h7
  subst h1 h2 h3
  exact yJ k z50 enc (.func (.func g) #[] cb) blk off cap _ _ _ d0 w0 W R p x y q rfl rfl rfl h4 h5 h6 h7 hsz
 have HREC : Aside _ := hrec
 clear hrec
 have F := Tryz.func134
 have mixed := mixed
 have t33 := Tryz.underlying22
 have t3 := Tryz.underlying3
 have t4 := Tryz.underlying4
 have t168 := Tryz.underlying159
 have a50 := Tryz.isAgg61
 have a33 := Tryz.isAgg22
 have a3 := Tryz.isAgg3
 have u33 := run_underlying t33
 have e178 : ∀ args w, (callFunc 142 args).run Tryz.prog w = .ok (.enter 142 args) w := enters_of Tryz.func142 (by kernel_rfl) rfl
 have e163 : ∀ args w, (callFunc 134 args).run Tryz.prog w = .ok (.enter 134 args) w := enters_of Tryz.func134 (by kernel_rfl) rfl
 have hla : d0.size = p.length + (x.length + (y.length + q.length)) := by rw [hs]; simp
 have S0 : Aside (SB enc k w0 blk off (p ++ (x ++ (y ++ q))).toArray w) := S
 have HC : Aside _ := hcmp
 clear S hcmp hs
 have b0 : ((m : Int) - a == 1) = false := beq_eq_false_iff_ne.2 (by omega)
 have b00 : ((b : Int) - m == 1) = false := beq_eq_false_iff_ne.2 (by omega)
 obtain ⟨mid, hmid⟩ : ∃ mid, mid = (a + b) / 2 := ⟨_, rfl⟩
 have hz : ((a : Int) + b) / 2 = (mid : Nat) := by omega
 have HZ := Lib.hid hz
 clear hz
 have hbd : b ≤ d0.size := by omega
 have hamid : a < mid := by omega
 have hmidb : mid < b := by omega
 obtain ⟨n, hn⟩ : ∃ n, n = mid + m := ⟨_, rfl⟩
 have hz2 : (mid : Int) + m = (n : Nat) := by omega
 have HZ2 := Lib.hid hz2
 clear hz2
 have HMID := Lib.hid hmid
 have HN := Lib.hid hn
 have HLA := Lib.hid hla
 have HP := Lib.hid hp
 have HM := Lib.hid hm
 have HB := Lib.hid hb
 have hnd : n ≤ 2 * d0.size := by omega
 clear hmid hn hla hp hm hb
 obtain ⟨lo, hi, hlohi, HLO, HHI⟩ : ∃ lo hi : Nat, (if mid < m then (n = lo + b ∧ hi = mid) else (lo = a ∧ hi = m)) ∧ Aside (lo = a ∨ n = lo + b) ∧ Aside (hi = m ∨ n = hi + m) := by
  have e1 := HN.out
  have e2 := HMID.out
  have e3 := HM.out
  have e4 := HB.out
  by_cases c : mid < m
  ·exact ⟨n - b, mid, by rw [if_pos c]; omega, by show _ ∨ _; omega, by show _ ∨ _; omega⟩
  ·exact ⟨a, m, by rw [if_neg c]; exact ⟨rfl, rfl⟩, .inl rfl, .inl rfl⟩
 obtain ⟨hla, hhm, hn1, hn2, hlh⟩ : a ≤ lo ∧ hi ≤ m ∧ m + hi ≤ n ∧ n ≤ lo + b ∧ lo ≤ hi := by
  have e1 := HN.out
  have e2 := HMID.out
  have e3 := HM.out
  have e4 := HB.out
  split at hlohi <;> omega
 have hmb : m ≤ b := by have := HB.out; omega
 have ham : a ≤ m := by have := HM.out; omega
 have hn0 : 0 < n := by have := HN.out; omega
 have c : mid < m := by rw [HMID.out]; exact hmidm
 have hz3 : (n : Int) - b = (lo : Nat) := by rw [if_pos c] at hlohi; omega
 have HZ3 := Lib.hid hz3
 obtain rfl : hi = mid := by rw [if_pos c] at hlohi; exact hlohi.2
 clear hz3 hlohi
 have b3 : decide (((a : Int) + b) / 2 < m) = true := decide_eq_true (by rw [HZ.out]; omega)
 generalize Tryz.prog = P at *
 go_enter F, Tryz.ntmps134
 go_wp2_with fail
 rw [HZ.out, HZ2.out, HZ3.out]
 clear b3
 go_loopw [20, 21] (fun v20 v21 wr => ∃ st r : Nat, v20 = .int .i64 st ∧ v21 = .int .i64 r ∧ lo ≤ st ∧ st ≤ r ∧ r ≤ hi ∧ Aside (gY cf (p ++ (x ++ (y ++ q))).toArray a m b n lo hi st r) ∧ Aside (SB enc k w0 blk off (p ++ (x ++ (y ++ q))).toArray wr)) (fun v20 v21 wr => (intOf v21 - intOf v20).toNat)
 case atStart => exact ⟨lo, hi, rfl, rfl, by omega, by omega, by omega, ⟨by omega, by omega, by omega, fun c h1 h2 => by omega, fun c h1 h2 => by omega⟩, S0⟩
 case round =>
  obtain ⟨st, r, rfl, rfl, hst1, hst2, hst3, HPA, S1⟩ := hrel
  clear S0
  by_cases hlt : st < r
  ·have b1 : decide ((st : Int) < r) = true := decide_eq_true (by omega)
   obtain ⟨c, hc⟩ : ∃ c, c = (st + r) / 2 := ⟨_, rfl⟩
   obtain ⟨cc, hcc⟩ : ∃ cc, cc = n - 1 - c := ⟨_, rfl⟩
   have hDs : (p ++ (x ++ (y ++ q))).toArray.size = d0.size := by rw [HLA.out]; simp
   obtain ⟨u, hu⟩ : ∃ u, (p ++ (x ++ (y ++ q))).toArray[c]! = u := ⟨_, rfl⟩
   obtain ⟨v, hv⟩ : ∃ v, (p ++ (x ++ (y ++ q))).toArray[cc]! = v := ⟨_, rfl⟩
   have hcst : st ≤ c := by omega
   have hcr : c < r := by omega
   have hnc : cc < b := by omega
   have lh : ∀ d os, Sem.run P (loadCellsFrom ⟨blk, off + cc * k, none⟩ 0 k #[]) (grow (redrawn wr d) os) = .ok (enc v).toArray (grow (redrawn wr d) os) := fun d os => by rw [← hv]; exact (SB.re S1 d os).load R hDs P cc (by omega)
   have la : ∀ d os, Sem.run P (loadCellsFrom ⟨blk, off + c * k, none⟩ 0 k #[]) (grow (redrawn wr d) os) = .ok (enc u).toArray (grow (redrawn wr d) os) := fun d os => by rw [← hu]; exact (SB.re S1 d os).load R hDs P c (by omega)
   have hcg : ∀ d os, Calls P g (#[.agg (enc v).toArray, .agg (enc u).toArray] ++ cb) (grow (redrawn wr d) os) fun e w' => e = .returned (.int .i64 (cf v u)) ∧ Below (grow (redrawn wr d) os).heap.size (grow (redrawn wr d) os) w' := fun d os => HC _ _ hDs (SB.re S1 d os) v u
   have S2 : Aside (∀ d os, SB enc k w0 blk off (p ++ (x ++ (y ++ q))).toArray (grow (redrawn wr d) os)) := fun d os => SB.re S1 d os
   clear S1 hDs
   have hy1 : ((st : Int) + r) / 2 = (c : Nat) := by omega
   have HY1 := Lib.hid hy1
   have HCC := Lib.hid hc
   have HU := Lib.hid hu
   have HV := Lib.hid hv
   have e4 : IntKind.i64.wrap ((n : Int) - 1 - c) = (cc : Int) := by rw [IntKind.wrap_i64]; omega
   have e5 : (n : Int) - 1 - c = (cc : Int) := by omega
   have HNC := Lib.hid hcc
   clear hy1 hc hu hv hcc
   have r1 : IntKind.i64.wrap (cc : Int) = (cc : Int) := by rw [IntKind.wrap_i64]; omega
   have s1 : (cc : Int) < d0.size := by omega
   have r2 : IntKind.i64.wrap (c : Int) = (c : Int) := by rw [IntKind.wrap_i64]; omega
   have s2 : (c : Int) < d0.size := by omega
   by_cases hcf : cf v u < 0
   ·have bc : decide (cf v u < 0) = true := decide_eq_true hcf
    have HPN : Aside (gY cf (p ++ (x ++ (y ++ q))).toArray a m b n lo hi st c) := gY.step_down O HP.out HM.out HB.out hx hy hla hhm hn1 hn2 HPA hlt c hcst hcr (by rw [HU.out, ← HNC.out, HV.out]; exact hcf)
    clear hcf HPA
    go_wp2_with fail
    rw [HY1.out]
    refine wp_region_quiet_below (by assumption) (by kernel_rfl) ?_
    repeat (quiet_step (first | (go_at_fn g; refine Calls.regrown_of (hcg _ _))))
    refine wpQuiet_nil ?_
    intro _ hw'
    obtain ⟨⟨dq, osq⟩, hw''⟩ := hw'
    subst hw''
    go_wp2
    go_roundw
    case rel => exact ⟨st, c, rfl, rfl, hst1, hcst, by omega, HPN, S2 dq osq⟩
    case measure => simp [intOf]; omega
   ·have bc : decide (cf v u < 0) = false := decide_eq_false hcf
    have HPN : Aside (gY cf (p ++ (x ++ (y ++ q))).toArray a m b n lo hi (c + 1) r) := gY.step_up O HP.out HM.out HB.out hx hy hla hhm hn1 hn2 HPA hlt c hcst hcr (by rw [HU.out, ← HNC.out, HV.out]; exact hcf)
    clear hcf HPA
    go_wp2_with fail
    rw [HY1.out]
    refine wp_region_quiet_below (by assumption) (by kernel_rfl) ?_
    repeat (quiet_step (first | (go_at_fn g; refine Calls.regrown_of (hcg _ _))))
    refine wpQuiet_nil ?_
    intro _ hw'
    obtain ⟨⟨dq, osq⟩, hw''⟩ := hw'
    subst hw''
    go_wp2
    go_roundw
    case rel => exact ⟨c + 1, r, by go_num, rfl, by omega, by omega, hst3, HPN, S2 dq osq⟩
    case measure => simp [intOf]; omega
  ·have b1 : decide ((st : Int) < r) = false := decide_eq_false (by omega)
   obtain rfl : st = r := by omega
   obtain ⟨x1, x2, y1, y2, rfl, rfl, hl1, hl2, h21, h12⟩ := lA O p x y q a m b n lo hi st HP.out HM.out HB.out hx hy HLO HHI hla hhm hn1 hn2 HPA
   clear HPA
   obtain ⟨en, hen⟩ : ∃ en, en = n - st := ⟨_, rfl⟩
   have hz9 : (n : Int) - st = (en : Nat) := by omega
   have HEN := Lib.hid hz9
   have hxl := HM.out
   have hyl := HB.out
   have hpl := HP.out
   have hNN := HN.out
   have hMM := HMID.out
   have hdd := HLA.out
   simp only [List.length_append] at hxl hyl hdd hx1 hy1
   have q1 : a + x1.length = st := hl1
   have q2 : m + y1.length = en := by omega
   have q3 : st + y1.length = hi := by omega
   have q4 : hi + x2.length = en := by omega
   have q5 : en + y2.length = b := by omega
   have hstb : st ≤ b := by omega
   have henb : en ≤ b := by omega
   have HHx := Lib.hid hx
   have HHy := Lib.hid hy
   have H21 := Lib.hid h21
   have H12 := Lib.hid h12
   have Q := Lib.hid (And.intro q1 (And.intro q2 (And.intro q3 (And.intro q4 (And.intro q5 (And.intro hpl hdd))))))
   have hstm : st ≤ m := by omega
   have hmen : m ≤ en := by omega
   clear hx hy h21 h12 hz9 hen hl1 hl2 q1 q2 q3 q4 q5 hxl hyl hpl hNN hMM hdd hst1 hst2 hst3
   go_upto_region 39 with (fail)
   rw [HEN.out]
   go_cut [185] (fun v185 wc => ∃ bv : Bool, v185 = .bool bv ∧ Aside (bv = decide (st < m ∧ m < en)) ∧ Aside (SB enc k w0 blk off (p ++ ((x1 ++ x2) ++ ((y1 ++ y2) ++ q))).toArray wc))
   case first =>
    as_aux_lemma =>
     by_cases h : st < m
     ·by_cases h' : m < en
      ·have c1 : decide ((st : Int) < m) = true := decide_eq_true (by omega)
       have c2 : decide ((m : Int) < en) = true := decide_eq_true (by omega)
       have HB1 : Aside (true = decide (st < m ∧ m < en)) := by show _ = _; simp [h, h']
       go_wp2
       go_meet
       case rel => exact ⟨true, by simp [h, h'], HB1, S1⟩
      ·have c1 : decide ((st : Int) < m) = true := decide_eq_true (by omega)
       have c2 : decide ((m : Int) < en) = false := decide_eq_false (by omega)
       have HB1 : Aside (false = decide (st < m ∧ m < en)) := by show _ = _; simp [h']
       go_wp2
       go_meet
       case rel => exact ⟨false, by simp [h, h'], HB1, S1⟩
     ·have c1 : decide ((st : Int) < m) = false := decide_eq_false (by omega)
      have HB1 : Aside (false = decide (st < m ∧ m < en)) := by show _ = _; simp [h]
      go_wp2
      go_meet
      case rel => exact ⟨false, by simp [h], HB1, S1⟩
   case rest =>
    clear S1
    obtain ⟨bv, rfl, HBV, S1⟩ := hcut
    go_upto_if 185 with (fail)
    go_cut [199] (fun v199 wc => Aside (SB enc k w0 blk off (p ++ (x1 ++ (y1 ++ (x2 ++ (y2 ++ q))))).toArray wc))
    case first =>
     as_aux_lemma =>
      cases bv with
      | true =>
       have hh : st < m ∧ m < en := of_decide_eq_true (Eq.symm HBV)
       have HK := HROT st m en wc (p ++ x1) x2 y1 (y2 ++ q) (by have := Q.out; simp; omega) (by have := Q.out; simp; omega) (by have := Q.out; simp; omega) (by have := Q.out; omega) (by have := Q.out; omega) (by have := Q.out.2.2.2.2.2.2; rw [this]; simp; omega) (by have := S1; unfold Aside at this; simpa using this)
       have HK' : Aside _ := HK
       clear HK S1 HBV hh
       go_wp2_with (go_at_fn 142; refine Calls.mono HK' ?_; rintro e w' ⟨rfl, hS⟩; have S2 : Aside _ := hS; clear hS)
       go_meet
       case rel => show SB _ _ _ _ _ _ _; have := S2; unfold Aside at this; simpa using this
      | false =>
       have hh : ¬ (st < m ∧ m < en) := of_decide_eq_false (Eq.symm HBV)
       have S2 : Aside (SB enc k w0 blk off (p ++ (x1 ++ (y1 ++ (x2 ++ (y2 ++ q))))).toArray wc) := by
        show SB _ _ _ _ _ _ _
        have hS1 : SB enc k w0 blk off (p ++ ((x1 ++ x2) ++ ((y1 ++ y2) ++ q))).toArray wc := S1
        have hq := Q.out
        have : x2 = [] ∨ y1 = [] := by
         by_cases h : st < m
         ·exact .inr (List.length_eq_zero_iff.1 (by omega))
         ·exact .inl (List.length_eq_zero_iff.1 (by omega))
        rcases this with rfl | rfl <;> simpa using hS1
       clear S1 HBV hh
       go_wp2
       go_meet
       case rel => exact S2
    case rest =>
     clear S1 HBV
     have hcut0 := hcut
     go_upto_region 41 with (fail)
     go_cut [199] (fun v199 wc => ∃ bv : Bool, v199 = .bool bv ∧ Aside (bv = decide (a < st ∧ st < hi)) ∧ Aside (SB enc k w0 blk off (p ++ (x1 ++ (y1 ++ (x2 ++ (y2 ++ q))))).toArray wc))
     case first =>
      as_aux_lemma =>
       by_cases h : a < st
       ·by_cases h' : st < hi
        ·have c1 : decide ((a : Int) < st) = true := decide_eq_true (by omega)
         have c2 : decide ((st : Int) < hi) = true := decide_eq_true (by omega)
         have HB1 : Aside (true = decide (a < st ∧ st < hi)) := by show _ = _; simp [h, h']
         go_wp2
         go_meet
         case rel => exact ⟨true, by simp [h, h'], HB1, hcut0⟩
        ·have c1 : decide ((a : Int) < st) = true := decide_eq_true (by omega)
         have c2 : decide ((st : Int) < hi) = false := decide_eq_false (by omega)
         have HB1 : Aside (false = decide (a < st ∧ st < hi)) := by show _ = _; simp [h']
         go_wp2
         go_meet
         case rel => exact ⟨false, by simp [h, h'], HB1, hcut0⟩
       ·have c1 : decide ((a : Int) < st) = false := decide_eq_false (by omega)
        have HB1 : Aside (false = decide (a < st ∧ st < hi)) := by show _ = _; simp [h]
        go_wp2
        go_meet
        case rel => exact ⟨false, by simp [h], HB1, hcut0⟩
     case rest =>
      clear hcut0
      obtain ⟨bv, rfl, HBV, S1⟩ := hcut
      go_upto_if 199 with (fail)
      go_cut [213] (fun v213 wc => ∃ z1 : List α, z1.length = x1.length + y1.length ∧ Aside (Mrg cf x1 y1 z1) ∧ Aside (SB enc k w0 blk off (p ++ (z1 ++ (x2 ++ (y2 ++ q)))).toArray wc))
      case first =>
       as_aux_lemma =>
        cases bv with
        | true =>
         have hh : a < st ∧ st < hi := of_decide_eq_true (Eq.symm HBV)
         have hx1s := (dD.1 HHx.out).1
         have hy1s := (dD.1 HHy.out).1
         have HK := HREC a st hi wc p x1 y1 (x2 ++ (y2 ++ q)) (by have := Q.out; omega) (by have := Q.out; omega) (by have := Q.out; omega) (by have := Q.out; omega) (by have := Q.out; omega) (by have := Q.out; omega) hx1s hy1s (by have := Q.out.2.2.2.2.2.2; rw [this]; simp; omega) S1
         have HK' : Aside _ := HK
         clear HK S1 HBV hh hx1s hy1s
         go_wp2_with (go_at_fn 134; refine Calls.mono HK' ?_; rintro e w' ⟨rfl, z1, hM, hS⟩; have S2 : Aside _ := hS; have M1 : Aside _ := hM; clear hS hM)
         have hzl : z1.length = x1.length + y1.length := by have h : Mrg cf x1 y1 z1 := M1; have := h.2.1; simp at this; omega
         go_meet
         case rel => exact ⟨z1, hzl, M1, S2⟩
        | false =>
         have hh : ¬ (a < st ∧ st < hi) := of_decide_eq_false (Eq.symm HBV)
         have M1 : Aside (Mrg cf x1 y1 (x1 ++ y1)) := by
          show Mrg _ _ _ _
          have hq := Q.out
          have hx1s := (dD.1 HHx.out).1
          have hy1s := (dD.1 HHy.out).1
          have : x1 = [] ∨ y1 = [] := by
           by_cases h : a < st
           ·exact .inr (List.length_eq_zero_iff.1 (by omega))
           ·exact .inl (List.length_eq_zero_iff.1 (by omega))
          rcases this with rfl | rfl
          ·exact Mrg.nil_left hy1s
          ·rw [List.append_nil]; exact Mrg.nil_right hx1s
         clear HBV hh
         go_wp2
         go_meet
         case rel => exact ⟨x1 ++ y1, by simp, M1, by show SB _ _ _ _ _ _ _; have := S1; unfold Aside at this; simpa using this⟩
      case rest =>
       clear S1 HBV
       obtain ⟨z1, hz1, M1, S1⟩ := hcut
       go_upto_region 43 with (fail)
       go_cut [213] (fun v213 wc => ∃ bv : Bool, v213 = .bool bv ∧ Aside (bv = decide (hi < en ∧ en < b)) ∧ Aside (SB enc k w0 blk off (p ++ (z1 ++ (x2 ++ (y2 ++ q)))).toArray wc))
       case first =>
        as_aux_lemma =>
         by_cases h : hi < en
         ·by_cases h' : en < b
          ·have c1 : decide ((hi : Int) < en) = true := decide_eq_true (by omega)
           have c2 : decide ((en : Int) < b) = true := decide_eq_true (by omega)
           have HB1 : Aside (true = decide (hi < en ∧ en < b)) := by show _ = _; simp [h, h']
           go_wp2
           go_meet
           case rel => exact ⟨true, by simp [h, h'], HB1, S1⟩
          ·have c1 : decide ((hi : Int) < en) = true := decide_eq_true (by omega)
           have c2 : decide ((en : Int) < b) = false := decide_eq_false (by omega)
           have HB1 : Aside (false = decide (hi < en ∧ en < b)) := by show _ = _; simp [h']
           go_wp2
           go_meet
           case rel => exact ⟨false, by simp [h, h'], HB1, S1⟩
         ·have c1 : decide ((hi : Int) < en) = false := decide_eq_false (by omega)
          have HB1 : Aside (false = decide (hi < en ∧ en < b)) := by show _ = _; simp [h]
          go_wp2
          go_meet
          case rel => exact ⟨false, by simp [h], HB1, S1⟩
       case rest =>
        clear S1
        obtain ⟨bv, rfl, HBV, S1⟩ := hcut
        cases bv with
        | true =>
         have hh : hi < en ∧ en < b := of_decide_eq_true (Eq.symm HBV)
         have hx2s := (dD.1 HHx.out).2.1
         have hy2s := (dD.1 HHy.out).2.1
         have HK := HREC hi en b wc (p ++ z1) x2 y2 q (by have := Q.out; omega) (by have := Q.out; simp; omega) (by have := Q.out; simp; omega) (by have := Q.out; simp; omega) (by have := Q.out; omega) (by have := Q.out; omega) hx2s hy2s (by have := Q.out.2.2.2.2.2.2; rw [this]; simp; omega) (by have := S1; unfold Aside at this; simpa using this)
         have HK' : Aside _ := HK
         clear HK S1 HBV hh hx2s hy2s
         go_wp2_with (go_at_fn 134; refine Calls.mono HK' ?_; rintro e w' ⟨rfl, z2, hM, hS⟩; have S2 : Aside _ := hS; have M2 : Aside _ := hM; clear hS hM)
         go_end0
         exact ⟨rfl, z1 ++ z2, Mrg.halves O HHx.out HHy.out H21.out H12.out M1 M2, by have := S2; unfold Aside at this; simpa using this⟩
        | false =>
         have hh : ¬ (hi < en ∧ en < b) := of_decide_eq_false (Eq.symm HBV)
         have M2 : Aside (Mrg cf x2 y2 (x2 ++ y2)) := by
          show Mrg _ _ _ _
          have hq := Q.out
          have hx2s := (dD.1 HHx.out).2.1
          have hy2s := (dD.1 HHy.out).2.1
          have : x2 = [] ∨ y2 = [] := by
           by_cases h : hi < en
           ·exact .inr (List.length_eq_zero_iff.1 (by omega))
           ·exact .inl (List.length_eq_zero_iff.1 (by omega))
          rcases this with rfl | rfl
          ·exact Mrg.nil_left hy2s
          ·rw [List.append_nil]; exact Mrg.nil_right hx2s
         clear HBV hh
         go_wp2
         go_end0
         exact ⟨rfl, z1 ++ (x2 ++ y2), Mrg.halves O HHx.out HHy.out H21.out H12.out M1 M2, by have := S1; unfold Aside at this; simpa using this⟩
end Go.Proofs.YtpflmgbpjhbmnaaGreat.SU
end
