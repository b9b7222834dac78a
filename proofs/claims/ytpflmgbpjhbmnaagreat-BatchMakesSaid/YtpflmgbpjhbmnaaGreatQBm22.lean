/- New, BatR, SApp. -/
import Derived.Test.YtpflmgbpjhbmnaaGreatQBm20
import Derived.Test.YtpflmgbpjhbmnaaGreatQBm21
import Derived.Test.YtpflmgbpjhbmnaaGreatQBm16
section
namespace Go.Proofs.YtpflmgbpjhbmnaaGreat.B
open Go Go.RowKit Go.Proofs Go.Proofs.YtpflmgbpjhbmnaaGreatW.PrintWords Go.Proofs.YtpflmgbpjhbmnaaGreatW.PrintLast Go.Proofs.YtpflmgbpjhbmnaaGreatW.PrintMore Go.Proofs.YtpflmgbpjhbmnaaGreat.Rg
set_option linter.unusedVariables false
set_option linter.unusedSimpArgs false
set_option maxRecDepth 100000
def nX (key : Int) (l : List S61) (since : List S59) (ck : Int) (adv : List S61) : Option Bt × Int :=
 if key < 0 ∨ 16 < key then (none, 1)
 else if ∃ u ∈ l, (u.f0.length : Int) < key then (none, 9)
 else if ck ≠ 0 then (none, ck)
 else if (dC (if since.length = 0 then l else adv)).2 ≠ 0 then (none, (dC (if since.length = 0 then l else adv)).2)
 else (some (eG (Bt.none_ key l.length since) (dC (if since.length = 0 then l else adv)).1), 0)
def nJ (w : World) (r : Option Bt × Int) (e : Ending) (w' : World) : Prop := ∃ vp : Value, e = .returned (.tuple #[vp, .int .i64 r.2]) ∧ Below w.heap.size w w' ∧ match r.1 with | none => vp = .pointer none | some b => ∃ p, vp = .pointer (some ⟨p, 0, none⟩) ∧ dU w' w.heap.size p b
theorem zW (W : World) (N : Nat) (hN : N ≤ W.heap.size) (key weight : Int) (v : Value) (since : List S59) (hR : Kd.R k59 59 W N (fun _ => True) v since) :
  dU (W.alloc (.cells #[.int .i64 key, .int .i64 weight, v, .slice none 0 0, .slice none 0 0, .slice none 0 0, .slice none 0 0, .slice none 0 0, .slice none 0 0] 93)) N W.heap.size (Bt.none_ key weight since) := by
 refine ⟨fun k => if k = W.heap.size then 1 else 2, v, .slice none 0 0, .slice none 0 0, .slice none 0 0, .slice none 0 0, .slice none 0 0, .slice none 0 0, ?_⟩
 refine ⟨if_pos rfl, hN, heap_alloc_new W _, fun j r hj => ?_⟩
 match j with
 | 0 =>
  cases hj
  refine Kd.R_alloc (Kd.R_mono (Kd.R_bound hR) (fun k hk => ?_)) _
  have := hk.2.2.1
  exact if_neg (by omega)
 | 1 => cases hj; exact Kd.R_nil _ _ _ _ _
 | 2 => cases hj; exact Kd.R_nil _ _ _ _ _
 | 3 => cases hj; exact Kd.R_nil _ _ _ _ _
 | 4 => cases hj; exact Kd.R_nil _ _ _ _ _
 | 5 => cases hj; exact Kd.R_nil _ _ _ _ _
 | 6 => cases hj; exact Kd.R_nil _ _ _ _ _
 | n + 7 => cases hj
theorem dU.lower {W : World} {N N' p : Nat} {b : Bt} (h : dU W N p b) (hN : N' ≤ N) : dU W N' p b := by
 obtain ⟨L, v2, v3, v4, v5, v6, v7, v8, h⟩ := h
 exact ⟨L, v2, v3, v4, v5, v6, v7, v8, h.hp, Nat.le_trans hN h.hN, h.cells, fun j r hj => Kd.R_lower (h.rows j r hj) hN⟩
set_option maxHeartbeats 8000000 in
theorem uP (kc ka : Nat) (key : Int) (A0 A1 : Option Addr) (c0 c1 : Nat) (l adv : List S61) (since : List S59) (ck : Int) (w : World)
  (hr0 : Kd.C k61 w A0 l.length l) (hc0 : l.length ≤ c0) (hr1 : Kd.C k59 w A1 since.length since) (hc1 : since.length ≤ c1)
  (hl : l.length < 1099511627776) (hrows : ∀ u ∈ l, u.f0.length ≤ 1099511627776) (hs : since.length ≤ 1099511627776)
  (hck : bX.f kc since = some ck) (hadv : bO.f ka l since = some adv) (hal : adv.length = l.length) (hav : ∀ u ∈ adv, ∃ v ∈ l, u.f0 = v.f0) :
  Calls Tryz.prog 9 #[.int .i64 key, .slice A0 l.length c0, .slice A1 since.length c1] w (nJ w (nX key l since ck adv)) := by
 have HR0 := aA.mk hr0
 have HR1 := aA.mk hr1
 have HL := aA.mk (And.intro hc0 (And.intro hc1 (And.intro hl (And.intro hrows (And.intro hs (And.intro hal hav))))))
 have HCK := aA.mk hck
 have HAD := aA.mk hadv
 clear hr0 hr1 hc0 hc1 hrows hs hck hadv hal hav
 go_enter Tryz.func9, Tryz.ntmps9
 have HB0 := aA.mk (Below.refl w.heap.size w)
 by_cases hk0 : key < 0
 ·have b1 : decide (key < 0) = true := decide_eq_true hk0
  have hr : nX key l since ck adv = (none, 1) := by unfold nX; rw [if_pos (.inl hk0)]
  rw [hr]
  go_wp2
  go_ret2
  exact ⟨.pointer none, rfl, HB0.out, rfl⟩
 by_cases hk1 : 16 < key
 ·have b1 : decide (key < 0) = false := decide_eq_false hk0
  have b2 : decide (16 < key) = true := decide_eq_true hk1
  have hr : nX key l since ck adv = (none, 1) := by unfold nX; rw [if_pos (.inr hk1)]
  rw [hr]
  go_wp2
  go_ret2
  exact ⟨.pointer none, rfl, HB0.out, rfl⟩
 have b1 : decide (key < 0) = false := decide_eq_false hk0
 have b2 : decide (16 < key) = false := decide_eq_false hk1
 have HK := aA.mk (And.intro hk0 hk1)
 clear hk0 hk1
 go_wp2_with fail
 go_loopw [24] (fun v24 wr => ∃ i : Nat, v24 = .int .i64 i ∧ i ≤ l.length ∧ aA (∀ u ∈ l.take i, ¬ (u.f0.length : Int) < key) ∧ aA (Below w.heap.size w wr)) (fun v24 wr => l.length - (intOf v24).toNat)
 case atStart => exact ⟨0, rfl, Nat.zero_le _, ⟨fun u hu => by simp at hu⟩, HB0⟩
 case round =>
  clear HB0
  obtain ⟨i, rfl, hi, HS, HB⟩ := hrel
  by_cases hlt : i < l.length
  ·have hb1 : decide ((i : Int) < (l.length : Int)) = true := decide_eq_true (by omega)
   have hb2 : decide (i < l.length) = true := decide_eq_true hlt
   obtain ⟨ad, A', c', e, hx0, hx1, hx2, hx3, hl', hC'⟩ := eJ HR0.out (i : Int) (by omega) (by omega)
   cases e
   replace hx0 := aH HB.out hx0
   replace hx1 := aH HB.out hx1
   replace hx2 := aH HB.out hx2
   replace hx3 := aH HB.out hx3
   rw [Int.toNat_natCast] at hx0 hx1 hx2 hx3
   have HU : aA (aX l (i : Int) ∈ l ∧ l.take (i + 1) = l.take i ++ [aX l (i : Int)]) := ⟨by
    have e : aX l (i : Int) = l[i] := by simp [aX, hlt]
    rw [e]
    exact ⟨List.getElem_mem hlt, by rw [List.take_add_one, List.getElem?_eq_getElem hlt]; rfl⟩⟩
   clear hl' hC'
   generalize aX l (i : Int) = u at hx0 hx1 hx2 hx3 HU
   by_cases hsh : (u.f0.length : Int) < key
   ·have b3 : decide ((u.f0.length : Int) < key) = true := decide_eq_true hsh
    have hr : nX key l since ck adv = (none, 9) := by
     unfold nX
     rw [if_neg (fun h => by have h9 := HK.out; rcases h with h | h <;> omega), if_pos ⟨u, HU.out.1, hsh⟩]
    rw [hr]
    go_wp2
    go_ret2
    exact ⟨.pointer none, rfl, by repeat (first | exact HB.out | apply aC | apply cG), rfl⟩
   ·have b3 : decide ((u.f0.length : Int) < key) = false := decide_eq_false hsh
    have HSH := aA.mk hsh
    clear hsh
    go_wp2
    go_roundw
    case rel => exact ⟨i + 1, by go_num, by omega, ⟨fun q hq => by
     rw [HU.out.2] at hq
     rcases List.mem_append.1 hq with hq | hq
     ·exact HS.out q hq
     ·rw [List.mem_singleton.1 hq]; exact HSH.out⟩, ⟨HB.out.alloc (by exact HB.out.size) _⟩⟩
    case measure => simp [intOf]; omega
  ·have hin : i = l.length := by omega
   subst hin
   have hb1 : decide ((l.length : Int) < (l.length : Int)) = false := decide_eq_false (by omega)
   have HSS : aA (¬ ∃ u ∈ l, (u.f0.length : Int) < key) := ⟨fun ⟨u, hu, h⟩ => HS.out u (by rw [List.take_of_length_le (Nat.le_refl _)]; exact hu) h⟩
   clear HS hlt hi
   have HCK2 : aA (Calls Tryz.prog 52 #[.slice A1 since.length c1] wr fun e w' => e = .returned (.int .i64 ck) ∧ aA (Below w.heap.size w w')) := ⟨(bX.calls kc A1 c1 since ck wr (Kd.C_below HR1.out HB.out) HL.out.2.1 HCK.out).mono fun e w' ⟨g1, g2⟩ => ⟨g1, ⟨HB.out.trans (g2.mono HB.out.size)⟩⟩⟩
   by_cases hce : ck = 0
   ·subst hce
    obtain ⟨al, hal⟩ : ∃ al, al = (if since.length = 0 then l else adv) := ⟨_, rfl⟩
    have HA := aA.mk hal
    clear hal
    have HAL : aA (al.length = l.length ∧ (∀ u ∈ al, ∃ v ∈ l, u.f0 = v.f0)) := ⟨by
     rw [HA.out]
     split
     ·exact ⟨rfl, fun u hu => ⟨u, hu, rfl⟩⟩
     ·exact ⟨HL.out.2.2.2.2.2.1, HL.out.2.2.2.2.2.2⟩⟩
    go_upto_if 42 with (go_at_call 52; refine HCK2.out.mono ?_; rintro e w3 ⟨rfl, HB3⟩)
    go_cut [11] (fun x11 wx => ∃ (A' : Option Addr) (c' : Nat), x11 = .slice A' al.length c' ∧ al.length ≤ c' ∧ aA (Kd.C k61 wx A' al.length al) ∧ aA (Below w.heap.size w wx))
    case first =>
     by_cases hz : since.length = 0
     ·have e1 : al = l := by rw [HA.out, if_pos hz]
      have HLC := aA.mk HL.out.1
      have b5 : decide (0 < (since.length : Int)) = false := decide_eq_false (by omega)
      have b6 : decide (0 < since.length) = false := decide_eq_false (by omega)
      have HE1 := aA.mk e1
      clear hz e1
      rw [b6]
      go_wp2
      go_meet
      case rel => exact ⟨A0, c0, by rw [HE1.out], by rw [HE1.out]; exact HLC.out, ⟨by rw [HE1.out]; exact Kd.C_below HR0.out HB3.out⟩, HB3⟩
     ·have e1 : al = adv := by rw [HA.out, if_neg hz]
      have HAdv : aA (Calls Tryz.prog 53 #[.slice A0 l.length c0, .slice A1 since.length c1] w3 fun e w' => ∃ A' c', e = .returned (.slice A' adv.length c') ∧ adv.length ≤ c' ∧ aA (Kd.C k61 w' A' adv.length adv) ∧ aA (Below w.heap.size w w')) := ⟨by
       refine (bO.calls ka A0 c0 l A1 c1 since adv w3 (Kd.C_below HR0.out HB3.out) HL.out.1 (Kd.C_below HR1.out HB3.out) HL.out.2.1 HAD.out).mono ?_
       rintro e w' ⟨v0, rfl, h2, h3⟩
       obtain ⟨A', c', rfl, h4, h5⟩ := Kd.S_reads h2
       exact ⟨A', c', rfl, h4, ⟨h5⟩, ⟨HB3.out.trans (h3.mono HB3.out.size)⟩⟩⟩
      have b6 : decide (0 < since.length) = true := decide_eq_true (by omega)
      have HE1 := aA.mk e1
      have b5 : decide (0 < (since.length : Int)) = true := decide_eq_true (by omega)
      clear hz e1
      rw [b6]
      go_wp2_with (go_at_call 53; refine HAdv.out.mono ?_; rintro e w4 ⟨A', c', rfl, hca, HC4, HB4⟩)
      go_meet
      case rel => exact ⟨A', c', by rw [HE1.out], by rw [HE1.out]; exact hca, by rw [HE1.out]; exact HC4, HB4⟩
    case rest =>
     clear HCK2 HB HB3
     obtain ⟨A', c', rfl, hca, HC, HB⟩ := hcut
     obtain ⟨cl, hcl⟩ : ∃ cl, cl = (dC al).1 := ⟨_, rfl⟩
     obtain ⟨ce, hce⟩ : ∃ ce, ce = (dC al).2 := ⟨_, rfl⟩
     have HCon : aA (Calls Tryz.prog 54 #[.slice A' al.length c'] wc fun e w' => ∃ A2 c2, e = .returned (.tuple #[.slice A2 cl.length c2, .int .i64 ce]) ∧ cl.length ≤ c2 ∧ aA (Kd.C k61 w' A2 cl.length cl) ∧ aA (Below w.heap.size w w')) := ⟨by
      refine (dG.calls A' c' al cl ce wc HC.out hca ?_).mono ?_
      ·rw [dG.f_some al (by rw [HAL.out.1]; have := HL.out.2.2.1; omega) (fun u hu => by
        obtain ⟨v, hv, e⟩ := HAL.out.2 u hu
        rw [e]; exact HL.out.2.2.2.1 v hv), hcl, hce]
      ·rintro e w' ⟨v0, rfl, h2, h3⟩
       obtain ⟨A2, c2, rfl, h4, h5⟩ := Kd.R_reads h2
       exact ⟨A2, c2, rfl, h4, ⟨h5⟩, ⟨HB.out.trans (h3.mono HB.out.size)⟩⟩⟩
     have HCE := aA.mk (And.intro hcl hce)
     clear hcl hce
     by_cases hc0 : ce = 0
     ·subst hc0
      have hr : nX key l since 0 adv = (some (eG (Bt.none_ key l.length since) cl), 0) := by
       unfold nX
       rw [if_neg (fun h => by have h9 := HK.out; rcases h with h | h <;> omega), if_neg HSS.out, if_neg (by decide), ← HA.out, ← HCE.out.2, if_neg (by decide), ← HCE.out.1]
      have HCl : aA (∀ W, Below w.heap.size w W → Calls Tryz.prog 55 #[.slice A1 since.length c1] W fun e w' => ∃ A3 c3, e = .returned (.slice A3 since.length c3) ∧ aA (Kd.R k59 59 w' W.heap.size (fun _ => True) (.slice A3 since.length c3) since) ∧ aA (Below W.heap.size W w')) := ⟨fun W hW => by
       refine (cP.calls A1 c1 since since W (Kd.C_below HR1.out hW) HL.out.2.1 (cP.f_some since (by have := HL.out.2.2.2.2.1; omega))).mono ?_
       rintro e w' ⟨v0, rfl, h2, h3⟩
       obtain ⟨A3, c3, rfl⟩ := Kd.R_slice h2
       exact ⟨A3, c3, rfl, ⟨h2⟩, ⟨h3⟩⟩⟩
      have HRR := aA.mk hr
      clear hr
      go_wp2_with (first
       | (go_at_call 54; refine HCon.out.mono ?_; rintro e w4 ⟨A2, c2, rfl, hc2, HC4, HB4⟩)
       | (go_at_call 55; refine (HCl.out _ HB4.out).mono ?_; rintro e w5 ⟨A3, c3, rfl, HR5, HB5⟩))
      have HN5 := aA.mk (zW w5 w4.heap.size HB5.out.size key (l.length : Int) (.slice A3 since.length c3) since HR5.out)
      have HM := aA.mk (And.intro hc2 (And.intro HB4.out.size HB5.out.size))
      have hp5 : w4.heap.size ≤ w5.heap.size := HB5.out.size
      clear hc2
      have HB6 : aA (Below w4.heap.size w4 (w5.alloc (.cells #[.int .i64 key, .int .i64 (l.length : Int), .slice A3 since.length c3, .slice none 0 0, .slice none 0 0, .slice none 0 0, .slice none 0 0, .slice none 0 0, .slice none 0 0] 93))) := ⟨HB5.out.alloc hp5 _⟩
      go_loopw [63] (fun v63 wr => ∃ i : Nat, v63 = .int .i64 i ∧ i ≤ cl.length ∧ aA (dU wr w4.heap.size w5.heap.size (eG (Bt.none_ key l.length since) (cl.take i))) ∧ aA (Below w4.heap.size w4 wr)) (fun v63 wr => cl.length - (intOf v63).toNat)
      case atStart => exact ⟨0, rfl, Nat.zero_le _, HN5, HB6⟩
      case round =>
       clear HB6 HN5
       obtain ⟨i, rfl, hi, HT, HB7⟩ := hrel
       by_cases hlt : i < cl.length
       ·have hb1 : decide ((i : Int) < (cl.length : Int)) = true := decide_eq_true (by omega)
        have hb2 : decide (i < cl.length) = true := decide_eq_true hlt
        obtain ⟨ad, A', c', e, hx0, hx1, hx2, hx3, hl', hC'⟩ := eJ HC4.out (i : Int) (by omega) (by omega)
        cases e
        replace hx0 := aH HB7.out hx0
        replace hx1 := aH HB7.out hx1
        replace hx2 := aH HB7.out hx2
        replace hx3 := aH HB7.out hx3
        rw [Int.toNat_natCast] at hx0 hx1 hx2 hx3
        have HU : aA (aX cl (i : Int) ∈ cl ∧ cl.take (i + 1) = cl.take i ++ [aX cl (i : Int)]) := ⟨by
         have e : aX cl (i : Int) = cl[i] := by simp [aX, hlt]
         rw [e]
         exact ⟨List.getElem_mem hlt, by rw [List.take_add_one, List.getElem?_eq_getElem hlt]; rfl⟩⟩
        generalize aX cl (i : Int) = u at hx0 hx1 hx2 hx3 HU hl' hC'
        have HLT := aA.mk hlt
        have hrow : ∀ q ∈ cl, q.f0.length ≤ 1099511627776 ∧ key ≤ (q.f0.length : Int) := fun q hq => by
         rw [HCE.out.1] at hq
         obtain ⟨v, hv, e, _⟩ := oR al q hq
         obtain ⟨v2, hv2, e2⟩ := HAL.out.2 v hv
         rw [e, e2]
         refine ⟨HL.out.2.2.2.1 v2 hv2, ?_⟩
         have h8 := HSS.out
         by_cases h7 : (v2.f0.length : Int) < key
         ·exact absurd ⟨v2, hv2, h7⟩ h8
         ·omega
        have hbw : Below wr.heap.size wr (wr.alloc (.cells #[.slice A' u.f0.length c', .int .i64 u.f1.f0, .int .i64 u.f1.f1, .int .i64 u.f2] 61)) := (Below.refl _ _).alloc (Nat.le_refl _) _
        have hcl9 : cl.length ≤ l.length := by
         rw [HCE.out.1]
         have := lG al
         have := HAL.out.1
         omega
        have HAddC : aA (∀ W, Below wr.heap.size wr W → Calls Tryz.prog 56 #[.pointer (some ⟨w5.heap.size, 0, none⟩), .agg #[.slice A' u.f0.length c', .int .i64 u.f1.f0, .int .i64 u.f1.f1, .int .i64 u.f2]] W fun e w' => e = .returned (.tuple #[]) ∧ aA (dU w' w4.heap.size w5.heap.size (eG (Bt.none_ key l.length since) (cl.take (i + 1)))) ∧ aA (Below w4.heap.size w4 w')) := ⟨fun W hW => by
         obtain ⟨k1, k2, k3, k4, k5⟩ := mN (cl.take i) (Bt.none_ key l.length since)
         refine (uL w5.heap.size w4.heap.size (eG (Bt.none_ key l.length since) (cl.take i)) A' c' u W (HT.out.below hW) (oQ _ _ (uM _ _ _) (fun q hq => (hrow q (List.mem_of_mem_take hq)).1)) ?_ ?_ ?_ (hrow u HU.out.1).1 (Kd.C_below hC' (HB7.out.trans (hW.mono HB7.out.size))) hl').mono ?_
         ·rw [k4]
          have h7 := HL.out.2.2.1
          simp [Bt.none_]
          omega
         ·rw [k1]
          show 0 ≤ key
          have := HK.out
          omega
         ·rw [k1]
          exact (hrow u HU.out.1).2
         ·rintro e w' ⟨g1, g2, g3⟩
          refine ⟨g1, ⟨?_⟩, ⟨(HB7.out.trans (hW.mono HB7.out.size)).trans g3⟩⟩
          rw [HU.out.2, pV]
          exact g2⟩
        have hi9 : i + 1 < 1099511627777 := by omega
        clear hrow hl' hC' hcl9
        go_wp2_with (go_at_call 56; refine (HAddC.out _ hbw).mono ?_; rintro e w6 ⟨rfl, HT6, HB8⟩)
        go_roundw
        case rel => exact ⟨i + 1, by go_num, Nat.succ_le_of_lt HLT.out, HT6, HB8⟩
        case measure => have h9 := HLT.out; simp [intOf]; omega
       ·have hin : i = cl.length := by omega
        subst hin
        have hb1 : decide ((cl.length : Int) < (cl.length : Int)) = false := decide_eq_false (by omega)
        go_wp2
        go_ret2
        refine (?_ : nJ w (nX key l since 0 adv) _ _)
        rw [HRR.out]
        refine ⟨.pointer (some ⟨w5.heap.size, 0, none⟩), rfl, HB4.out.trans (HB7.out.mono HM.out.2.1), w5.heap.size, rfl, ?_⟩
        have h7 := HT.out
        rw [List.take_of_length_le (Nat.le_refl _)] at h7
        exact h7.lower HM.out.2.1
     ·have b6 : decide (ce = 0) = false := decide_eq_false hc0
      have hr : nX key l since 0 adv = (none, ce) := by
       unfold nX
       rw [if_neg (fun h => by have h9 := HK.out; rcases h with h | h <;> omega), if_neg HSS.out, if_neg (by decide), ← HA.out, ← HCE.out.2, if_pos hc0]
      go_wp2_with (go_at_call 54; refine HCon.out.mono ?_; rintro e w4 ⟨A2, c2, rfl, hc2, HC4, HB4⟩)
      go_ret2
      refine (?_ : nJ w (nX key l since 0 adv) _ _)
      rw [hr]
      exact ⟨.pointer none, rfl, HB4.out, rfl⟩
   ·have b4 : decide (ck = 0) = false := decide_eq_false hce
    have hr : nX key l since ck adv = (none, ck) := by
     unfold nX
     rw [if_neg (fun h => by have h9 := HK.out; rcases h with h | h <;> omega), if_neg HSS.out, if_pos hce]
    go_wp2_with (go_at_call 52; refine HCK2.out.mono ?_; rintro e w3 ⟨rfl, HB3⟩)
    go_ret2
    refine (?_ : nJ w (nX key l since ck adv) _ _)
    rw [hr]
    exact ⟨.pointer none, rfl, HB3.out, rfl⟩
end Go.Proofs.YtpflmgbpjhbmnaaGreat.B
end
section
namespace Go.Proofs.YtpflmgbpjhbmnaaGreat.B
open Go Go.RowKit Go.Proofs Go.Proofs.YtpflmgbpjhbmnaaGreatW.PrintWords Go.Proofs.YtpflmgbpjhbmnaaGreatW.PrintLast Go.Proofs.YtpflmgbpjhbmnaaGreatW.PrintMore Go.Proofs.YtpflmgbpjhbmnaaGreat.Rg
set_option linter.unusedVariables false
set_option linter.unusedSimpArgs false
set_option maxRecDepth 100000
theorem uQ (p : Nat) (b : Bt) (A : Nat → Option Addr) (c : Nat → Nat) (w : World) (hB : eU w p b A c) :
  Calls Tryz.prog 17 #[.pointer (some ⟨p, 0, none⟩)] w fun e w' => e = .returned (.int .i64 b.times.length) ∧ Below w.heap.size w w' := by
 have h1 := hB.times.1
 have HB := aA.mk hB
 clear hB
 go_enter Tryz.func17, Tryz.ntmps17
 go_wp2
 go_ret
 exact ⟨rfl, by repeat (first | exact Below.refl _ _ | apply cG)⟩
theorem oS (p : Nat) (b : Bt) (A : Nat → Option Addr) (c : Nat → Nat) (w : World) (hB : eU w p b A c) :
  Calls Tryz.prog 13 #[.pointer (some ⟨p, 0, none⟩)] w fun e w' => e = .returned (.int .i64 b.weight) ∧ Below w.heap.size w w' := by
 have h1 := hB.weight
 have HB := aA.mk hB
 clear hB
 go_enter Tryz.func13, Tryz.ntmps13
 go_wp2
 go_ret
 exact ⟨rfl, by repeat (first | exact Below.refl _ _ | apply cG)⟩
theorem sG (k : Nat) (p : Nat) (b : Bt) (A : Nat → Option Addr) (c : Nat → Nat) (w : World) (r : List (List S85)) (hB : eU w p b A c) (h : bV.f k b.keys = some r) :
  Calls Tryz.prog 22 #[.pointer (some ⟨p, 0, none⟩)] w fun e w' => ∃ v0_ : Value, e = .returned v0_ ∧ Kd.S kV 45 w' w.heap.size (fun _ => True) v0_ r ∧ Below w.heap.size w w' := by
 obtain ⟨h1, h2, h3⟩ := hB.keys
 have HB := aA.mk hB
 have HCl := aA.mk (bV.calls k (A 3) (c 3) b.keys r w h3 h2 h)
 clear hB h2 h3 h
 go_enter Tryz.func22, Tryz.ntmps22
 go_wp2_with (go_at_call 62; refine HCl.out.mono ?_; rintro e w1 ⟨v0, rfl, g1, g2⟩)
 go_ret
 exact ⟨v0, rfl, g1, g2⟩
theorem lJ (p : Nat) (b : Bt) (A : Nat → Option Addr) (c : Nat → Nat) (i : Int) (w : World) (hB : eU w p b A c) :
  Calls Tryz.prog 63 #[.pointer (some ⟨p, 0, none⟩), .int .i64 i] w fun e w' => e = .returned (.bool (decide (0 ≤ i ∧ i < (b.keys.length : Int)))) ∧ Below w.heap.size w w' := by
 obtain ⟨h1, h2, h3⟩ := hB.keys
 have HB := aA.mk hB
 clear hB h2 h3
 go_enter Tryz.func63, Tryz.ntmps63
 by_cases hi : 0 ≤ i
 ·have b1 : decide (0 ≤ i) = true := decide_eq_true hi
  by_cases hj : i < (b.keys.length : Int)
  ·have b2 : decide (i < (b.keys.length : Int)) = true := decide_eq_true hj
   have hr : decide (0 ≤ i ∧ i < (b.keys.length : Int)) = true := decide_eq_true ⟨hi, hj⟩
   rw [hr]
   go_wp2
   go_ret
   exact ⟨by simp [b1, b2], by repeat (first | exact Below.refl _ _ | apply cG)⟩
  ·have b2 : decide (i < (b.keys.length : Int)) = false := decide_eq_false hj
   have hr : decide (0 ≤ i ∧ i < (b.keys.length : Int)) = false := decide_eq_false (fun h => hj h.2)
   rw [hr]
   go_wp2
   go_ret
   exact ⟨by simp [b1, b2], by repeat (first | exact Below.refl _ _ | apply cG)⟩
 ·have b1 : decide (0 ≤ i) = false := decide_eq_false hi
  have hr : decide (0 ≤ i ∧ i < (b.keys.length : Int)) = false := decide_eq_false (fun h => hi h.1)
  rw [hr]
  go_wp2
  go_ret
  exact ⟨by simp [b1], by repeat (first | exact Below.refl _ _ | apply cG)⟩
theorem uR (p : Nat) (b : Bt) (A : Nat → Option Addr) (c : Nat → Nat) (w : World) (hB : eU w p b A c) :
  Calls Tryz.prog 18 #[.pointer (some ⟨p, 0, none⟩)] w fun e w' => e = .returned (.int .i64 b.key) ∧ Below w.heap.size w w' := by
 have h1 := hB.key
 have HB := aA.mk hB
 clear hB
 go_enter Tryz.func18, Tryz.ntmps18
 go_wp2
 go_ret
 exact ⟨rfl, by repeat (first | exact Below.refl _ _ | apply cG)⟩
theorem pY (p : Nat) (b : Bt) (A : Nat → Option Addr) (c : Nat → Nat) (w : World) (hB : eU w p b A c) (hl : b.since.length ≤ 1099511627776) :
  Calls Tryz.prog 20 #[.pointer (some ⟨p, 0, none⟩)] w fun e w' => ∃ v0_ : Value, e = .returned v0_ ∧ Kd.R k59 59 w' w.heap.size (fun _ => True) v0_ b.since ∧ Below w.heap.size w w' := by
 obtain ⟨h1, h2, h3⟩ := hB.since
 have HB := aA.mk hB
 have HCl := aA.mk (cP.calls (A 2) (c 2) b.since b.since w h3 h2 (cP.f_some b.since (by omega)))
 clear hB h2 h3 hl
 go_enter Tryz.func20, Tryz.ntmps20
 go_wp2_with (go_at_call 55; refine HCl.out.mono ?_; rintro e w1 ⟨v0, rfl, g1, g2⟩)
 go_ret
 exact ⟨v0, rfl, g1, g2⟩
end Go.Proofs.YtpflmgbpjhbmnaaGreat.B
end
section
namespace Go.Proofs.YtpflmgbpjhbmnaaGreat.B
open Go Go.RowKit Go.Proofs Go.Proofs.YtpflmgbpjhbmnaaGreatW.PrintWords Go.Proofs.YtpflmgbpjhbmnaaGreatW.PrintLast Go.Proofs.YtpflmgbpjhbmnaaGreatW.PrintMore
set_option linter.unusedVariables false
section
variable {P : Program} {ops : Array Oper} {o : Oper} {a : Act} {Q : Exit → Act → World → Prop} {Kc : Act → World → Prop} {α : Type} {E : Prop}
theorem sH (d : Kd α) {W : World} (N : Nat) (hgd : o.guard = none) (s x : Operand) (t e : TypeId) (z : Value) (bytes : Nat)
  (ho : o.op = .call { callee := .builtin .append, args := #[s, x], argTypes := #[t, t] })
  (ht : P.underlying t = some (.slice e)) (hinfo : (P.info? e).map (fun i => (i.zero, i.size, i.bytes)) = some (some z, d.sz, bytes)) (hz : z.cells.size = d.sz) (hs0 : 0 < d.sz) (hb0 : 0 < bytes)
  (v : Value) (xs : List α) (p : α) (cs : List Value) (ok okp : Nat → Prop) (B c : Nat) (t2 : TypeId) (fr : Nat × Nat) (hs : a.eval s = v) (hx : a.eval x = .slice (some ⟨B, 0, none⟩) 1 c) (hB : W.heap[B]? = some (.cells cs.toArray t2 fr)) (hp : d.M W N okp p cs) (hokp : ∀ k, okp k → ok k ∧ some k ≠ v.ownBlock) (hfresh : ∀ k, W.heap.size ≤ k → ok k)
  (HO : Kd.S d e W N (fun k => ok k ∧ ¬ okp k) v xs) (hbase : N ≤ W.heap.size) (hl : (xs.length + 1) * bytes ≤ 140737488355328)
  (h : ∀ g cap w1, Kd.S d e w1 N ok (.slice (some ⟨g, 0, none⟩) (xs.length + 1) cap) (xs ++ [p]) → W.grownBy w1 v.ownBlock → Kc (a.put o.dst (.slice (some ⟨g, 0, none⟩) (xs.length + 1) cap)) w1) :
  if Region.wanted o (yielded ops a.tmps) = true then Oper.wp P o a W Kc Q else E := by
 obtain ⟨f, hf, hR⟩ := Kd.S_tag HO xs.length okp (fun _ hk h2 => h2.2 hk)
 refine mM (Kd.tag f d) N hgd s x t e z bytes ho ht hinfo hz hs0 hb0 v xs.zipIdx (p, xs.length) cs ok okp B c t2 fr hs hx hB (d.M_mono (fun k hk => ⟨hk, hf k hk⟩) hp) hokp hfresh (Kd.R_mono hR (fun _ hk => hk.1)) hbase (by rw [List.length_zipIdx]; exact hl) ?_
 intro g cap w1 hr hg
 rw [← Kd.zip_snoc, List.length_zipIdx] at hr
 rw [List.length_zipIdx]
 exact h g cap w1 ⟨f, hr⟩ hg
end
end Go.Proofs.YtpflmgbpjhbmnaaGreat.B
end
