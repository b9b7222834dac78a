/- ConsH, RepH, AdvH, New9H, Weigh, Makes. -/
import Derived.Test.YtpflmgbpjhbmnaaGreatQBm27
import Derived.Test.YtpflmgbpjhbmnaaGreatQBm26
import Derived.Deep.RegionHeld3
section
namespace Go.Proofs.YtpflmgbpjhbmnaaGreat.B
open Go Go.RowKit Go.Proofs Go.Proofs.YtpflmgbpjhbmnaaGreatW.PrintWords Go.Proofs.YtpflmgbpjhbmnaaGreatW.PrintLast Go.Proofs.YtpflmgbpjhbmnaaGreatW.PrintMore Go.Proofs.YtpflmgbpjhbmnaaGreat.Stab
set_option linter.unusedVariables false
set_option linter.unusedSimpArgs false
set_option maxRecDepth 100000
theorem yA : (Tryz.prog.info? 4).map (fun i => (i.zero, i.size, i.bytes)) = some (some (.bool false), 1, 1) := by kernel_rfl
structure CS (w W : World) (l : List Upd) (g c4 : Nat) (D : List Bool) (v5 : Value) (out : List Upd) : Prop where
 B : Below w.heap.size w W
 D : Kd.R Kd.bool 4 W w.heap.size (fun k => k = g) (.slice (some ⟨g, 0, none⟩) l.length c4) D
 O : Kd.N k61 61 W w.heap.size (fun k => k ≠ g) v5 out
section
variable {w W W1 : World} {l : List Upd} {g c4 : Nat} {D : List Bool} {v5 : Value} {out : List Upd}
theorem CS.below (h : CS w W l g c4 D v5 out) (hb : Below W.heap.size W W1) : CS w W1 l g c4 D v5 out := ⟨h.B.trans (hb.mono h.B.size), Kd.R_below h.D hb, Kd.N_below h.O hb⟩
end
theorem CD {α : Type} {d : Kd α} {e base : Nat} {ok : Nat → Prop} {W : World} {v : Value} {xs : List α} (h : d.R e W base ok v xs) (hb : ∃ b, v.ownBlock = some b ∧ base ≤ b) : ∃ g c, v = .slice (some ⟨g, 0, none⟩) xs.length c ∧ base ≤ g := by
 obtain ⟨h0, inner, ho, hr⟩ := h
 rcases ho.2 with ⟨e, _⟩ | ⟨g, cap, cur, e, hg, _⟩
 ·subst e
  obtain ⟨b, hb, _⟩ := hb
  simp [Value.ownBlock] at hb
 ·exact ⟨g, cap, e, hg⟩
theorem CS.put {w W : World} {l : List Upd} {g c4 : Nat} {D : List Bool} {v5 : Value} {out : List Upd} (h : CS w W l g c4 D v5 out) (hg : w.heap.size ≤ g) (i : Nat) : CS w (W.setCell ⟨g, i, none⟩ (.bool true)) l g c4 (D.set i true) v5 out := by
 have h1 := (Kd.R_putg (enc := Value.bool) (h1 := fun _ => rfl) h.D (i : Int) true).1
 rw [Int.toNat_natCast] at h1
 exact ⟨h.B.setCell hg _, h1, Kd.N_step h.O (fun k hk _ => Below.heap_setCell _ _ _ _ hk)⟩
section
variable {P : Program} {ops : Array Oper} {o : Oper} {a : Act} {Q : Exit → Act → World → Prop} {Kc : Act → World → Prop} {E : Prop}
theorem yB {w wr W : World} {l : List Upd} {g c4 : Nat} {D : List Bool} {v5 : Value} {out : List Upd} (hgd : o.guard = none) (s x : Operand)
  (ho : o.op = .call { callee := .builtin .append, args := #[s, x], argTypes := #[22, 22] }) (hu : P.underlying 22 = some (.slice 61)) (hinfo : (P.info? 61).map (fun i => (i.zero, i.size, i.bytes)) = some (some (.agg #[(.slice none 0 0), (.int .i64 0), (.int .i64 0), (.int .i64 0)]), 4, 48))
  (hg : w.heap.size ≤ g) (HC : CS w wr l g c4 D v5 out) (hb : Below wr.heap.size wr W)
  (A : Option Addr) (c : Nat) (r : List S85) (HR : Kd.C k85 w A r.length r) (hrc : r.length ≤ c)
  (e f d : Int) (B m : Nat) (hB : W.heap[B]? = some (.cells #[.slice A r.length c, .int .i64 e, .int .i64 f, .int .i64 d] 61 (0, 0))) (hs : a.eval s = v5) (hx : a.eval x = .slice (some ⟨B, 0, none⟩) 1 m) (hl : out.length < 549755813888)
  (h : ∀ g2 cap w1, aA (CS w w1 l g c4 D (.slice (some ⟨g2, 0, none⟩) (out.length + 1) cap) (out ++ [⟨r, ⟨e, f⟩, d⟩])) → Kc (a.put o.dst (.slice (some ⟨g2, 0, none⟩) (out.length + 1) cap)) w1) :
  if Region.wanted o (yielded ops a.tmps) = true then Oper.wp P o a W Kc Q else E := by
 have HC2 := HC.below hb
 have hgW : g < wr.heap.size := Kd.R_lt HC.D g rfl
 refine yQ hgd s x ho hu hinfo HC.O HC.B hb (fun k hk => by omega) (fun k hk => by omega) A c r HR hrc e f d B m hB hs hx (by omega) fun g2 cap w1 hN hB1 hgr => h g2 cap w1 ⟨hB1, Kd.R_step HC2.D (fun k hk hk2 => hgr.block k hk2 (fun e => HC2.O.1 k e.symm hk)), hN⟩
end
set_option maxHeartbeats 16000000 in
theorem CE (A0 : Option Addr) (c0 : Nat) (l : List Upd) (w : World) (hr : Kd.C k61 w A0 l.length l) (hc : l.length ≤ c0) (hl : l.length ≤ 549755813888) (hrow : ∀ u ∈ l, u.f0.length ≤ 1099511627776) (hd : ∀ u ∈ l, okI u.f2) :
  Calls Tryz.prog 59 #[.slice A0 l.length c0] w fun e w' => ∃ A c, e = .returned (.tuple #[.slice A (dC l).1.length c, .int .i64 (dC l).2]) ∧ (dC l).1.length ≤ c ∧ Kd.C k61 w' A (dC l).1.length (dC l).1 ∧ Below w.heap.size w w' := by
 have HR := aA.mk hr
 have HL := aA.mk (And.intro hrow hd)
 clear hr hrow hd
 go_enter Tryz.func59, Tryz.ntmps59
 go_wp2_with ((with_reducible refine bK (N := 14) rfl ?_); refine Kd.R_make Kd.bool w.heap.size 4 rfl (N := 14) rfl 133 _ _ rfl (l.length : Int) rfl rfl Tryz.underlying133 (.bool false) 1 yA rfl (by decide) (by omega) false (ok := fun _ => True) (okp := fun _ => True) rfl (fun _ hk => hk) trivial (by omega) (by rw [Int.toNat_natCast]; omega) (Below.refl _ _) (Nat.le_refl _) ?_; intro v4 w4 ho hb hg hnew; have HM := aA.mk (And.intro ho (And.intro hb hnew)); clear ho hb hg hnew)
 obtain ⟨g, c4, e4, hg⟩ := CD HM.out.1 HM.out.2.2
 rw [List.length_replicate, Int.toNat_natCast] at e4
 subst e4
 have HG := aA.mk hg
 have HC0 : aA (CS w w4 l g c4 (l.map fun _ => false) (.slice none 0 0) []) := ⟨HM.out.2.1, by
  have h1 := Kd.R_tight rfl HM.out.1
  rw [Int.toNat_natCast, vI] at h1
  exact Kd.R_mono h1 (fun k hk => by simpa [Value.ownBlock] using hk), Kd.N_nil _ _ _ _ _⟩
 clear hg HM
 go_loopg [5] (l.length + 1) (fun kq v5 wr => ∃ (P : Upd → Bool) (out : List Upd), aA (DF l P) ∧ aA ((iC l P).length < kq) ∧ aA (wC l P out = dC l) ∧ aA (out.length + (iC l P).length ≤ l.length) ∧ aA (CS w wr l g c4 (l.map P) v5 out))
 case atStart =>
  have e : iC l (fun _ => false) = l := List.filter_eq_self.2 (fun _ _ => rfl)
  exact ⟨fun _ => false, [], ⟨fun _ _ _ _ _ => rfl⟩, ⟨by rw [e]; omega⟩, ⟨by unfold wC; rw [e]; exact (vV l).symm⟩, ⟨by rw [e]; simp⟩, HC0⟩
 case round =>
  clear HC0
  obtain ⟨P, out, HInv, HK, HRes, HOl, HCS⟩ := hrel
  cases gk with
  | zero => exact absurd HK.out (Nat.not_lt_zero _)
  | succ k1 =>
   go_wp2_with fail
   go_loopw [6, 7] (fun v6 v7 wi => ∃ (i : Nat) (bi : Int), v7 = .int .i64 i ∧ v6 = .int .i64 bi ∧ i ≤ l.length ∧ -1 ≤ bi ∧ bi < (l.length : Int) ∧ aA (fG l P i bi) ∧ aA (CS w wi l g c4 (l.map P) u5 out)) (fun v6 v7 wi => l.length - (intOf v7).toNat)
   case atStart => exact ⟨0, -1, rfl, rfl, Nat.zero_le _, Int.le_refl _, by omega, ⟨⟨fun _ j _ hj => by omega, fun h => by omega⟩⟩, HCS⟩
   case round =>
    clear HCS
    obtain ⟨i, bi, rfl, rfl, hi, hbi1, hbi2, HBO, HCS⟩ := hrel
    by_cases hlt : i < l.length
    ·have hb1 : decide ((i : Int) < (l.length : Int)) = true := decide_eq_true (by omega)
     have hb2 : decide (i < l.length) = true := decide_eq_true hlt
     have hi0 : (0 : Int) ≤ (i : Int) := by omega
     have hi1 : (i : Int) < (l.length : Int) := by omega
     have hcell := (Kd.R_celln (enc := Value.bool) (h1 := fun _ => rfl) false HCS.out.D (i : Int) hi0 hi1).1
     rw [Int.toNat_natCast, AP l P i hlt] at hcell
     cases hP : P l[i] with
     | true =>
      rw [hP] at hcell
      have HBO2 := aA.mk (HBO.out.skip hlt hP)
      clear hP HBO
      go_wp2_with fail
      go_quiet (fail)
      go_wp2
      go_roundw
      case rel => exact ⟨i + 1, bi, by go_num, rfl, by omega, hbi1, hbi2, HBO2, ⟨HCS.out.below (pw_below_drewN (Below.refl _ _) _)⟩⟩
      case measure => simp [intOf]; omega
     | false =>
      rw [hP] at hcell
      by_cases h0 : bi < 0
      ·have hn0 : decide (bi < 0) = true := decide_eq_true h0
       have HBO2 := aA.mk (HBO.out.first hlt hP h0)
       clear hP HBO h0
       go_wp2_with fail
       go_quiet (fail)
       go_wp2
       go_roundw
       case rel => exact ⟨i + 1, (i : Int), by go_num, rfl, by omega, by omega, hi1, HBO2, ⟨HCS.out.below (pw_below_drewN (Below.refl _ _) _)⟩⟩
       case measure => simp [intOf]; omega
      ·have hn0 : decide (bi < 0) = false := decide_eq_false h0
       obtain ⟨b, rfl⟩ : ∃ b : Nat, bi = (b : Int) := ⟨bi.toNat, by omega⟩
       have hbl : b < l.length := by omega
       have hbi0 : (0 : Int) ≤ (b : Int) := by omega
       obtain ⟨ad, A', c', e, hx0, hx1, hx2, hx3, hxl, hxC⟩ := eJ HR.out (i : Int) (by omega) (by omega)
       obtain ⟨bd, B', d', e', hy0, hy1, hy2, hy3, hyl, hyC⟩ := eJ HR.out (b : Int) (by omega) (by omega)
       rw [Int.toNat_natCast, dQ l i hlt] at hx0 hx1 hx2 hx3
       rw [dQ l i hlt] at hxl hxC
       rw [Int.toNat_natCast, dQ l b hbl] at hy0 hy1 hy2 hy3
       rw [dQ l b hbl] at hyl hyC
       have HO : aA (∀ W, Below wr.heap.size wr W → Calls Tryz.prog 60 #[.agg #[.slice A' l[i].f0.length c', .int .i64 l[i].f1.f0, .int .i64 l[i].f1.f1, .int .i64 l[i].f2], .agg #[.slice B' l[b].f0.length d', .int .i64 l[b].f1.f0, .int .i64 l[b].f1.f1, .int .i64 l[b].f2]] W fun e w' => e = .returned (.int .i64 (cY l[i] l[b])) ∧ aA (Below wr.heap.size wr w')) := ⟨fun W hW => by
        have hWw := HCS.out.B.trans (hW.mono HCS.out.B.size)
        exact (DD A' B' c' d' l[i] l[b] W (Kd.C_below hxC hWw) hxl (Kd.C_below hyC hWw) hyl (by have := HL.out.1 _ (List.getElem_mem hlt); omega)).mono fun e w' ⟨q1, q2⟩ => ⟨q1, ⟨hW.trans (q2.mono hW.size)⟩⟩⟩
       have HNew : aA (cY l[i] l[b] < 0 → fG l P (i + 1) i) := ⟨fun h => HBO.out.new_ hlt hbl hP h⟩
       have HStay : aA (¬ cY l[i] l[b] < 0 → fG l P (i + 1) b) := ⟨fun h => HBO.out.stay hlt hbl h⟩
       have eb : bd = ad := by rw [e] at e'; exact (Option.some.inj e').symm
       clear hxl hxC hyl hyC hP HBO h0 e'
       subst eb
       generalize cY l[i] l[b] = z at HO HNew HStay
       generalize l[i] = x at hx0 hx1 hx2 hx3 HO
       generalize l[b] = y at hy0 hy1 hy2 hy3 HO
       subst e
       replace hx0 := aH HCS.out.B hx0
       replace hx1 := aH HCS.out.B hx1
       replace hx2 := aH HCS.out.B hx2
       replace hx3 := aH HCS.out.B hx3
       replace hy0 := aH HCS.out.B hy0
       replace hy1 := aH HCS.out.B hy1
       replace hy2 := aH HCS.out.B hy2
       replace hy3 := aH HCS.out.B hy3
       go_upto_region 7 with (fail)
       go_cut [41] (fun x41 wx => ∃ q : Bool, x41 = .bool q ∧ aA (q = decide (z < 0)) ∧ aA (CS w wx l g c4 (l.map P) u5 out))
       case first =>
        go_region_held3 (fun w' => w'.cell? ⟨g, i, none⟩ = some (.bool false) ∧ w'.cell? (bd.add (i * 4)) = some (.slice A' x.f0.length c') ∧ w'.cell? ⟨(bd.add (i * 4)).block, (bd.add (i * 4)).off + 1, none⟩ = some (.int .i64 x.f1.f0) ∧ w'.cell? ⟨(bd.add (i * 4)).block, (bd.add (i * 4)).off + 2, none⟩ = some (.int .i64 x.f1.f1) ∧ w'.cell? ⟨(bd.add (i * 4)).block, (bd.add (i * 4)).off + 3, none⟩ = some (.int .i64 x.f2) ∧ w'.cell? (bd.add (b * 4)) = some (.slice B' y.f0.length d') ∧ w'.cell? ⟨(bd.add (b * 4)).block, (bd.add (b * 4)).off + 1, none⟩ = some (.int .i64 y.f1.f0) ∧ w'.cell? ⟨(bd.add (b * 4)).block, (bd.add (b * 4)).off + 2, none⟩ = some (.int .i64 y.f1.f1) ∧ w'.cell? ⟨(bd.add (b * 4)).block, (bd.add (b * 4)).off + 3, none⟩ = some (.int .i64 y.f2)) (first | (exact ⟨aH HB5.out hcell, aH HB5.out hx0, aH HB5.out hx1, aH HB5.out hx2, aH HB5.out hx3, aH HB5.out hy0, aH HB5.out hy1, aH HB5.out hy2, aH HB5.out hy3⟩) | go_keep) ((go_at_call 60; refine (HO.out _ (by repeat (first | exact Below.refl _ _ | apply aC | apply pw_below_drewN | apply aD))).mono ?_; rintro e w5 ⟨rfl, HB5⟩))
        go_wp2
        go_meet
        case rel => exact ⟨_, rfl, ⟨rfl⟩, ⟨HCS.out.below HB5.out⟩⟩
       case rest =>
        clear HCS hcell hx0 hx1 hx2 hx3 hy0 hy1 hy2 hy3
        obtain ⟨q, rfl, Hq, HCS⟩ := hcut
        cases q with
        | true =>
         have HBO2 := aA.mk (HNew.out (of_decide_eq_true Hq.out.symm))
         go_wp2
         go_roundw
         case rel => exact ⟨i + 1, (i : Int), by go_num, rfl, by omega, by omega, hi1, HBO2, HCS⟩
         case measure => simp [intOf]; omega
        | false =>
         have HBO2 := aA.mk (HStay.out (of_decide_eq_false Hq.out.symm))
         go_wp2
         go_roundw
         case rel => exact ⟨i + 1, (b : Int), by go_num, rfl, by omega, by omega, hbi2, HBO2, HCS⟩
         case measure => simp [intOf]; omega
    ·have hin : i = l.length := by omega
     subst hin
     have hb1 : decide ((l.length : Int) < (l.length : Int)) = false := decide_eq_false (by omega)
     by_cases h0 : bi < 0
     ·have hn0 : decide (bi < 0) = true := decide_eq_true h0
      have HE : aA (dC l = (out, 0)) := ⟨by rw [← HRes.out]; exact vW l P out bi h0 HBO.out⟩
      obtain ⟨A5, c5, e5, hl5, hC5⟩ := Kd.N_reads HCS.out.O
      subst e5
      clear h0
      go_wp2
      go_ret2
      rw [HE.out]
      exact ⟨A5, c5, rfl, hl5, hC5, HCS.out.B⟩
     ·have hn0 : decide (bi < 0) = false := decide_eq_false h0
      obtain ⟨b, rfl⟩ : ∃ b : Nat, bi = (b : Int) := ⟨bi.toNat, by omega⟩
      have hbl : b < l.length := by omega
      have hbi0 : (0 : Int) ≤ (b : Int) := by omega
      have hst := vX l P HInv.out out b hbl HBO.out
      obtain ⟨bd, B', d', e, hy0, hy1, hy2, hy3, hyl, hyC⟩ := eJ HR.out (b : Int) (by omega) (by omega)
      rw [Int.toNat_natCast, dQ l b hbl] at hy0 hy1 hy2 hy3
      rw [dQ l b hbl] at hyl hyC
      obtain ⟨x, hx⟩ : ∃ x, x = l[b] := ⟨_, rfl⟩
      rw [← hx] at hst hy0 hy1 hy2 hy3 hyl hyC
      have HX := aA.mk (And.intro hyl (And.intro hyC (show x.f0.length ≤ 1099511627776 by rw [hx]; exact HL.out.1 _ (List.getElem_mem hbl))))
      have HInv2 := aA.mk hst.1
      have HK2 := aA.mk hst.2.1
      have HRes2 := aA.mk (HRes.out.symm.trans hst.2.2)
      clear hst hx HBO h0 hyl hyC HInv HRes
      go_wp2_with fail
      go_loopw [8, 9] (fun v8 v9 wi => ∃ (i : Nat) (acc : Int), v9 = .int .i64 i ∧ v8 = .int .i64 acc ∧ i ≤ l.length ∧ aA (okI acc ∧ lB acc ((l.drop i).filter (eqv x)) = lB 0 (l.filter (eqv x))) ∧ aA (CS w wi l g c4 ((l.take i).map (orP P x) ++ (l.drop i).map P) u5 out)) (fun v8 v9 wi => l.length - (intOf v9).toNat)
      case atStart => exact ⟨0, 0, rfl, rfl, Nat.zero_le _, ⟨⟨by unfold okI; omega, rfl⟩⟩, HCS⟩
      case round =>
       clear HCS
       obtain ⟨i, acc, rfl, rfl, hi, HA, HCS⟩ := hrel
       by_cases hlt : i < l.length
       ·have hb1 : decide ((i : Int) < (l.length : Int)) = true := decide_eq_true (by omega)
        have hb2 : decide (i < l.length) = true := decide_eq_true hlt
        have hi0 : (0 : Int) ≤ (i : Int) := by omega
        have hi1 : (i : Int) < (l.length : Int) := by omega
        obtain ⟨ad, A', c', e', hx0, hx1, hx2, hx3, hxl, hxC⟩ := eJ HR.out (i : Int) (by omega) (by omega)
        rw [Int.toNat_natCast, dQ l i hlt] at hx0 hx1 hx2 hx3
        rw [dQ l i hlt] at hxl hxC
        have HO : aA (∀ W, Below wr.heap.size wr W → Calls Tryz.prog 60 #[.agg #[.slice A' l[i].f0.length c', .int .i64 l[i].f1.f0, .int .i64 l[i].f1.f1, .int .i64 l[i].f2], .agg #[.slice B' x.f0.length d', .int .i64 x.f1.f0, .int .i64 x.f1.f1, .int .i64 x.f2]] W fun e w' => e = .returned (.int .i64 (cY l[i] x)) ∧ aA (Below wr.heap.size wr w')) := ⟨fun W hW => by
         have hWw := HCS.out.B.trans (hW.mono HCS.out.B.size)
         exact (DD A' B' c' d' l[i] x W (Kd.C_below hxC hWw) hxl (Kd.C_below HX.out.2.1 hWw) HX.out.1 (by have := HL.out.1 _ (List.getElem_mem hlt); omega)).mono fun e w' ⟨q1, q2⟩ => ⟨q1, ⟨hW.trans (q2.mono hW.size)⟩⟩⟩
        have HHit := aA.mk (AQ l P x i hlt acc)
        have HMiss := aA.mk (xZ l P x i hlt acc)
        have HD := aA.mk (HL.out.2 _ (List.getElem_mem hlt))
        have eb : bd = ad := by rw [e] at e'; exact (Option.some.inj e')
        clear hxl hxC e'
        subst eb
        generalize cY l[i] x = z at HO HHit HMiss
        generalize l[i] = y at hx0 hx1 hx2 hx3 HO HHit HD
        subst e
        replace hx0 := aH HCS.out.B hx0
        replace hx1 := aH HCS.out.B hx1
        replace hx2 := aH HCS.out.B hx2
        replace hx3 := aH HCS.out.B hx3
        have hz0 := aH HCS.out.B hy0
        have hz1 := aH HCS.out.B hy1
        have hz2 := aH HCS.out.B hy2
        have hz3 := aH HCS.out.B hy3
        go_upto_region 15 with (fail)
        go_cut [61] (fun x61 wx => ∃ q : Bool, x61 = .bool q ∧ aA (q = !decide (z = 0)) ∧ aA (CS w wx l g c4 ((l.take i).map (orP P x) ++ (l.drop i).map P) u5 out) ∧ wx.cell? ⟨(bd.add (i * 4)).block, (bd.add (i * 4)).off + 3, none⟩ = some (.int .i64 y.f2))
        case first =>
         go_region_held3 (fun w' => w'.cell? (bd.add (i * 4)) = some (.slice A' y.f0.length c') ∧ w'.cell? ⟨(bd.add (i * 4)).block, (bd.add (i * 4)).off + 1, none⟩ = some (.int .i64 y.f1.f0) ∧ w'.cell? ⟨(bd.add (i * 4)).block, (bd.add (i * 4)).off + 2, none⟩ = some (.int .i64 y.f1.f1) ∧ w'.cell? ⟨(bd.add (i * 4)).block, (bd.add (i * 4)).off + 3, none⟩ = some (.int .i64 y.f2) ∧ w'.cell? (bd.add (b * 4)) = some (.slice B' x.f0.length d') ∧ w'.cell? ⟨(bd.add (b * 4)).block, (bd.add (b * 4)).off + 1, none⟩ = some (.int .i64 x.f1.f0) ∧ w'.cell? ⟨(bd.add (b * 4)).block, (bd.add (b * 4)).off + 2, none⟩ = some (.int .i64 x.f1.f1) ∧ w'.cell? ⟨(bd.add (b * 4)).block, (bd.add (b * 4)).off + 3, none⟩ = some (.int .i64 x.f2)) (first | (exact ⟨aH HB5.out hx0, aH HB5.out hx1, aH HB5.out hx2, aH HB5.out hx3, aH HB5.out hz0, aH HB5.out hz1, aH HB5.out hz2, aH HB5.out hz3⟩) | go_keep) ((go_at_call 60; refine (HO.out _ (by repeat (first | exact Below.refl _ _ | apply aC | apply pw_below_drewN | apply aD))).mono ?_; rintro e w5 ⟨rfl, HB5⟩))
         go_wp2
         go_meet
         case rel => exact ⟨_, rfl, ⟨rfl⟩, ⟨HCS.out.below HB5.out⟩, aH HB5.out hx3⟩
        case rest =>
         clear HCS hx0 hx1 hx2 hx3 hz0 hz1 hz2 hz3
         obtain ⟨q, rfl, Hq, HCS, hx3⟩ := hcut
         cases q with
         | true =>
          have hm := HMiss.out (by have := Hq.out; simpa using this)
          have HA2 : aA (okI acc ∧ lB acc ((l.drop (i + 1)).filter (eqv x)) = lB 0 (l.filter (eqv x))) := ⟨HA.out.1, hm.1.symm.trans HA.out.2⟩
          have HM2 := aA.mk hm.2
          clear hm
          go_wp2
          go_roundw
          case rel => exact ⟨i + 1, acc, by go_num, rfl, by omega, HA2, ⟨by rw [← HM2.out]; exact HCS.out⟩⟩
          case measure => simp [intOf]; omega
         | false =>
          have hh := HHit.out (by have := Hq.out; simpa using this)
          have HAdd := qI acc y.f2 HA.out.1 HD.out
          have hok := AL acc y.f2 HA.out.1 HD.out
          obtain ⟨r1, r2, hr⟩ : ∃ r1 r2, mJ acc y.f2 = (r1, r2) := ⟨_, _, rfl⟩
          rw [hr] at HAdd hok hh
          have HAdd := aA.mk HAdd
          by_cases hr2 : r2 = 0
          ·subst hr2
           have HA2 : aA (okI r1 ∧ lB r1 ((l.drop (i + 1)).filter (eqv x)) = lB 0 (l.filter (eqv x))) := ⟨hok, by rw [← HA.out.2, hh.1]; rfl⟩
           have HM2 := aA.mk hh.2
           obtain ⟨hd, hf⟩ := Kd.R_celln (enc := Value.bool) (h1 := fun _ => rfl) false HCS.out.D (i : Int) hi0 hi1
           rw [Int.toNat_natCast] at hd hf
           clear hh hok hr
           go_wp2_with (go_at_call 87; refine (dI.calls acc y.f2 _ _ _ HAdd.out).mono ?_; rintro e w6 ⟨rfl, hb⟩; have HB6 := aA.mk hb; have hd2 := aH hb hd; have hf2 := (hb.frozen (p := ⟨g, i, none⟩) (Kd.R_lt HCS.out.D g rfl)).trans hf; clear hb hd hf)
           go_roundw
           case rel => exact ⟨i + 1, r1, by go_num, rfl, by omega, HA2, ⟨by rw [← HM2.out]; exact (HCS.out.below HB6.out).put HG.out i⟩⟩
           case measure => simp [intOf]; omega
          ·have hz1 : decide (r2 = 0) = false := decide_eq_false hr2
           have hz2 : (r2 == 0) = false := by simpa using hr2
           have HE : aA (dC l = ([], 60)) := ⟨by
            rw [HRes2.out, ← HA.out.2, hh.1]
            dsimp only
            rw [if_neg hr2]⟩
           clear hh hok hr hr2
           go_wp2_with (go_at_call 87; refine (dI.calls acc y.f2 _ _ _ HAdd.out).mono ?_; rintro e w6 ⟨rfl, hb⟩; have HB6 := aA.mk hb; clear hb)
           go_ret2
           rw [HE.out]
           exact ⟨none, 0, rfl, Nat.le_refl _, Kd.C_nil _ _, HCS.out.B.trans (HB6.out.mono HCS.out.B.size)⟩
       ·have hin : i = l.length := by omega
        subst hin
        have hb1 : decide ((l.length : Int) < (l.length : Int)) = false := decide_eq_false (by omega)
        have HE : aA (dC l = wC l (orP P x) (if acc = 0 then out else out ++ [⟨x.f0, x.f1, acc⟩])) := ⟨by
         have h1 := HA.out.2
         rw [List.drop_length] at h1
         rw [HRes2.out, ← h1]
         rfl⟩
        replace HCS : aA (CS w wr l g c4 (l.map (orP P x)) u5 out) := ⟨by
         have h1 := HCS.out
         rw [List.take_length, List.drop_length, List.map_nil, List.append_nil] at h1
         exact h1⟩
        by_cases hs0 : acc = 0
        ·have hz1 : decide (acc = 0) = true := decide_eq_true hs0
         have hz2 : (acc == 0) = true := by simpa using hs0
         have HE2 : aA (wC l (orP P x) out = dC l) := ⟨by rw [HE.out, if_pos hs0]⟩
         clear hs0
         go_wp2_with fail
         go_roundg k1
         case rel => exact ⟨orP P x, out, HInv2, ⟨by have := HK.out; have := HK2.out; omega⟩, HE2, ⟨by have := HOl.out; have := HK2.out; omega⟩, HCS⟩
         case measure => exact Nat.lt_succ_self _
        ·have hz1 : decide (acc = 0) = false := decide_eq_false hs0
         have hz2 : (acc == 0) = false := by simpa using hs0
         have HE2 : aA (wC l (orP P x) (out ++ [⟨x.f0, x.f1, acc⟩]) = dC l) := ⟨by rw [HE.out, if_neg hs0]⟩
         have HOlen : aA (out.length < 549755813888) := ⟨by have := HOl.out; have := HK2.out; omega⟩
         subst e
         have hz0 := aH HCS.out.B hy0
         have hz1' := aH HCS.out.B hy1
         have hz2' := aH HCS.out.B hy2
         obtain ⟨A5, c5, e5, _⟩ := Kd.N_reads HCS.out.O
         subst e5
         clear hs0
         go_wp2_with fail
         go_region_held3 (fun w' => w'.cell? (bd.add (b * 4)) = some (.slice B' x.f0.length d') ∧ w'.cell? ⟨(bd.add (b * 4)).block, (bd.add (b * 4)).off + 1, none⟩ = some (.int .i64 x.f1.f0) ∧ w'.cell? ⟨(bd.add (b * 4)).block, (bd.add (b * 4)).off + 2, none⟩ = some (.int .i64 x.f1.f1)) (first | (exact ⟨aH (by first | exact HC6.out.B | exact (HCS.out.below (by repeat (first | exact Below.refl _ _ | apply aC | apply pw_below_drewN | apply aD))).B) hy0, aH (by first | exact HC6.out.B | exact (HCS.out.below (by repeat (first | exact Below.refl _ _ | apply aC | apply pw_below_drewN | apply aD))).B) hy1, aH (by first | exact HC6.out.B | exact (HCS.out.below (by repeat (first | exact Below.refl _ _ | apply aC | apply pw_below_drewN | apply aD))).B) hy2⟩) | go_keep) ((refine yB (by rfl) (.tmp 80) (.tmp 93) (by rfl) Tryz.underlying22 mE HG.out HCS.out (by repeat (first | exact Below.refl _ _ | apply aC | apply pw_below_drewN | apply aD)) B' d' x.f0 HX.out.2.1 HX.out.1 x.f1.f0 x.f1.f1 acc _ _ (by repeat (first | exact heap_alloc_new _ _ | refine aJ ?_ _ | refine aK ?_ | refine aI ?_ _)) (by rfl) (by rfl) HOlen.out ?_; intro g6 cap6 w6 HC6))
         go_wp2
         go_roundg k1
         case rel => exact ⟨orP P x, _, HInv2, ⟨by have := HK.out; have := HK2.out; omega⟩, HE2, ⟨by have := HOl.out; have := HK2.out; rw [List.length_append, List.length_singleton]; omega⟩, HC6⟩
         case measure => exact Nat.lt_succ_self _
end Go.Proofs.YtpflmgbpjhbmnaaGreat.B
end
section
namespace Go.Proofs.YtpflmgbpjhbmnaaGreat.B
open Go Go.RowKit Go.Proofs Go.Proofs.YtpflmgbpjhbmnaaGreatW.PrintWords Go.Proofs.YtpflmgbpjhbmnaaGreatW.PrintLast Go.Proofs.YtpflmgbpjhbmnaaGreatW.PrintMore
set_option linter.unusedVariables false
set_option linter.unusedSimpArgs false
set_option maxRecDepth 100000
theorem qL (a b : Tm) (w : World) : Calls Tryz.prog 108 #[.agg #[.int .i64 a.f0, .int .i64 a.f1], .agg #[.int .i64 b.f0, .int .i64 b.f1]] w fun e w' => e = .returned (.agg #[.int .i64 (gD a b).f0, .int .i64 (gD a b).f1]) ∧ Below w.heap.size w w' := by
 obtain ⟨a0, a1⟩ := a
 obtain ⟨b0, b1⟩ := b
 unfold gD
 dsimp only
 obtain ⟨x, hx⟩ : ∃ x, x = max a0 b0 := ⟨_, rfl⟩
 obtain ⟨y, hy⟩ : ∃ y, y = max a1 b1 := ⟨_, rfl⟩
 rw [← hx, ← hy]
 by_cases h0 : a0 < b0
 ·have d0 : decide (a0 < b0) = true := decide_eq_true h0
  obtain rfl : b0 = x := by omega
  clear hx h0
  by_cases h1 : a1 < b1
  ·have d1 : decide (a1 < b1) = true := decide_eq_true h1
   obtain rfl : b1 = y := by omega
   clear hy h1
   go_enter Tryz.func108, Tryz.ntmps108
   go_wp2
   exact bodyPost_ret (v := .agg #[.int .i64 b0, .int .i64 b1]) (by simp [results, Tryz.results108, go_sem]) rfl ⟨rfl, by repeat (first | exact Below.refl _ _ | apply aC)⟩
  ·have d1 : decide (a1 < b1) = false := decide_eq_false h1
   obtain rfl : a1 = y := by omega
   clear hy h1
   go_enter Tryz.func108, Tryz.ntmps108
   go_wp2
   exact bodyPost_ret (v := .agg #[.int .i64 b0, .int .i64 a1]) (by simp [results, Tryz.results108, go_sem]) rfl ⟨rfl, by repeat (first | exact Below.refl _ _ | apply aC)⟩
 ·have d0 : decide (a0 < b0) = false := decide_eq_false h0
  obtain rfl : a0 = x := by omega
  clear hx h0
  by_cases h1 : a1 < b1
  ·have d1 : decide (a1 < b1) = true := decide_eq_true h1
   obtain rfl : b1 = y := by omega
   clear hy h1
   go_enter Tryz.func108, Tryz.ntmps108
   go_wp2
   exact bodyPost_ret (v := .agg #[.int .i64 a0, .int .i64 b1]) (by simp [results, Tryz.results108, go_sem]) rfl ⟨rfl, by repeat (first | exact Below.refl _ _ | apply aC)⟩
  ·have d1 : decide (a1 < b1) = false := decide_eq_false h1
   obtain rfl : a1 = y := by omega
   clear hy h1
   go_enter Tryz.func108, Tryz.ntmps108
   go_wp2
   exact bodyPost_ret (v := .agg #[.int .i64 a0, .int .i64 a1]) (by simp [results, Tryz.results108, go_sem]) rfl ⟨rfl, by repeat (first | exact Below.refl _ _ | apply aC)⟩
theorem lO (a b : Tm) (w : World) : Calls Tryz.prog 109 #[.agg #[.int .i64 a.f0, .int .i64 a.f1], .agg #[.int .i64 b.f0, .int .i64 b.f1]] w fun e w' => e = .returned (.agg #[.int .i64 (hZ a b).f0, .int .i64 (hZ a b).f1]) ∧ Below w.heap.size w w' := by
 obtain ⟨a0, a1⟩ := a
 obtain ⟨b0, b1⟩ := b
 unfold hZ
 dsimp only
 obtain ⟨x, hx⟩ : ∃ x, x = min a0 b0 := ⟨_, rfl⟩
 obtain ⟨y, hy⟩ : ∃ y, y = min a1 b1 := ⟨_, rfl⟩
 rw [← hx, ← hy]
 by_cases h0 : b0 < a0
 ·have d0 : decide (b0 < a0) = true := decide_eq_true h0
  obtain rfl : b0 = x := by omega
  clear hx h0
  by_cases h1 : b1 < a1
  ·have d1 : decide (b1 < a1) = true := decide_eq_true h1
   obtain rfl : b1 = y := by omega
   clear hy h1
   go_enter Tryz.func109, Tryz.ntmps109
   go_wp2
   exact bodyPost_ret (v := .agg #[.int .i64 b0, .int .i64 b1]) (by simp [results, Tryz.results109, go_sem]) rfl ⟨rfl, by repeat (first | exact Below.refl _ _ | apply aC)⟩
  ·have d1 : decide (b1 < a1) = false := decide_eq_false h1
   obtain rfl : a1 = y := by omega
   clear hy h1
   go_enter Tryz.func109, Tryz.ntmps109
   go_wp2
   exact bodyPost_ret (v := .agg #[.int .i64 b0, .int .i64 a1]) (by simp [results, Tryz.results109, go_sem]) rfl ⟨rfl, by repeat (first | exact Below.refl _ _ | apply aC)⟩
 ·have d0 : decide (b0 < a0) = false := decide_eq_false h0
  obtain rfl : a0 = x := by omega
  clear hx h0
  by_cases h1 : b1 < a1
  ·have d1 : decide (b1 < a1) = true := decide_eq_true h1
   obtain rfl : b1 = y := by omega
   clear hy h1
   go_enter Tryz.func109, Tryz.ntmps109
   go_wp2
   exact bodyPost_ret (v := .agg #[.int .i64 a0, .int .i64 b1]) (by simp [results, Tryz.results109, go_sem]) rfl ⟨rfl, by repeat (first | exact Below.refl _ _ | apply aC)⟩
  ·have d1 : decide (b1 < a1) = false := decide_eq_false h1
   obtain rfl : a1 = y := by omega
   clear hy h1
   go_enter Tryz.func109, Tryz.ntmps109
   go_wp2
   exact bodyPost_ret (v := .agg #[.int .i64 a0, .int .i64 a1]) (by simp [results, Tryz.results109, go_sem]) rfl ⟨rfl, by repeat (first | exact Below.refl _ _ | apply aC)⟩
theorem sT (a : Tm) : hZ a a = a := by cases a; simp [hZ]
structure yR (w : World) (t o : Tm) (W : World) : Prop where
 T : W.heap[w.heap.size]? = some (.cells #[.int .i64 t.f0, .int .i64 t.f1] 59 (0, 0))
 R : W.heap[w.heap.size + 1]? = some (.cells #[.int .i64 0, .int .i64 0] 59 (0, 0))
 O : W.heap[w.heap.size + 1 + 1]? = some (.cells #[.int .i64 o.f0, .int .i64 o.f1] 59 (0, 0))
 B : Below w.heap.size w W
theorem yR.below {w : World} {t o : Tm} {W W1 : World} (h : yR w t o W) (hb : Below W.heap.size W W1) : yR w t o W1 := ⟨bD h.T hb, bD h.R hb, bD h.O hb, h.B.trans (hb.mono h.B.size)⟩
theorem yR.put {w : World} {t o : Tm} {W : World} (h : yR w t o W) (x : Tm) : yR w t x ((W.setCell ⟨w.heap.size + 1 + 1, 0, none⟩ (.int .i64 x.f0)).setCell ⟨w.heap.size + 1 + 1, 1, none⟩ (.int .i64 x.f1)) :=
 ⟨cZ (cZ h.T (by dsimp only; omega) _) (by dsimp only; omega) _, cZ (cZ h.R (by dsimp only; omega) _) (by dsimp only; omega) _, kM (kM h.O 0 _) 1 _, (h.B.setCell (by dsimp only; omega) _).setCell (by dsimp only; omega) _⟩
def fS.f (l : List Tm) (a b : Int) : Option (Int × Int) := if l.length ≤ 1099511627776 then some ((kJ l ⟨a, b⟩).f0, (kJ l ⟨a, b⟩).f1) else none
def pJ (t : Tm) (l : List Tm) : Tm := kJ l t
theorem sU (t : Tm) (l : List Tm) (x : Tm) : pJ t (l ++ [x]) = if l = [] then gD t x else hZ (pJ t l) (gD t x) := by
 cases l with
 | nil => rfl
 | cons y r => simp [pJ, kJ]
theorem vY {W w1 : World} (hb : Below W.heap.size W w1) : (∀ b o, b < W.heap.size → w1.cell? ⟨b, o, none⟩ = W.cell? ⟨b, o, none⟩) ∧ (∀ b o, b < W.heap.size → w1.frozen? ⟨b, o, none⟩ = W.frozen? ⟨b, o, none⟩) :=
 ⟨fun b o h => hb.cell (p := ⟨b, o, none⟩) h, fun b o h => hb.frozen (p := ⟨b, o, none⟩) h⟩
set_option maxHeartbeats 8000000 in
theorem rQ (A0 : Option Addr) (c0 : Nat) (l0 : List Tm) (t : Tm) (w : World) (hr0 : Kd.C k59 w A0 l0.length l0) (hl : l0.length ≤ 1099511627776) :
  Calls Tryz.prog 86 #[.slice A0 l0.length c0, .agg #[.int .i64 t.f0, .int .i64 t.f1]] w fun e w' => e = .returned (.agg #[.int .i64 (kJ l0 t).f0, .int .i64 (kJ l0 t).f1]) ∧ Below w.heap.size w w' := by
 have HR := aA.mk hr0
 clear hr0
 go_enter Tryz.func86, Tryz.ntmps86
 go_wp2_with fail
 go_loopw [6] (fun v6 wr => ∃ i : Nat, v6 = .int .i64 i ∧ i ≤ l0.length ∧ aA (yR w t (pJ t (l0.take i)) wr)) (fun v6 wr => l0.length - (intOf v6).toNat)
 case atStart =>
  refine ⟨0, rfl, Nat.zero_le _, ⟨?_, ?_, ?_, ?_⟩⟩
  ·repeat (first | (refine fB _ _ _ ?_; simp; done) | refine aI ?_ _)
  ·repeat (first | (refine fB _ _ _ ?_; simp; done) | refine aI ?_ _)
  ·repeat (first | (refine fB _ _ _ ?_; simp; done) | refine aI ?_ _)
  ·repeat (first | exact Below.refl _ _ | apply aC)
 case round =>
  obtain ⟨i, rfl, hi, HS⟩ := hrel
  by_cases hlt : i < l0.length
  ·have hb1 : decide ((i : Int) < (l0.length : Int)) = true := decide_eq_true (by omega)
   have hb2 : decide (i < l0.length) = true := decide_eq_true hlt
   have hi0 : (0 : Int) ≤ (i : Int) := by omega
   have hi1 : (i : Int) < (l0.length : Int) := by omega
   obtain ⟨ad, e, hx0, hx1⟩ := dW HR.out (i : Int) (by omega) (by omega)
   rw [Int.toNat_natCast, fA l0 i hlt] at hx0 hx1
   have HX : aA (l0.take (i + 1) = l0.take i ++ [l0[i]] ∧ (l0.take i = [] ↔ i = 0)) := ⟨by
    refine ⟨by rw [List.take_add_one, List.getElem?_eq_getElem hlt]; rfl, ?_⟩
    rw [List.take_eq_nil_iff]
    constructor
    ·rintro (h | h)
     ·exact h
     ·rw [h] at hlt; simp at hlt
    ·exact fun h => .inl h⟩
   generalize l0[i] = x at hx0 hx1 HX
   subst e
   obtain ⟨o, ho⟩ : ∃ o, o = pJ t (l0.take i) := ⟨_, rfl⟩
   rw [← ho] at HS
   have HO := aA.mk ho.symm
   clear ho
   have HSZ := aA.mk (blk_lt HS.out.O)
   have ht0 : wr.cell? ⟨w.heap.size, 0, none⟩ = some (.int .i64 t.f0) := aE HS.out.T 0
   have ht1 : wr.cell? ⟨w.heap.size, 1, none⟩ = some (.int .i64 t.f1) := aE HS.out.T 1
   have hx0' := aH HS.out.B hx0
   have hx1' := aH HS.out.B hx1
   go_upto_region 5 with (fail)
   go_cut [7] (fun x7 wx => ∃ g, x7 = .pointer (some ⟨g, 0, none⟩) ∧ aA (wr.heap.size ≤ g ∧ wx.heap[g]? = some (.cells #[.int .i64 (gD t x).f0, .int .i64 (gD t x).f1] 59 (0, 0))) ∧ aA (yR w t o wx))
   case first =>
    go_region_held3 (fun w' => w'.cell? ⟨w.heap.size, 0, none⟩ = some (.int .i64 t.f0) ∧ w'.cell? ⟨w.heap.size, 1, none⟩ = some (.int .i64 t.f1) ∧ w'.cell? (ad.add (i * 2)) = some (.int .i64 x.f0) ∧ w'.cell? ⟨(ad.add (i * 2)).block, (ad.add (i * 2)).off + 1, none⟩ = some (.int .i64 x.f1)) (first | (exact ⟨aH (by repeat (first | exact HB5.out | exact Below.refl _ _ | apply aC | apply pw_below_drewN | apply aD | refine Below.setCell ?_ (by simp) _)) ht0, aH (by repeat (first | exact HB5.out | exact Below.refl _ _ | apply aC | apply pw_below_drewN | apply aD | refine Below.setCell ?_ (by simp) _)) ht1, aH (by repeat (first | exact HB5.out | exact Below.refl _ _ | apply aC | apply pw_below_drewN | apply aD | refine Below.setCell ?_ (by simp) _)) hx0', aH (by repeat (first | exact HB5.out | exact Below.refl _ _ | apply aC | apply pw_below_drewN | apply aD | refine Below.setCell ?_ (by simp) _)) hx1'⟩) | go_keep) ((go_at_call 108; refine (qL t x _).mono ?_; rintro e w5 ⟨rfl, hb⟩; have HB5 := aA.mk (Below.trans (by repeat (first | exact Below.refl _ _ | apply aC | apply pw_below_drewN | apply aD) : Below wr.heap.size wr _) (hb.mono (by simp))); obtain ⟨hcj, hfj⟩ := vY hb; have HBJ := aA.mk hb; clear hb))
    ·go_wp2
     go_meet
     case rel => exact ⟨_, rfl, ⟨HB5.out.size, heap_alloc_new _ _⟩, ⟨HS.out.below (aC HB5.out _)⟩⟩
    ·go_wp2
     go_meet
     case rel => exact ⟨_, rfl, ⟨Nat.le_refl _, kM (kM (bD (by repeat (first | exact heap_alloc_new _ _ | refine aJ ?_ _ | refine aK ?_)) HBJ.out) 0 _) 1 _⟩, ⟨HS.out.below ((HB5.out.setCell (Nat.le_refl _) _).setCell (Nat.le_refl _) _)⟩⟩
   case rest =>
    clear HS ht0 ht1 hx0' hx1'
    obtain ⟨g, rfl, HJ, HS⟩ := hcut
    have hj0 : wc.cell? ⟨g, 0, none⟩ = some (.int .i64 (gD t x).f0) := aE HJ.out.2 0
    have hj1 : wc.cell? ⟨g, 1, none⟩ = some (.int .i64 (gD t x).f1) := aE HJ.out.2 1
    have ho0 : wc.cell? ⟨w.heap.size + 1 + 1, 0, none⟩ = some (.int .i64 o.f0) := aE HS.out.O 0
    have ho1 : wc.cell? ⟨w.heap.size + 1 + 1, 1, none⟩ = some (.int .i64 o.f1) := aE HS.out.O 1
    have hf0 : wc.frozen? ⟨w.heap.size + 1 + 1, 0, none⟩ = false := blk_frozen HS.out.O 0
    have hf1 : wc.frozen? ⟨w.heap.size + 1 + 1, 1, none⟩ = false := blk_frozen HS.out.O 1
    have hg0 : w.heap.size + 1 + 1 < wr.heap.size := HSZ.out
    have hne : g ≠ w.heap.size + 1 + 1 := by have := HJ.out.1; omega
    have hsz : w.heap.size + 1 + 1 < wc.heap.size := blk_lt HS.out.O
    have hgz : g < wc.heap.size := blk_lt HJ.out.2
    have HFS := aA.mk (sU t (l0.take i) x)
    obtain ⟨J, hJ⟩ : ∃ J, J = gD t x := ⟨_, rfl⟩
    rw [← hJ] at hj0 hj1 HJ HFS
    clear hJ
    by_cases hz : i = 0
    ·have hz1 : decide ((i : Int) = 0) = true := decide_eq_true (by omega)
     have hz2 : ((i : Int) == 0) = true := by simpa using hz
     have HE : aA (pJ t (l0.take (i + 1)) = hZ J J) := ⟨by rw [HX.out.1, HFS.out, if_pos (HX.out.2.2 hz), sT]⟩
     have HP := aA.mk (HS.out.put J)
     have HZ := aA.mk hz
     clear hz
     go_wp2_with (go_at_call 109; refine (lO J J _).mono ?_; rintro e w6 ⟨rfl, hb⟩; have HB6 := aA.mk hb; obtain ⟨hcm, hfm⟩ := vY hb; clear hb)
     go_roundw
     case rel => exact ⟨i + 1, by go_num, by omega, ⟨by rw [HE.out]; exact (HP.out.below HB6.out).put (hZ J J)⟩⟩
     case measure => simp [intOf]; omega
    ·have hz1 : decide ((i : Int) = 0) = false := decide_eq_false (by omega)
     have hz2 : ((i : Int) == 0) = false := by simpa using hz
     have HE : aA (pJ t (l0.take (i + 1)) = hZ o J) := ⟨by rw [HX.out.1, HFS.out, if_neg (fun h => hz (HX.out.2.1 h)), HO.out]⟩
     clear hz
     go_wp2_with (go_at_call 109; refine (lO o J _).mono ?_; rintro e w6 ⟨rfl, hb⟩; have HB6 := aA.mk hb; obtain ⟨hcm, hfm⟩ := vY hb; clear hb)
     go_roundw
     case rel => exact ⟨i + 1, by go_num, by omega, ⟨by rw [HE.out]; exact (HS.out.below HB6.out).put (hZ o J)⟩⟩
     case measure => simp [intOf]; omega
  ·have hin : i = l0.length := by omega
   subst hin
   have hb1 : decide ((l0.length : Int) < (l0.length : Int)) = false := decide_eq_false (by omega)
   have HE : aA (pJ t (l0.take l0.length) = kJ l0 t) := ⟨by rw [List.take_length]; rfl⟩
   rw [HE.out] at HS
   have ho0 : wr.cell? ⟨w.heap.size + 1 + 1, 0, none⟩ = some (.int .i64 (kJ l0 t).f0) := aE HS.out.O 0
   have ho1 : wr.cell? ⟨w.heap.size + 1 + 1, 1, none⟩ = some (.int .i64 (kJ l0 t).f1) := aE HS.out.O 1
   have hr0 : wr.cell? ⟨w.heap.size + 1, 0, none⟩ = some (.int .i64 0) := aE HS.out.R 0
   have hr1 : wr.cell? ⟨w.heap.size + 1, 1, none⟩ = some (.int .i64 0) := aE HS.out.R 1
   have hf0 : wr.frozen? ⟨w.heap.size + 1, 0, none⟩ = false := blk_frozen HS.out.R 0
   have hf1 : wr.frozen? ⟨w.heap.size + 1, 1, none⟩ = false := blk_frozen HS.out.R 1
   go_wp2
   exact bodyPost_ret (v := .agg #[.int .i64 (kJ l0 t).f0, .int .i64 (kJ l0 t).f1]) (by simp [results, Tryz.results86, go_sem, ho0, ho1, hr0, hr1]) rfl ⟨rfl, (HS.out.B.setCell (by dsimp only; omega) _).setCell (by dsimp only; omega) _⟩
theorem fS.calls (A0 : Option Addr) (c0 : Nat) (l0 : List Tm) (a1_0 a1_1 r1 r2 : Int) (w : World) (hr0 : Kd.C k59 w A0 l0.length l0) (hc0 : l0.length ≤ c0) (h : fS.f l0 a1_0 a1_1 = some (r1, r2)) :
  Calls Tryz.prog 86 #[.slice A0 l0.length c0, .agg #[.int .i64 a1_0, .int .i64 a1_1]] w fun e w' => e = .returned (.agg #[.int .i64 r1, .int .i64 r2]) ∧ Below w.heap.size w w' := by
 unfold fS.f at h
 split at h
 ·rename_i hl
  injection h with h
  injection h with h1 h2
  subst h1 h2
  exact rQ A0 c0 l0 ⟨a1_0, a1_1⟩ w hr0 hl
 ·cases h
end Go.Proofs.YtpflmgbpjhbmnaaGreat.B
end
section
namespace Go.Proofs.YtpflmgbpjhbmnaaGreat.B
open Go Go.RowKit Go.Proofs Go.Proofs.YtpflmgbpjhbmnaaGreatW.PrintWords Go.Proofs.YtpflmgbpjhbmnaaGreatW.PrintLast Go.Proofs.YtpflmgbpjhbmnaaGreatW.PrintMore Go.Proofs.YtpflmgbpjhbmnaaGreat.Stab
set_option linter.unusedVariables false
set_option linter.unusedSimpArgs false
set_option maxRecDepth 100000
set_option maxHeartbeats 8000000 in
theorem DX (A0 A1 : Option Addr) (c0 c1 : Nat) (l : List Upd) (f : List Tm) (w : World) (hr : Kd.C k61 w A0 l.length l) (hf : Kd.C k59 w A1 f.length f) (hl : l.length ≤ 549755813888) (hfl : f.length ≤ 1099511627776) :
  Calls Tryz.prog 58 #[.slice A0 l.length c0, .slice A1 f.length c1] w fun e w' => ∃ A c, e = .returned (.slice A (fK l f).length c) ∧ (fK l f).length ≤ c ∧ Kd.C k61 w' A (fK l f).length (fK l f) ∧ Below w.heap.size w w' := by
 have HR := aA.mk hr
 have HF := aA.mk hf
 have HL := aA.mk hfl
 clear hr hf hfl
 have HB0 := aA.mk (Below.refl w.heap.size w)
 go_enter Tryz.func58, Tryz.ntmps58
 go_wp2_with fail
 go_loopw [5, 6] (fun v5 v6 wr => ∃ i : Nat, v6 = .int .i64 i ∧ i ≤ l.length ∧ aA (Kd.N k61 61 wr w.heap.size (fun _ => True) v5 (fK (l.take i) f)) ∧ aA (Below w.heap.size w wr)) (fun v5 v6 wr => l.length - (intOf v6).toNat)
 case atStart => exact ⟨0, rfl, Nat.zero_le _, ⟨Kd.N_nil _ _ _ _ _⟩, HB0⟩
 case round =>
  clear HB0
  obtain ⟨i, rfl, hi, HN, HB⟩ := hrel
  obtain ⟨A5, c5, e5, hl5, hC5⟩ := Kd.N_reads HN.out
  subst e5
  by_cases hlt : i < l.length
  ·have hb1 : decide ((i : Int) < (l.length : Int)) = true := decide_eq_true (by omega)
   have hb2 : decide (i < l.length) = true := decide_eq_true hlt
   have hi0 : (0 : Int) ≤ (i : Int) := by omega
   have hi1 : (i : Int) < (l.length : Int) := by omega
   obtain ⟨ad, A', c', e, hx0, hx1, hx2, hx3, hxl, hxC⟩ := eJ HR.out (i : Int) (by omega) (by omega)
   rw [Int.toNat_natCast, dQ l i hlt] at hx0 hx1 hx2 hx3
   rw [dQ l i hlt] at hxl hxC
   have HX : aA (fK (l.take (i + 1)) f = fK (l.take i) f ++ [⟨l[i].f0, kJ f l[i].f1, l[i].f2⟩]) := ⟨by
    have e2 : l.take (i + 1) = l.take i ++ [l[i]] := by rw [List.take_add_one, List.getElem?_eq_getElem hlt]; rfl
    unfold fK
    rw [e2, List.map_append]; rfl⟩
   have HLn : aA ((fK (l.take i) f).length < 1099511627776) := ⟨by unfold fK; rw [List.length_map, List.length_take]; omega⟩
   generalize l[i] = x at hx0 hx1 hx2 hx3 hxl hxC HX
   have HXC := aA.mk (And.intro hxl hxC)
   subst e
   clear hl5 hC5 hxl hxC
   have hz0 := aH HB.out hx0
   have hz1 := aH HB.out hx1
   have hz2 := aH HB.out hx2
   have hz3 := aH HB.out hx3
   have HO : aA (∀ W, Below wr.heap.size wr W → Calls Tryz.prog 86 #[.slice A1 f.length c1, .agg #[.int .i64 x.f1.f0, .int .i64 x.f1.f1]] W fun e w' => e = .returned (.agg #[.int .i64 (kJ f x.f1).f0, .int .i64 (kJ f x.f1).f1]) ∧ aA (Below wr.heap.size wr w')) := ⟨fun W hW =>
    (rQ A1 c1 f x.f1 W (Kd.C_below HF.out (HB.out.trans (hW.mono HB.out.size))) HL.out).mono fun e w' ⟨q1, q2⟩ => ⟨q1, ⟨hW.trans (q2.mono hW.size)⟩⟩⟩
   go_wp2_with fail
   go_region_held3 (fun w' => w'.cell? (ad.add (i * 4)) = some (.slice A' x.f0.length c') ∧ w'.cell? ⟨(ad.add (i * 4)).block, (ad.add (i * 4)).off + 1, none⟩ = some (.int .i64 x.f1.f0) ∧ w'.cell? ⟨(ad.add (i * 4)).block, (ad.add (i * 4)).off + 2, none⟩ = some (.int .i64 x.f1.f1) ∧ w'.cell? ⟨(ad.add (i * 4)).block, (ad.add (i * 4)).off + 3, none⟩ = some (.int .i64 x.f2)) (first | (exact ⟨aH (by first | exact HB6.out | exact HB.out.trans (Below.mono (by repeat (first | exact Below.refl _ _ | exact HB5.out | apply aC | apply pw_below_drewN | apply aD)) HB.out.size)) hx0, aH (by first | exact HB6.out | exact HB.out.trans (Below.mono (by repeat (first | exact Below.refl _ _ | exact HB5.out | apply aC | apply pw_below_drewN | apply aD)) HB.out.size)) hx1, aH (by first | exact HB6.out | exact HB.out.trans (Below.mono (by repeat (first | exact Below.refl _ _ | exact HB5.out | apply aC | apply pw_below_drewN | apply aD)) HB.out.size)) hx2, aH (by first | exact HB6.out | exact HB.out.trans (Below.mono (by repeat (first | exact Below.refl _ _ | exact HB5.out | apply aC | apply pw_below_drewN | apply aD)) HB.out.size)) hx3⟩) | go_keep) (first
    | ((go_at_call 86; refine (HO.out _ (by repeat (first | exact Below.refl _ _ | apply aC | apply pw_below_drewN | apply aD))).mono ?_; rintro e w5 ⟨rfl, HB5⟩))
    | ((refine yQ (by rfl) (.tmp 13) (.tmp 32) (by rfl) Tryz.underlying22 mE HN.out HB.out (by repeat (first | exact Below.refl _ _ | exact HB5.out | apply aC | apply pw_below_drewN | apply aD)) (fun _ _ => trivial) (fun _ _ => trivial) A' c' x.f0 HXC.out.2 HXC.out.1 (kJ f x.f1).f0 (kJ f x.f1).f1 x.f2 _ _ (by repeat (first | exact heap_alloc_new _ _ | refine aJ ?_ _ | refine aK ?_ | refine aI ?_ _)) (by rfl) (by rfl) HLn.out ?_; intro g6 cap6 w6 hN hB6 _; have HN6 := aA.mk hN; have HB6 := aA.mk hB6; clear hN hB6)))
   go_wp2
   go_roundw
   case rel => exact ⟨i + 1, by go_num, by omega, ⟨by rw [HX.out]; exact HN6.out⟩, HB6⟩
   case measure => simp [intOf]; omega
  ·have hin : i = l.length := by omega
   subst hin
   have hb1 : decide ((l.length : Int) < (l.length : Int)) = false := decide_eq_false (by omega)
   rw [List.take_length] at hl5 hC5
   have HE : aA (fK (l.take l.length) f = fK l f) := ⟨by rw [List.take_length]⟩
   go_wp2
   go_ret
   exact ⟨A5, c5, by rw [HE.out]; rfl, hl5, hC5, HB.out⟩
end Go.Proofs.YtpflmgbpjhbmnaaGreat.B
end
section
namespace Go.Proofs.YtpflmgbpjhbmnaaGreat.B
open Go Go.RowKit Go.Proofs Go.Proofs.YtpflmgbpjhbmnaaGreatW.PrintWords Go.Proofs.YtpflmgbpjhbmnaaGreatW.PrintLast Go.Proofs.YtpflmgbpjhbmnaaGreatW.PrintMore Go.Proofs.YtpflmgbpjhbmnaaGreat.Stab
set_option linter.unusedVariables false
set_option linter.unusedSimpArgs false
set_option maxRecDepth 100000
theorem vZ (key : Int) (l : List Upd) (since : List Tm) (h1 : ¬ (key < 0 ∨ 16 < key)) (h2 : ∀ u ∈ l, ¬ (u.f0.length : Int) < key) (h3 : fO since = 0) : mU key l since = dC (if since.length = 0 then l else fK l since) := by
 unfold mU jG
 rw [if_neg h1, if_neg (fun ⟨u, hu, h⟩ => h2 u hu h), if_neg (show ¬ fO since ≠ 0 by omega)]
 generalize (if since.length = 0 then l else fK l since) = X
 by_cases he : (dC X).2 = 0
 ·rw [if_neg (show ¬ (dC X).2 ≠ 0 by omega)]
  exact Prod.ext rfl he.symm
 ·rw [if_pos he]
  exact Prod.ext (vN X he).symm rfl
set_option maxHeartbeats 8000000 in
theorem CF (key : Int) (A1 A2 : Option Addr) (c1 c2 : Nat) (l : List Upd) (since : List Tm) (w : World) (hr1 : Kd.C k61 w A1 l.length l) (hc1 : l.length ≤ c1) (hr2 : Kd.C k59 w A2 since.length since) (hc2 : since.length ≤ c2) (hl : l.length ≤ 549755813888) (hr : ∀ u ∈ l, u.f0.length ≤ 1099511627776) (hs : since.length ≤ 1099511627776) (hd : ∀ u ∈ l, okI u.f2) :
  Calls Tryz.prog 10 #[.int .i64 key, .slice A1 l.length c1, .slice A2 since.length c2] w fun e w' => ∃ A c, e = .returned (.tuple #[.slice A (mU key l since).1.length c, .int .i64 (mU key l since).2]) ∧ (mU key l since).1.length ≤ c ∧ Kd.C k61 w' A (mU key l since).1.length (mU key l since).1 ∧ Below w.heap.size w w' := by
 have HR := aA.mk hr1
 have HL := aA.mk (And.intro hr hd)
 have HB0 := aA.mk (Below.refl w.heap.size w)
 have HChk : aA (∀ W, Below w.heap.size w W → Calls Tryz.prog 57 #[.slice A2 since.length c2] W fun e w' => e = .returned (.int .i64 (fO since)) ∧ aA (Below w.heap.size w w')) := ⟨fun W hW => by
  obtain ⟨k, hk⟩ := (xM since).rounds
  exact (bJ.calls k A2 c2 since _ W (Kd.C_below hr2 hW) hc2 hk).mono fun e w' ⟨q1, q2⟩ => ⟨q1, ⟨hW.trans (q2.mono hW.size)⟩⟩⟩
 have HAdv : aA (∀ W, Below w.heap.size w W → Calls Tryz.prog 58 #[.slice A1 l.length c1, .slice A2 since.length c2] W fun e w' => ∃ A c, e = .returned (.slice A (fK l since).length c) ∧ aA ((fK l since).length ≤ c ∧ Kd.C k61 w' A (fK l since).length (fK l since)) ∧ aA (Below w.heap.size w w')) := ⟨fun W hW => by
  refine (DX A1 A2 c1 c2 l since W (Kd.C_below hr1 hW) (Kd.C_below hr2 hW) hl hs).mono ?_
  rintro e w' ⟨A, c, q1, q2, q3, q4⟩
  exact ⟨A, c, q1, ⟨q2, q3⟩, ⟨hW.trans (q4.mono hW.size)⟩⟩⟩
 have HCon : aA (∀ X : List Upd, X = l ∨ X = fK l since → ∀ W A c, Below w.heap.size w W → Kd.C k61 W A X.length X → X.length ≤ c → Calls Tryz.prog 59 #[.slice A X.length c] W fun e w' => ∃ A c, e = .returned (.tuple #[.slice A (dC X).1.length c, .int .i64 (dC X).2]) ∧ aA ((dC X).1.length ≤ c ∧ Kd.C k61 w' A (dC X).1.length (dC X).1) ∧ aA (Below w.heap.size w w')) := ⟨fun X hX W A c hW hC hcc => by
  have h1 : X.length ≤ 549755813888 ∧ (∀ u ∈ X, u.f0.length ≤ 1099511627776) ∧ (∀ u ∈ X, okI u.f2) := by
   rcases hX with rfl | rfl
   ·exact ⟨hl, hr, hd⟩
   ·refine ⟨by simpa [fK] using hl, fun u hu => ?_, fun u hu => ?_⟩
    ·obtain ⟨v, hv, e, _⟩ := kK l since u hu
     rw [e]; exact hr v hv
    ·obtain ⟨v, hv, _, _, e⟩ := kK l since u hu
     rw [e]; exact hd v hv
  refine (CE A c X W hC hcc h1.1 h1.2.1 h1.2.2).mono ?_
  rintro e w' ⟨A, c, q1, q2, q3, q4⟩
  exact ⟨A, c, q1, ⟨q2, q3⟩, ⟨hW.trans (q4.mono hW.size)⟩⟩⟩
 have HC1 := aA.mk hc1
 clear hr1 hr2 hr hd hc1 hc2
 go_enter Tryz.func10, Tryz.ntmps10
 by_cases hk0 : key < 0
 ·have hd0 : decide (key < 0) = true := decide_eq_true hk0
  have HE : aA (mU key l since = ([], 1)) := ⟨by unfold mU jG; rw [if_pos (.inl hk0)]; rfl⟩
  clear hk0
  go_wp2_with fail
  go_ret2
  rw [HE.out]
  exact ⟨none, 0, rfl, Nat.le_refl _, Kd.C_nil _ _, HB0.out⟩
 by_cases hk1 : 16 < key
 ·have hd0 : decide (key < 0) = false := decide_eq_false hk0
  have hd1 : decide (16 < key) = true := decide_eq_true hk1
  have HE : aA (mU key l since = ([], 1)) := ⟨by unfold mU jG; rw [if_pos (.inr hk1)]; rfl⟩
  clear hk0 hk1
  go_wp2_with fail
  go_ret2
  rw [HE.out]
  exact ⟨none, 0, rfl, Nat.le_refl _, Kd.C_nil _ _, HB0.out⟩
 have hd0 : decide (key < 0) = false := decide_eq_false hk0
 have hd1 : decide (16 < key) = false := decide_eq_false hk1
 have HK : aA (¬ (key < 0 ∨ 16 < key)) := ⟨by omega⟩
 clear hk0 hk1
 go_wp2_with fail
 go_loopw [8] (fun v8 wr => ∃ i : Nat, v8 = .int .i64 i ∧ i ≤ l.length ∧ aA (∀ u ∈ l.take i, ¬ (u.f0.length : Int) < key) ∧ aA (Below w.heap.size w wr)) (fun v8 wr => l.length - (intOf v8).toNat)
 case atStart => exact ⟨0, rfl, Nat.zero_le _, ⟨fun u hu => by simp at hu⟩, HB0⟩
 case round =>
  clear HB0
  obtain ⟨i, rfl, hi, HNo, HB⟩ := hrel
  by_cases hlt : i < l.length
  ·have hb1 : decide ((i : Int) < (l.length : Int)) = true := decide_eq_true (by omega)
   have hb2 : decide (i < l.length) = true := decide_eq_true hlt
   have hi0 : (0 : Int) ≤ (i : Int) := by omega
   have hi1 : (i : Int) < (l.length : Int) := by omega
   obtain ⟨ad, A', c', e, hx0, hx1, hx2, hx3, hxl, hxC⟩ := eJ HR.out (i : Int) (by omega) (by omega)
   rw [Int.toNat_natCast, dQ l i hlt] at hx0
   clear hx1 hx2 hx3 hxl hxC
   have HT : aA (l.take (i + 1) = l.take i ++ [l[i]] ∧ l[i] ∈ l) := ⟨by rw [List.take_add_one, List.getElem?_eq_getElem hlt]; rfl, List.getElem_mem hlt⟩
   generalize l[i] = x at hx0 HT
   subst e
   replace hx0 := aH HB.out hx0
   by_cases hn : (x.f0.length : Int) < key
   ·have hn1 : decide ((x.f0.length : Int) < key) = true := decide_eq_true hn
    have HE : aA (mU key l since = ([], 9)) := ⟨by unfold mU jG; rw [if_neg HK.out, if_pos ⟨x, HT.out.2, hn⟩]; rfl⟩
    clear hn
    go_wp2_with fail
    go_ret2
    rw [HE.out]
    exact ⟨none, 0, rfl, Nat.le_refl _, Kd.C_nil _ _, HB.out⟩
   ·have hn1 : decide ((x.f0.length : Int) < key) = false := decide_eq_false hn
    have HNo2 : aA (∀ u ∈ l.take (i + 1), ¬ (u.f0.length : Int) < key) := ⟨fun u hu => by
     rw [HT.out.1, List.mem_append, List.mem_singleton] at hu
     rcases hu with hu | rfl
     ·exact HNo.out u hu
     ·exact hn⟩
    clear hn
    go_wp2_with fail
    go_roundw
    case rel => exact ⟨i + 1, by go_num, by omega, HNo2, HB⟩
    case measure => simp [intOf]; omega
  ·have hin : i = l.length := by omega
   subst hin
   have hb1 : decide ((l.length : Int) < (l.length : Int)) = false := decide_eq_false (by omega)
   have HNo2 : aA (∀ u ∈ l, ¬ (u.f0.length : Int) < key) := ⟨by have := HNo.out; rw [List.take_length] at this; exact this⟩
   obtain ⟨z, hz⟩ : ∃ z, z = fO since := ⟨_, rfl⟩
   rw [← hz] at HChk
   by_cases hz0 : z = 0
   ·have hz1 : (z != 0) = false := by simpa using hz0
    have hz2 : decide (z = 0) = true := decide_eq_true hz0
    have HE0 := aA.mk (vZ key l since HK.out HNo2.out (hz.symm.trans hz0))
    clear hz hz0
    by_cases hs0 : since.length = 0
    ·have hs1 : decide ((since.length : Int) > 0) = false := decide_eq_false (by omega)
     have hs2 : decide (0 < since.length) = false := decide_eq_false (by omega)
     have HE : aA (mU key l since = dC l) := ⟨by rw [HE0.out, if_pos hs0]⟩
     clear hs0
     go_wp2_with (first
      | (go_at_call 57; refine (HChk.out _ HB.out).mono ?_; rintro e w5 ⟨rfl, HB5⟩)
      | (go_at_call 59; refine (HCon.out l (.inl rfl) _ _ _ HB5.out (Kd.C_below HR.out HB5.out) HC1.out).mono ?_; rintro e w6 ⟨A6, c6, rfl, HR6, HB6⟩))
     go_ret2
     rw [HE.out]
     exact ⟨A6, c6, rfl, HR6.out.1, HR6.out.2, HB6.out⟩
    ·have hs1 : decide ((since.length : Int) > 0) = true := decide_eq_true (by omega)
     have hs2 : decide (0 < since.length) = true := decide_eq_true (by omega)
     have HE : aA (mU key l since = dC (fK l since)) := ⟨by rw [HE0.out, if_neg hs0]⟩
     clear hs0
     go_wp2_with (first
      | (go_at_call 57; refine (HChk.out _ HB.out).mono ?_; rintro e w5 ⟨rfl, HB5⟩)
      | (go_at_call 58; refine (HAdv.out _ HB5.out).mono ?_; rintro e w6 ⟨A6, c6, rfl, HR6, HB6⟩)
      | (go_at_call 59; refine (HCon.out (fK l since) (.inr rfl) _ _ _ HB6.out HR6.out.2 HR6.out.1).mono ?_; rintro e w7 ⟨A7, c7, rfl, HR7, HB7⟩))
     go_ret2
     rw [HE.out]
     exact ⟨A7, c7, rfl, HR7.out.1, HR7.out.2, HB7.out⟩
   ·have hz1 : (z != 0) = true := by simpa using hz0
    have hz2 : decide (z = 0) = false := decide_eq_false hz0
    have HE : aA (mU key l since = ([], z)) := ⟨by unfold mU jG; rw [if_neg HK.out, if_neg (fun ⟨u, hu, h⟩ => HNo2.out u hu h), ← hz, if_pos hz0]; rfl⟩
    clear hz hz0
    go_wp2_with (go_at_call 57; refine (HChk.out _ HB.out).mono ?_; rintro e w5 ⟨rfl, HB5⟩)
    go_ret2
    rw [HE.out]
    exact ⟨none, 0, rfl, Nat.le_refl _, Kd.C_nil _ _, HB5.out⟩
end Go.Proofs.YtpflmgbpjhbmnaaGreat.B
end
section
namespace Go.Proofs.YtpflmgbpjhbmnaaGreat.B
open Go Go.RowKit Go.Proofs Go.Proofs.YtpflmgbpjhbmnaaGreatW.PrintWords Go.Proofs.YtpflmgbpjhbmnaaGreatW.PrintLast Go.Proofs.YtpflmgbpjhbmnaaGreatW.PrintMore Go.Proofs.YtpflmgbpjhbmnaaGreat.Rg
set_option linter.unusedVariables false
set_option linter.unusedSimpArgs false
set_option maxRecDepth 100000
theorem fP.weigh {W : World} {N p : Nat} {key weight : Int} {since : List Tm} {cl : List Upd} (h : fP W N p key weight since cl) (n : Int) : fP (W.setCell ⟨p, 1, none⟩ (.int .i64 n)) N p key n since cl := by
 obtain ⟨⟨L, v2, v3, v4, v5, v6, v7, v8, hs⟩, hl⟩ := h
 exact ⟨⟨L, v2, v3, v4, v5, v6, v7, v8, hs.weigh n⟩, hl⟩
theorem fP.own {W : World} {N p : Nat} {key weight : Int} {since : List Tm} {cl : List Upd} (h : fP W N p key weight since cl) : N ≤ p ∧ p < W.heap.size ∧ (∃ v, W.cell? ⟨p, 1, none⟩ = some v) ∧ W.frozen? ⟨p, 1, none⟩ = false := by
 obtain ⟨⟨L, v2, v3, v4, v5, v6, v7, v8, hs⟩, hl⟩ := h
 exact ⟨hs.hN, hs.lt, ⟨_, hs.cell1⟩, hs.frozen 1⟩
theorem qM (key weight : Int) (hw : weight < 0) (v1 v2 : Value) (w : World) : Calls Tryz.prog 12 #[.int .i64 key, v1, v2, .int .i64 weight] w fun e w' => e = .returned (.tuple #[.pointer none, .int .i64 1]) ∧ Below w.heap.size w w' := by
 have b1 : decide (weight < 0) = true := decide_eq_true hw
 go_enter Tryz.func12, Tryz.ntmps12
 go_wp2
 go_ret2
 exact ⟨rfl, by repeat (first | exact Below.refl _ _ | apply cG)⟩
theorem yC (key weight : Int) (hw : 0 ≤ weight) (A0 A1 : Option Addr) (c0 c1 : Nat) (l : List Upd) (since : List Tm) (w : World) (hr0 : Kd.C k61 w A0 l.length l) (hc0 : l.length ≤ c0) (hr1 : Kd.C k59 w A1 since.length since) (hc1 : since.length ≤ c1) (hl : Lim l since) :
  Calls Tryz.prog 12 #[.int .i64 key, .slice A0 l.length c0, .slice A1 since.length c1, .int .i64 weight] w (AV w key weight since (jG key l since)) := by
 have HNew := aA.mk (CK key A0 A1 c0 c1 l since w hr0 hc0 hr1 hc1 hl)
 have b1 : decide (weight < 0) = false := decide_eq_false (by omega)
 clear hr0 hc0 hr1 hc1 hw
 cases hn : (jG key l since).1 with
 | none =>
  obtain ⟨z, hz⟩ : ∃ z, z = (jG key l since).2 := ⟨_, rfl⟩
  have HN : aA (Calls Tryz.prog 9 #[.int .i64 key, .slice A0 l.length c0, .slice A1 since.length c1] w fun e w' => e = .returned (.tuple #[.pointer none, .int .i64 z]) ∧ aA (Below w.heap.size w w')) := ⟨HNew.out.mono fun e w' ⟨vp, q1, q2, q3⟩ => by
   rw [hn] at q3
   subst q3
   rw [hz]
   exact ⟨q1, ⟨q2⟩⟩⟩
  have HG : aA (∀ w', Below w.heap.size w w' → AV w key weight since (jG key l since) (.returned (.tuple #[.pointer none, .int .i64 z])) w') := ⟨fun w' hb => ⟨.pointer none, by rw [hz], hb, by rw [hn]⟩⟩
  clear hn hz HNew
  generalize AV w key weight since (jG key l since) = Post at HG ⊢
  go_enter Tryz.func12, Tryz.ntmps12
  go_wp2_with (go_at_call 9; refine HN.out.mono ?_; rintro e w1 ⟨rfl, HB1⟩)
  exact HG.out _ HB1.out
 | some cl =>
  obtain ⟨_, _, _, _, _, _, _, hz, _⟩ := nQ hn hl
  have HN : aA (Calls Tryz.prog 9 #[.int .i64 key, .slice A0 l.length c0, .slice A1 since.length c1] w fun e w' => ∃ p, e = .returned (.tuple #[.pointer (some ⟨p, 0, none⟩), .int .i64 0]) ∧ aA (fP w' w.heap.size p key l.length since cl) ∧ aA (Below w.heap.size w w')) := ⟨HNew.out.mono fun e w' ⟨vp, q1, q2, q3⟩ => by
   rw [hn] at q3
   obtain ⟨p, rfl, q4⟩ := q3
   rw [hz] at q1
   exact ⟨p, q1, ⟨q4⟩, ⟨q2⟩⟩⟩
  have HG : aA (∀ w' p, Below w.heap.size w w' → fP w' w.heap.size p key weight since cl → AV w key weight since (jG key l since) (.returned (.tuple #[.pointer (some ⟨p, 0, none⟩), .int .i64 0])) w') := ⟨fun w' p hb hm => ⟨.pointer (some ⟨p, 0, none⟩), by rw [hz], hb, by rw [hn]; exact ⟨p, rfl, hm⟩⟩⟩
  clear hn hz HNew
  generalize AV w key weight since (jG key l since) = Post at HG ⊢
  go_enter Tryz.func12, Tryz.ntmps12
  go_wp2_with (go_at_call 9; refine HN.out.mono ?_; rintro e w1 ⟨p, rfl, HM1, HB1⟩; obtain ⟨hp1, hp2, ⟨vx, hp3⟩, hp4⟩ := HM1.out.own)
  exact HG.out _ _ (HB1.out.setCell hp1 _) (HM1.out.weigh weight)
end Go.Proofs.YtpflmgbpjhbmnaaGreat.B
end
section
namespace Go.Proofs.YtpflmgbpjhbmnaaGreat.B
open Go Go.RowKit Go.Proofs Go.Proofs.YtpflmgbpjhbmnaaGreatW.PrintWords Go.Proofs.YtpflmgbpjhbmnaaGreatW.PrintLast Go.Proofs.YtpflmgbpjhbmnaaGreatW.PrintMore Go.Proofs.YtpflmgbpjhbmnaaGreat.Rg
set_option linter.unusedVariables false
set_option linter.unusedSimpArgs false
set_option maxRecDepth 100000
theorem CG {n : Int} (h : (Lit.int .i64 n).wf = true) : okI n := by
 simp only [Lit.wf, Bool.and_eq_true, decide_eq_true_eq] at h
 exact h
theorem wA {key : Int} {l : List Upd} {since : List Tm} (h : (jG key l since).1 = none) : (jG key l since).2 ≠ 0 := by
 unfold jG at h ⊢
 repeat' split at h
 all_goals first | (cases h; done) | skip
 all_goals (repeat' split)
 all_goals first | omega | simp_all
theorem AR (w : World) : aA (∀ W, Below w.heap.size w W → Calls Tryz.prog 8 #[] W fun e w' => e = .returned (.bool true) ∧ aA (Below w.heap.size w w')) :=
 ⟨fun W hW => (sP W).mono fun e w' ⟨q1, q2⟩ => ⟨q1, ⟨hW.trans (q2.mono hW.size)⟩⟩⟩
theorem wB (w : World) (A1 : Option Addr) (c1 : Nat) (l : List Upd) (hr : Kd.C k61 w A1 l.length l) (hc : l.length ≤ c1) (hl : l.length ≤ 9223372036854775807) (b : Bool) (hb : sN l = b) : aA (Calls Tryz.prog 7 #[.slice A1 l.length c1] w fun e w' => e = .returned (.bool b) ∧ aA (Below w.heap.size w w')) := by
 obtain ⟨k, hk⟩ := (AE l hl).rounds
 rw [hb] at hk
 exact ⟨(bL.calls k A1 c1 l b w hr hc hk).mono fun e w' ⟨q1, q2⟩ => ⟨q1, ⟨q2.below⟩⟩⟩
theorem CH (key : Int) (n0 : Nat) (hk : key = n0) (A1 : Option Addr) (c1 : Nat) (l : List Upd) (w : World) (hr1 : Kd.C k61 w A1 l.length l) (hc1 : l.length ≤ c1) (hl : l.length ≤ 1099511627776) (hr : ∀ u ∈ l, u.f0.length ≤ 1099511627776) (hn : ∀ u ∈ l, n0 ≤ u.f0.length) :
  Calls Tryz.prog 16 #[.int .i64 key, .slice A1 l.length c1] w fun e w' => ∃ A c, e = .returned (.slice A (fF n0 l).length c) ∧ (fF n0 l).length ≤ c ∧ Kd.C kV w' A (fF n0 l).length (fF n0 l) ∧ Below w.heap.size w w' := by
 obtain ⟨k, hkk⟩ := (AO key n0 hk l hl hr hn).rounds
 refine (bF.calls k key (fun k => k < w.heap.size) A1 c1 l _ w (Kd.V_mk hc1 (Kd.C_F mZ hr1)) hkk).mono ?_
 rintro e w' ⟨v0, rfl, h1, h2⟩
 obtain ⟨A, c, rfl, h3, h4⟩ := Kd.N_reads h1
 exact ⟨A, c, rfl, h3, h4, h2⟩
theorem AS (key : Int) (n0 : Nat) (hk : key = n0) (A1 : Option Addr) (c1 : Nat) (l : List Upd) (w : World) (hr1 : Kd.C k61 w A1 l.length l) (hc1 : l.length ≤ c1) (hl : l.length ≤ 1099511627776) (hr : ∀ u ∈ l, u.f0.length ≤ 1099511627776) (hn : ∀ u ∈ l, n0 ≤ u.f0.length) :
  Calls Tryz.prog 26 #[.int .i64 key, .slice A1 l.length c1] w fun e w' => ∃ A c, e = .returned (.slice A (eL n0 l).length c) ∧ (eL n0 l).length ≤ c ∧ Kd.C kV w' A (eL n0 l).length (eL n0 l) ∧ Below w.heap.size w w' := by
 obtain ⟨k, hkk⟩ := (xX key n0 hk l hl hr hn).rounds
 refine (bA.calls k key (fun k => k < w.heap.size) A1 c1 l _ w (Kd.V_mk hc1 (Kd.C_F mZ hr1)) hkk).mono ?_
 rintro e w' ⟨v0, rfl, h1, h2⟩
 obtain ⟨A, c, rfl, h3, h4⟩ := Kd.N_reads h1
 exact ⟨A, c, rfl, h3, h4, h2⟩
theorem DG (key : Int) (n0 : Nat) (hk : key = n0) (A1 A2 : Option Addr) (c1 c2 : Nat) (l : List Upd) (r : Row) (w : World) (hr1 : Kd.C k61 w A1 l.length l) (hc1 : l.length ≤ c1) (hr2 : Kd.C k85 w A2 r.length r) (hc2 : r.length ≤ c2) (hl : l.length ≤ 1099511627776) (hr : ∀ u ∈ l, u.f0.length ≤ 1099511627776) (hn : ∀ u ∈ l, n0 ≤ u.f0.length) :
  Calls Tryz.prog 23 #[.int .i64 key, .slice A1 l.length c1, .slice A2 r.length c2] w fun e w' => ∃ A c, e = .returned (.slice A (fJ n0 l r).length c) ∧ (fJ n0 l r).length ≤ c ∧ Kd.C k61 w' A (fJ n0 l r).length (fJ n0 l r) ∧ Below w.heap.size w w' := by
 obtain ⟨k, hkk⟩ := (CB key n0 hk l r hl hr hn).rounds
 refine (bI.calls k key (fun k => k < w.heap.size) A1 c1 l A2 c2 r _ w (Kd.V_mk hc1 (Kd.C_F mZ hr1)) hr2 hc2 hkk).mono ?_
 rintro e w' ⟨v0, rfl, h1, h2⟩
 obtain ⟨A, c, rfl, h3, h4⟩ := Kd.N_reads h1
 exact ⟨A, c, rfl, h3, h4, h2⟩
theorem pK (A1 A2 : Option Addr) (c1 c2 : Nat) (a : List Row) (w : World) (hr1 : Kd.C kV w A1 a.length a) (hc1 : a.length ≤ c1) (hr2 : Kd.C kV w A2 a.length a) (hc2 : a.length ≤ c2) (hl : a.length ≤ 1099511627776) (hr : ∀ x ∈ a, x.length ≤ 9223372036854775807) :
  Calls Tryz.prog 21 #[.slice A1 a.length c1, .slice A2 a.length c2] w fun e w' => e = .returned (.bool true) ∧ Below w.heap.size w w' := by
 obtain ⟨k, hkk⟩ := (qK a hl hr).rounds
 exact aW.calls k A1 c1 a A2 c2 a _ w hr1 hc1 hr2 hc2 hkk
theorem AU (A1 A2 : Option Addr) (c1 c2 : Nat) (a : List Tm) (w : World) (hr1 : Kd.C k59 w A1 a.length a) (hc1 : a.length ≤ c1) (hr2 : Kd.C k59 w A2 a.length a) (hc2 : a.length ≤ c2) (hl : a.length ≤ 1099511627776) :
  Calls Tryz.prog 19 #[.slice A1 a.length c1, .slice A2 a.length c2] w fun e w' => e = .returned (.bool true) ∧ Below w.heap.size w w' := by
 obtain ⟨k, hkk⟩ := (nO a a hl).rounds
 rw [(iH _ _).2 rfl] at hkk
 exact (bB.calls k A1 c1 a A2 c2 a _ w hr1 hc1 hr2 hc2 hkk).mono fun e w' ⟨q1, q2⟩ => ⟨q1, q2.below⟩
structure MB (w W : World) (key n : Int) (since : List Tm) (cl : List Upd) (pb pw : Nat) (A9 : Option Addr) (c9 : Nat) (Ak : Option Addr) (ck : Nat) (ks : List Row) : Prop where
 B : Below w.heap.size w W
 b : ∃ N, fP W N pb key n since cl
 g : ∃ N, fP W N pw key 77 since cl
 x : cl.length ≤ c9 ∧ Kd.C k61 W A9 cl.length cl
 k : ks.length ≤ ck ∧ Kd.C kV W Ak ks.length ks
section
variable {w W W1 : World} {key n : Int} {since : List Tm} {cl : List Upd} {pb pw : Nat} {A9 : Option Addr} {c9 : Nat} {Ak : Option Addr} {ck : Nat} {ks : List Row}
theorem MB.step (h : MB w W key n since cl pb pw A9 c9 Ak ck ks) (hb : Below W.heap.size W W1) : MB w W1 key n since cl pb pw A9 c9 Ak ck ks :=
 ⟨h.B.trans (hb.mono h.B.size), h.b.elim fun N q => ⟨N, q.below hb⟩, h.g.elim fun N q => ⟨N, q.below hb⟩, ⟨h.x.1, Kd.C_below h.x.2 hb⟩, ⟨h.k.1, Kd.C_below h.k.2 hb⟩⟩
end
set_option maxHeartbeats 8000000 in
theorem batchMakes_walk (w : World) (a : Int) (wa : (Lit.int .i64 a).wf = true) (A1 : Option Addr) (c1 : Nat) (l1 : List Upd) (hr1 : Kd.C k61 w A1 l1.length l1) (hc1 : l1.length ≤ c1) (g1 : GL GU l1) (A2 : Option Addr) (c2 : Nat) (l2 : List Tm) (hr2 : Kd.C k59 w A2 l2.length l2) (hc2 : l2.length ≤ c2) (g2 : GL GT l2) :
  Calls Tryz.prog 3 #[.int .i64 a, .slice A1 l1.length c1, .slice A2 l2.length c2] w fun e w' => e = .returned (.bool true) ∧ Below w.heap.size w w' := by
 have HLive := AR w
 have hl1 := g1.1
 have hd : ∀ u ∈ l1, okI u.f2 := fun u hu => CG (g1.2 u hu).2.2
 cases hm : sN l1 with
 | true =>
  have HMuch := wB w A1 c1 l1 hr1 hc1 hl1 true hm
  clear hr1 hr2 hm g1 g2 hd
  go_enter Tryz.func3, Tryz.ntmps3
  go_wp2_with (first
   | (go_at_call 7; refine HMuch.out.mono ?_; rintro e w1 ⟨rfl, HB1⟩)
   | (go_at_call 8; refine (HLive.out _ HB1.out).mono ?_; rintro e w2 ⟨rfl, HB2⟩))
  go_ret
  exact ⟨rfl, HB2.out⟩
 | false =>
  have HMuch := wB w A1 c1 l1 hr1 hc1 hl1 false hm
  obtain ⟨hn1, hn2⟩ := xO hm
  by_cases hs : 30 < l2.length
  ·have b1 : decide (30 < (l2.length : Int)) = true := decide_eq_true (by omega)
   have b2 : decide (30 < l2.length) = true := decide_eq_true hs
   clear hr1 hr2 hm g1 g2 hn2 hd
   go_enter Tryz.func3, Tryz.ntmps3
   go_wp2_with (first
    | (go_at_call 7; refine HMuch.out.mono ?_; rintro e w1 ⟨rfl, HB1⟩)
    | (go_at_call 8; refine (HLive.out _ HB1.out).mono ?_; rintro e w2 ⟨rfl, HB2⟩))
   go_ret
   exact ⟨rfl, HB2.out⟩
  ·have b1 : decide (30 < (l2.length : Int)) = false := decide_eq_false (by omega)
   have b2 : decide (30 < l2.length) = false := decide_eq_false hs
   have HCode : aA (∀ W z, Below w.heap.size w W → Calls Tryz.prog 11 #[.int .i64 z] W fun e w' => e = .returned (.int .i64 z) ∧ aA (Below w.heap.size w w') ∧ aA (Below W.heap.size W w')) :=
    ⟨fun W z hW => (eN.calls z z W rfl).mono fun e w' ⟨q1, q2⟩ => ⟨q1, ⟨hW.trans (q2.below.mono hW.size)⟩, ⟨q2.below⟩⟩⟩
   have hlim : Lim l1 l2 := ⟨by omega, fun u hu => by have := hn2 u hu; omega, by omega⟩
   have hcols : ∀ u ∈ l1, u.f0.length ≤ 1099511627776 := hlim.r
   cases hnu : (jG a l1 l2).1 with
   | none =>
    have hz := wA hnu
    obtain ⟨z, hzz⟩ : ∃ z, z = (jG a l1 l2).2 := ⟨_, rfl⟩
    rw [← hzz] at hz
    have HNone : aA (∀ W, Below w.heap.size w W → Calls Tryz.prog 9 #[.int .i64 a, .slice A1 l1.length c1, .slice A2 l2.length c2] W fun e w' => e = .returned (.tuple #[.pointer none, .int .i64 z]) ∧ aA (Below w.heap.size w w')) := ⟨fun W hW => (CK a A1 A2 c1 c2 l1 l2 W (Kd.C_below hr1 hW) hc1 (Kd.C_below hr2 hW) hc2 hlim).mono fun e w' ⟨vp, q1, q2, q3⟩ => by
     rw [hnu] at q3
     subst q3
     rw [hzz]
     exact ⟨q1, ⟨hW.trans (q2.mono hW.size)⟩⟩⟩
    have HRN : aA (∀ W, Below w.heap.size w W → Calls Tryz.prog 10 #[.int .i64 a, .slice A1 l1.length c1, .slice A2 l2.length c2] W fun e w' => ∃ A c m, e = .returned (.tuple #[.slice A m c, .int .i64 z]) ∧ aA (Below w.heap.size w w')) := ⟨fun W hW => (CF a A1 A2 c1 c2 l1 l2 W (Kd.C_below hr1 hW) hc1 (Kd.C_below hr2 hW) hc2 (by omega) hcols (by omega) hd).mono fun e w' ⟨A, c, q1, q2, q3, q4⟩ => by
     refine ⟨A, c, (mU a l1 l2).1.length, ?_, ⟨hW.trans (q4.mono hW.size)⟩⟩
     rw [hzz]
     exact q1⟩
    have z1 : (z != 0) = true := by simpa using hz
    have z2 : (z == 0) = false := by simpa using hz
    have z3 : decide (z = 0) = false := decide_eq_false hz
    have z4 : (z != z) = false := by simp
    clear hr1 hr2 hm g1 g2 hn2 hnu hzz hlim hz hd hcols
    go_enter Tryz.func3, Tryz.ntmps3
    go_wp2_with (first
     | (go_at_call 7; refine HMuch.out.mono ?_; rintro e w1 ⟨rfl, HB1⟩)
     | (go_at_call 9; refine (HNone.out _ HB1.out).mono ?_; rintro e w4 ⟨rfl, HB4⟩)
     | (go_at_call 10; refine (HRN.out _ HB4.out).mono ?_; rintro e w3 ⟨A3, c3, m3, rfl, HB3⟩)
     | (go_at_call 11; refine (HCode.out _ _ HB3.out).mono ?_; rintro e w5 ⟨rfl, HB5, _⟩)
     | (go_at_call 8; refine (HLive.out _ HB5.out).mono ?_; rintro e w2 ⟨rfl, HB2⟩))
    go_ret
    exact ⟨rfl, HB2.out⟩
   | some cl =>
    obtain ⟨hcl, hk0, hk16, hkl, hck, hcle, _, hz, hrows⟩ := nQ hnu hlim
    have hnr : mU a l1 l2 = (cl, 0) := by unfold mU; rw [hnu, hz]; rfl
    have hcn60 : cl.length ≤ 60 := by
     rw [hcle]
     have h1 := lG (if l2.length = 0 then l1 else fK l1 l2)
     have h2 : (if l2.length = 0 then l1 else fK l1 l2).length = l1.length := by split <;> simp [fK]
     omega
    have hbg := DL a l1.length l2 cl hcl.r
    obtain ⟨n0, hn0⟩ : ∃ n0, n0 = a.toNat := ⟨_, rfl⟩
    have han : a = (n0 : Int) := by omega
    have hlen : ∀ u ∈ cl, n0 ≤ u.f0.length := fun u hu => by
     obtain ⟨v, hv, e⟩ := hrows u hu
     have := hkl v hv
     rw [e]; omega
    have hsrt : cl.Pairwise fun x y => dV x.f0 y.f0 ≤ 0 := by rw [hcle]; exact vS _
    have hgi := AN n0 cl hsrt hlen
    obtain ⟨g, hg⟩ : ∃ g, g = iR a.toNat cl := ⟨_, rfl⟩
    rw [hn0, ← hg] at hgi
    obtain ⟨ks, hks⟩ : ∃ ks, ks = fF n0 cl := ⟨_, rfl⟩
    have hkg : ks = g.map (·.1) := by rw [hks, hn0]; exact hgi.keys.symm
    have hkl2 : ks.length = g.length := by rw [hkg, List.length_map]
    have hgl : g.length ≤ 60 := by have := rM hbg; rw [← hg] at this; omega
    obtain ⟨xs, hxs⟩ : ∃ xs, xs = AA g := ⟨_, rfl⟩
    have hxsame : fR xs cl = true := by rw [hxs, hg]; exact (vP a.toNat cl).2
    have hxlen : xs.length = cl.length := jD _ _ hxsame
    have hcut : ∀ (i : Nat) (x : List S85 × List Rst), g[i]? = some x → x ∈ g := fun i x h => List.mem_of_getElem? h
    -- lengths of rows of what is told
    have hgw : ∀ x ∈ g, x.1.length ≤ 1099511627776 := by rw [hg]; exact hbg.wk
    have hgr : ∀ y ∈ g.flatMap (·.2), y.1.length ≤ 1099511627776 := by rw [hg]; exact hbg.wr
    have hrunr : ∀ x ∈ g, ∀ u ∈ fW x, u.f0.length ≤ 9223372036854775807 := fun x hx u hu => by
     unfold fW at hu
     obtain ⟨y, hy, hu⟩ := List.mem_flatMap.1 hu
     unfold mP at hu
     obtain ⟨q, _, rfl⟩ := List.mem_map.1 hu
     have h1 := hgw x hx
     have h2 := hgr y (List.mem_flatMap.2 ⟨x, hx, hy⟩)
     show (x.1 ++ y.1).length ≤ _
     rw [List.length_append]; omega
    have hxr : ∀ u ∈ xs, u.f0.length ≤ 9223372036854775807 := fun u hu => by
     rw [hxs] at hu
     obtain ⟨x, hx, hu⟩ := List.mem_flatMap.1 hu
     exact hrunr x hx u hu
    have hrunl : ∀ x ∈ g, (fJ n0 cl x.1).length ≤ 60 ∧ (fW x).length ≤ 60 ∧ (x.2.map (·.1)).length ≤ 60 := fun x hx => by
     have h1 := List.length_filter_le (fun u : Upd => dK (u.f0.take n0) x.1) cl
     have h2 := jD _ _ (hgi.run x hx).1
     have h3 := pH n0 (fJ n0 cl x.1) 1099511627776 (fun u hu => hcl.r u ((List.mem_filter.1 hu).1))
     have h4 := (hgi.run x hx).2
     rw [hn0] at h1 h3 ⊢
     rw [← h4]
     unfold fJ at *
     omega
    have HNew : aA (∀ W, Below w.heap.size w W → Calls Tryz.prog 9 #[.int .i64 a, .slice A1 l1.length c1, .slice A2 l2.length c2] W fun e w' => ∃ p, e = .returned (.tuple #[.pointer (some ⟨p, 0, none⟩), .int .i64 0]) ∧ aA (∃ N, fP w' N p a l1.length l2 cl) ∧ aA (Below w.heap.size w w')) := ⟨fun W hW => (CK a A1 A2 c1 c2 l1 l2 W (Kd.C_below hr1 hW) hc1 (Kd.C_below hr2 hW) hc2 hlim).mono fun e w' ⟨vp, q1, q2, q3⟩ => by
     rw [hnu] at q3
     obtain ⟨p, rfl, q4⟩ := q3
     rw [hz] at q1
     exact ⟨p, q1, ⟨⟨_, q4⟩⟩, ⟨hW.trans (q2.mono hW.size)⟩⟩⟩
    have HRN : aA (∀ W p, Below w.heap.size w W → (∃ N, fP W N p a l1.length l2 cl) → Calls Tryz.prog 10 #[.int .i64 a, .slice A1 l1.length c1, .slice A2 l2.length c2] W fun e w' => ∃ A9 c9, e = .returned (.tuple #[.slice A9 cl.length c9, .int .i64 0]) ∧ aA (∃ N, fP w' N p a l1.length l2 cl) ∧ aA (Below w.heap.size w w') ∧ aA (cl.length ≤ c9 ∧ Kd.C k61 w' A9 cl.length cl)) := ⟨fun W p hW ⟨N, hM⟩ => (CF a A1 A2 c1 c2 l1 l2 W (Kd.C_below hr1 hW) hc1 (Kd.C_below hr2 hW) hc2 (by omega) hcols (by omega) hd).mono fun e w' ⟨A, c, q1, q2, q3, q4⟩ => by
     rw [hnr] at q1 q2 q3
     exact ⟨A, c, q1, ⟨⟨N, hM.below q4⟩⟩, ⟨hW.trans (q4.mono hW.size)⟩, ⟨q2, q3⟩⟩⟩
    have HCode0 : aA (∀ W p A9 c9, Below w.heap.size w W → (∃ N, fP W N p a l1.length l2 cl) → (cl.length ≤ c9 ∧ Kd.C k61 W A9 cl.length cl) → Calls Tryz.prog 11 #[.int .i64 0] W fun e w' => e = .returned (.int .i64 0) ∧ aA (Below w.heap.size w w') ∧ aA (∃ N, fP w' N p a l1.length l2 cl) ∧ aA (cl.length ≤ c9 ∧ Kd.C k61 w' A9 cl.length cl)) := ⟨fun W p A9 c9 hW ⟨N, hM⟩ hx => (HCode.out W 0 hW).mono fun e w' ⟨q1, q2, q3⟩ => ⟨q1, q2, ⟨⟨N, hM.below q3.out⟩⟩, ⟨hx.1, Kd.C_below hx.2 q3.out⟩⟩⟩
    have HW77 : aA (∀ W p A9 c9, Below w.heap.size w W → (∃ N, fP W N p a l1.length l2 cl) → (cl.length ≤ c9 ∧ Kd.C k61 W A9 cl.length cl) → Calls Tryz.prog 12 #[.int .i64 a, .slice A1 l1.length c1, .slice A2 l2.length c2, .int .i64 77] W fun e w' => ∃ pw, e = .returned (.tuple #[.pointer (some ⟨pw, 0, none⟩), .int .i64 0]) ∧ aA (MB w w' a l1.length l2 cl p pw A9 c9 none 0 [])) := ⟨fun W p A9 c9 hW ⟨N, hM⟩ hx => (yC a 77 (by omega) A1 A2 c1 c2 l1 l2 W (Kd.C_below hr1 hW) hc1 (Kd.C_below hr2 hW) hc2 hlim).mono fun e w' ⟨vp, q1, q2, q3⟩ => by
     rw [hnu] at q3
     obtain ⟨pw, rfl, q4⟩ := q3
     rw [hz] at q1
     exact ⟨pw, q1, ⟨hW.trans (q2.mono hW.size), ⟨N, hM.below q2⟩, ⟨_, q4⟩, ⟨hx.1, Kd.C_below hx.2 q2⟩, ⟨Nat.le_refl _, Kd.C_nil _ _⟩⟩⟩⟩
    have HWneg : aA (∀ W p pw A9 c9, MB w W a l1.length l2 cl p pw A9 c9 none 0 [] → Calls Tryz.prog 12 #[.int .i64 a, .slice A1 l1.length c1, .slice A2 l2.length c2, .int .i64 (-1)] W fun e w' => e = .returned (.tuple #[.pointer none, .int .i64 1]) ∧ aA (MB w w' a l1.length l2 cl p pw A9 c9 none 0 [])) := ⟨fun W p pw A9 c9 h => (qM a (-1) (by omega) _ _ W).mono fun e w' ⟨q1, q2⟩ => ⟨q1, ⟨h.step q2⟩⟩⟩
    have HCodeM : aA (∀ W z p pw A9 c9 Ak ck kk, MB w W a l1.length l2 cl p pw A9 c9 Ak ck kk → Calls Tryz.prog 11 #[.int .i64 z] W fun e w' => e = .returned (.int .i64 z) ∧ aA (MB w w' a l1.length l2 cl p pw A9 c9 Ak ck kk)) := ⟨fun W z p pw A9 c9 Ak ck kk h => (HCode.out W z h.B).mono fun e w' ⟨q1, q2, q3⟩ => ⟨q1, ⟨h.step q3.out⟩⟩⟩
    have HWtW : aA (∀ W p pw A9 c9 Ak ck kk, MB w W a l1.length l2 cl p pw A9 c9 Ak ck kk → Calls Tryz.prog 13 #[.pointer (some ⟨pw, 0, none⟩)] W fun e w' => e = .returned (.int .i64 77) ∧ aA (MB w w' a l1.length l2 cl p pw A9 c9 Ak ck kk)) := ⟨fun W p pw A9 c9 Ak ck kk h => by
     obtain ⟨N, hM⟩ := h.g
     exact (qF hM).mono fun e w' ⟨q1, q2⟩ => ⟨q1, ⟨h.step q2⟩⟩⟩
    have HWtB : aA (∀ W p pw A9 c9 Ak ck kk, MB w W a l1.length l2 cl p pw A9 c9 Ak ck kk → Calls Tryz.prog 13 #[.pointer (some ⟨p, 0, none⟩)] W fun e w' => e = .returned (.int .i64 l1.length) ∧ aA (MB w w' a l1.length l2 cl p pw A9 c9 Ak ck kk)) := ⟨fun W p pw A9 c9 Ak ck kk h => by
     obtain ⟨N, hM⟩ := h.b
     exact (qF hM).mono fun e w' ⟨q1, q2⟩ => ⟨q1, ⟨h.step q2⟩⟩⟩
    have HUpsW : aA (∀ W p pw A9 c9 Ak ck kk, MB w W a l1.length l2 cl p pw A9 c9 Ak ck kk → Calls Tryz.prog 15 #[.pointer (some ⟨pw, 0, none⟩)] W fun e w' => ∃ A c, e = .returned (.slice A xs.length c) ∧ aA (MB w w' a l1.length l2 cl p pw A9 c9 Ak ck kk) ∧ aA (xs.length ≤ c ∧ Kd.C k61 w' A xs.length xs)) := ⟨fun W p pw A9 c9 Ak ck kk h => by
     obtain ⟨N, hM⟩ := h.g
     refine (DN hM).mono fun e w' ⟨v0, q1, q2, q3⟩ => ?_
     rw [← hg, ← hxs] at q2
     obtain ⟨A, c, rfl, r1, r2⟩ := Kd.S_reads q2
     exact ⟨A, c, q1, ⟨h.step q3⟩, ⟨r1, r2⟩⟩⟩
    have HUpsB : aA (∀ W p pw A9 c9 Ak ck kk, MB w W a l1.length l2 cl p pw A9 c9 Ak ck kk → Calls Tryz.prog 15 #[.pointer (some ⟨p, 0, none⟩)] W fun e w' => ∃ A c, e = .returned (.slice A xs.length c) ∧ aA (MB w w' a l1.length l2 cl p pw A9 c9 Ak ck kk) ∧ aA (xs.length ≤ c ∧ Kd.C k61 w' A xs.length xs)) := ⟨fun W p pw A9 c9 Ak ck kk h => by
     obtain ⟨N, hM⟩ := h.b
     refine (DN hM).mono fun e w' ⟨v0, q1, q2, q3⟩ => ?_
     rw [← hg, ← hxs] at q2
     obtain ⟨A, c, rfl, r1, r2⟩ := Kd.S_reads q2
     exact ⟨A, c, q1, ⟨h.step q3⟩, ⟨r1, r2⟩⟩⟩
    have HSameX : aA (∀ W A c p pw A9 c9 Ak ck kk, MB w W a l1.length l2 cl p pw A9 c9 Ak ck kk → (xs.length ≤ c ∧ Kd.C k61 W A xs.length xs) → Calls Tryz.prog 14 #[.slice A xs.length c, .slice A9 cl.length c9] W fun e w' => e = .returned (.bool true) ∧ aA (MB w w' a l1.length l2 cl p pw A9 c9 Ak ck kk)) := ⟨fun W A c p pw A9 c9 Ak ck kk h hx => (CC A A9 c c9 xs cl W hx.2 hx.1 h.x.2 h.x.1 (by omega) hxr hxsame).mono fun e w' ⟨q1, q2⟩ => ⟨q1, ⟨h.step q2⟩⟩⟩
    have HKeysR : aA (∀ W p pw A9 c9, MB w W a l1.length l2 cl p pw A9 c9 none 0 [] → Calls Tryz.prog 16 #[.int .i64 a, .slice A9 cl.length c9] W fun e w' => ∃ Ak ck, e = .returned (.slice Ak ks.length ck) ∧ aA (MB w w' a l1.length l2 cl p pw A9 c9 Ak ck ks)) := ⟨fun W p pw A9 c9 h => (CH a n0 han A9 c9 cl W h.x.2 h.x.1 (by omega) hcl.r hlen).mono fun e w' ⟨A, c, q1, q2, q3, q4⟩ => by
     rw [← hks] at q1 q2 q3
     have h2 := h.step q4
     exact ⟨A, c, q1, ⟨h2.B, h2.b, h2.g, h2.x, ⟨q2, q3⟩⟩⟩⟩
    have HLen : aA (∀ W p pw A9 c9 Ak ck kk, MB w W a l1.length l2 cl p pw A9 c9 Ak ck kk → Calls Tryz.prog 17 #[.pointer (some ⟨p, 0, none⟩)] W fun e w' => e = .returned (.int .i64 cl.length) ∧ aA (MB w w' a l1.length l2 cl p pw A9 c9 Ak ck kk)) := ⟨fun W p pw A9 c9 Ak ck kk h => by
     obtain ⟨N, hM⟩ := h.b
     exact (DM hM).mono fun e w' ⟨q1, q2⟩ => ⟨q1, ⟨h.step q2⟩⟩⟩
    have HKey : aA (∀ W p pw A9 c9 Ak ck kk, MB w W a l1.length l2 cl p pw A9 c9 Ak ck kk → Calls Tryz.prog 18 #[.pointer (some ⟨p, 0, none⟩)] W fun e w' => e = .returned (.int .i64 a) ∧ aA (MB w w' a l1.length l2 cl p pw A9 c9 Ak ck kk)) := ⟨fun W p pw A9 c9 Ak ck kk h => by
     obtain ⟨N, hM⟩ := h.b
     exact (DU hM).mono fun e w' ⟨q1, q2⟩ => ⟨q1, ⟨h.step q2⟩⟩⟩
    have HSince : aA (∀ W p pw A9 c9 Ak ck kk, MB w W a l1.length l2 cl p pw A9 c9 Ak ck kk → Calls Tryz.prog 20 #[.pointer (some ⟨p, 0, none⟩)] W fun e w' => ∃ A c, e = .returned (.slice A l2.length c) ∧ aA (MB w w' a l1.length l2 cl p pw A9 c9 Ak ck kk) ∧ aA (l2.length ≤ c ∧ Kd.C k59 w' A l2.length l2)) := ⟨fun W p pw A9 c9 Ak ck kk h => by
     obtain ⟨N, hM⟩ := h.b
     refine (BT hM).mono fun e w' ⟨v0, q1, q2, q3⟩ => ?_
     obtain ⟨A, c, rfl, r1, r2⟩ := Kd.R_reads q2
     exact ⟨A, c, q1, ⟨h.step q3⟩, ⟨r1, r2⟩⟩⟩
    have HSameT : aA (∀ W A c p pw A9 c9 Ak ck kk, MB w W a l1.length l2 cl p pw A9 c9 Ak ck kk → (l2.length ≤ c ∧ Kd.C k59 W A l2.length l2) → Calls Tryz.prog 19 #[.slice A l2.length c, .slice A2 l2.length c2] W fun e w' => e = .returned (.bool true) ∧ aA (MB w w' a l1.length l2 cl p pw A9 c9 Ak ck kk)) := ⟨fun W A c p pw A9 c9 Ak ck kk h hx => (AU A A2 c c2 l2 W hx.2 hx.1 (Kd.C_below hr2 h.B) hc2 (by omega)).mono fun e w' ⟨q1, q2⟩ => ⟨q1, ⟨h.step q2⟩⟩⟩
    have HKeysB : aA (∀ W p pw A9 c9 Ak ck kk, MB w W a l1.length l2 cl p pw A9 c9 Ak ck kk → Calls Tryz.prog 22 #[.pointer (some ⟨p, 0, none⟩)] W fun e w' => ∃ A c, e = .returned (.slice A ks.length c) ∧ aA (MB w w' a l1.length l2 cl p pw A9 c9 Ak ck kk) ∧ aA (ks.length ≤ c ∧ Kd.C kV w' A ks.length ks)) := ⟨fun W p pw A9 c9 Ak ck kk h => by
     obtain ⟨N, hM⟩ := h.b
     refine (BU hM).mono fun e w' ⟨v0, q1, q2, q3⟩ => ?_
     rw [← hg, ← hkg] at q2
     obtain ⟨A, c, rfl, r1, r2⟩ := Kd.S_reads q2
     exact ⟨A, c, q1, ⟨h.step q3⟩, ⟨r1, r2⟩⟩⟩
    have hksr : ∀ x ∈ ks, x.length ≤ 9223372036854775807 := fun x hx => by
     rw [hkg] at hx
     obtain ⟨y, hy, rfl⟩ := List.mem_map.1 hx
     have := hgw y hy; omega
    have HSameK : aA (∀ W A c p pw A9 c9 Ak ck, MB w W a l1.length l2 cl p pw A9 c9 Ak ck ks → (ks.length ≤ c ∧ Kd.C kV W A ks.length ks) → Calls Tryz.prog 21 #[.slice A ks.length c, .slice Ak ks.length ck] W fun e w' => e = .returned (.bool true) ∧ aA (MB w w' a l1.length l2 cl p pw A9 c9 Ak ck ks)) := ⟨fun W A c p pw A9 c9 Ak ck h hx => (pK A Ak c ck ks W hx.2 hx.1 h.k.2 h.k.1 (by omega) hksr).mono fun e w' ⟨q1, q2⟩ => ⟨q1, ⟨h.step q2⟩⟩⟩
    -- one key
    have HRunR : aA (∀ i (hi : i < g.length) W p pw A9 c9 Ak ck Ax cx, MB w W a l1.length l2 cl p pw A9 c9 Ak ck ks → (g[i].1.length ≤ cx ∧ Kd.C k85 W Ax g[i].1.length g[i].1) → Calls Tryz.prog 23 #[.int .i64 a, .slice A9 cl.length c9, .slice Ax g[i].1.length cx] W fun e w' => ∃ A c, e = .returned (.slice A (fJ n0 cl g[i].1).length c) ∧ aA (MB w w' a l1.length l2 cl p pw A9 c9 Ak ck ks) ∧ aA ((fJ n0 cl g[i].1).length ≤ c ∧ Kd.C k61 w' A (fJ n0 cl g[i].1).length (fJ n0 cl g[i].1))) := ⟨fun i hi W p pw A9 c9 Ak ck Ax cx h hx => (DG a n0 han A9 Ax c9 cx cl g[i].1 W h.x.2 h.x.1 hx.2 hx.1 (by omega) hcl.r hlen).mono fun e w' ⟨A, c, q1, q2, q3, q4⟩ => ⟨A, c, q1, ⟨h.step q4⟩, ⟨q2, q3⟩⟩⟩
    have HRunB : aA (∀ i (hi : i < g.length) W p pw A9 c9 Ak ck Ar cr, MB w W a l1.length l2 cl p pw A9 c9 Ak ck ks → ((fJ n0 cl g[i].1).length ≤ cr ∧ Kd.C k61 W Ar (fJ n0 cl g[i].1).length (fJ n0 cl g[i].1)) → Calls Tryz.prog 24 #[.pointer (some ⟨p, 0, none⟩), .int .i64 i] W fun e w' => ∃ A c, e = .returned (.slice A (fW g[i]).length c) ∧ aA (MB w w' a l1.length l2 cl p pw A9 c9 Ak ck ks) ∧ aA ((fJ n0 cl g[i].1).length ≤ cr ∧ Kd.C k61 w' Ar (fJ n0 cl g[i].1).length (fJ n0 cl g[i].1)) ∧ aA ((fW g[i]).length ≤ c ∧ Kd.C k61 w' A (fW g[i]).length (fW g[i]))) := ⟨fun i hi W p pw A9 c9 Ak ck Ar cr h hr => by
     obtain ⟨N, hM⟩ := h.b
     refine (DV hM i (by rw [← hg]; exact hi)).mono fun e w' ⟨v0, q1, q2, q3⟩ => ?_
     have e3 : (iR a.toNat cl)[i]'(by rw [← hg]; exact hi) = g[i] := by simp only [hg]
     rw [e3] at q2
     obtain ⟨A, c, rfl, r1, r2⟩ := Kd.S_reads q2
     exact ⟨A, c, q1, ⟨h.step q3⟩, ⟨hr.1, Kd.C_below hr.2 q3⟩, ⟨r1, r2⟩⟩⟩
    have HSameRn : aA (∀ i (hi : i < g.length) W p pw A9 c9 Ak ck Ar cr A c, MB w W a l1.length l2 cl p pw A9 c9 Ak ck ks → ((fJ n0 cl g[i].1).length ≤ cr ∧ Kd.C k61 W Ar (fJ n0 cl g[i].1).length (fJ n0 cl g[i].1)) → ((fW g[i]).length ≤ c ∧ Kd.C k61 W A (fW g[i]).length (fW g[i])) → Calls Tryz.prog 14 #[.slice A (fW g[i]).length c, .slice Ar (fJ n0 cl g[i].1).length cr] W fun e w' => e = .returned (.bool true) ∧ aA (MB w w' a l1.length l2 cl p pw A9 c9 Ak ck ks) ∧ aA ((fJ n0 cl g[i].1).length ≤ cr ∧ Kd.C k61 w' Ar (fJ n0 cl g[i].1).length (fJ n0 cl g[i].1))) := ⟨fun i hi W p pw A9 c9 Ak ck Ar cr A c h hr hx => by
     have h9 := hrunl g[i] (List.getElem_mem hi)
     have h10 := (hgi.run g[i] (List.getElem_mem hi)).1
     rw [← hn0] at h10
     exact (CC A Ar c cr (fW g[i]) (fJ n0 cl g[i].1) W hx.2 hx.1 hr.2 hr.1 (by omega) (hrunr g[i] (List.getElem_mem hi)) h10).mono fun e w' ⟨q1, q2⟩ => ⟨q1, ⟨h.step q2⟩, ⟨hr.1, Kd.C_below hr.2 q2⟩⟩⟩
    have HRestsB : aA (∀ i (hi : i < g.length) W p pw A9 c9 Ak ck Ar cr, MB w W a l1.length l2 cl p pw A9 c9 Ak ck ks → ((fJ n0 cl g[i].1).length ≤ cr ∧ Kd.C k61 W Ar (fJ n0 cl g[i].1).length (fJ n0 cl g[i].1)) → Calls Tryz.prog 25 #[.pointer (some ⟨p, 0, none⟩), .int .i64 i] W fun e w' => ∃ A c, e = .returned (.slice A (g[i].2.map (·.1)).length c) ∧ aA (MB w w' a l1.length l2 cl p pw A9 c9 Ak ck ks) ∧ aA ((fJ n0 cl g[i].1).length ≤ cr ∧ Kd.C k61 w' Ar (fJ n0 cl g[i].1).length (fJ n0 cl g[i].1)) ∧ aA ((g[i].2.map (·.1)).length ≤ c ∧ Kd.C kV w' A (g[i].2.map (·.1)).length (g[i].2.map (·.1)))) := ⟨fun i hi W p pw A9 c9 Ak ck Ar cr h hr => by
     obtain ⟨N, hM⟩ := h.b
     refine (yP hM i (by rw [← hg]; exact hi)).mono fun e w' ⟨v0, q1, q2, q3⟩ => ?_
     have e3 : (iR a.toNat cl)[i]'(by rw [← hg]; exact hi) = g[i] := by simp only [hg]
     rw [e3] at q2
     obtain ⟨A, c, rfl, r1, r2⟩ := Kd.S_reads q2
     exact ⟨A, c, q1, ⟨h.step q3⟩, ⟨hr.1, Kd.C_below hr.2 q3⟩, ⟨r1, r2⟩⟩⟩
    have HRestsR : aA (∀ i (hi : i < g.length) W p pw A9 c9 Ak ck Ar cr A c, MB w W a l1.length l2 cl p pw A9 c9 Ak ck ks → ((fJ n0 cl g[i].1).length ≤ cr ∧ Kd.C k61 W Ar (fJ n0 cl g[i].1).length (fJ n0 cl g[i].1)) → ((g[i].2.map (·.1)).length ≤ c ∧ Kd.C kV W A (g[i].2.map (·.1)).length (g[i].2.map (·.1))) → Calls Tryz.prog 26 #[.int .i64 a, .slice Ar (fJ n0 cl g[i].1).length cr] W fun e w' => ∃ A' c', e = .returned (.slice A' (g[i].2.map (·.1)).length c') ∧ aA (MB w w' a l1.length l2 cl p pw A9 c9 Ak ck ks) ∧ aA ((g[i].2.map (·.1)).length ≤ c ∧ Kd.C kV w' A (g[i].2.map (·.1)).length (g[i].2.map (·.1))) ∧ aA ((g[i].2.map (·.1)).length ≤ c' ∧ Kd.C kV w' A' (g[i].2.map (·.1)).length (g[i].2.map (·.1)))) := ⟨fun i hi W p pw A9 c9 Ak ck Ar cr A c h hr hx => by
     have h9 := hrunl g[i] (List.getElem_mem hi)
     have h10 := (hgi.run g[i] (List.getElem_mem hi)).2
     rw [← hn0] at h10
     refine (AS a n0 han Ar cr (fJ n0 cl g[i].1) W hr.2 hr.1 (by omega) (fun u hu => hcl.r u ((List.mem_filter.1 hu).1)) (fun u hu => hlen u ((List.mem_filter.1 hu).1))).mono fun e w' ⟨A', c', q1, q2, q3, q4⟩ => ?_
     rw [h10] at q1 q2 q3
     exact ⟨A', c', q1, ⟨h.step q4⟩, ⟨hx.1, Kd.C_below hx.2 q4⟩, ⟨q2, q3⟩⟩⟩
    have HSameRs : aA (∀ i (hi : i < g.length) W p pw A9 c9 Ak ck A c A' c', MB w W a l1.length l2 cl p pw A9 c9 Ak ck ks → ((g[i].2.map (·.1)).length ≤ c ∧ Kd.C kV W A (g[i].2.map (·.1)).length (g[i].2.map (·.1))) → ((g[i].2.map (·.1)).length ≤ c' ∧ Kd.C kV W A' (g[i].2.map (·.1)).length (g[i].2.map (·.1))) → Calls Tryz.prog 21 #[.slice A (g[i].2.map (·.1)).length c, .slice A' (g[i].2.map (·.1)).length c'] W fun e w' => e = .returned (.bool true) ∧ aA (MB w w' a l1.length l2 cl p pw A9 c9 Ak ck ks)) := ⟨fun i hi W p pw A9 c9 Ak ck A c A' c' h hx hy => by
     have h9 := hrunl g[i] (List.getElem_mem hi)
     refine (pK A A' c c' _ W hx.2 hx.1 hy.2 hy.1 (by omega) (fun x hx => ?_)).mono fun e w' ⟨q1, q2⟩ => ⟨q1, ⟨h.step q2⟩⟩
     obtain ⟨y, hy, rfl⟩ := List.mem_map.1 hx
     have := hgr y (List.mem_flatMap.2 ⟨g[i], List.getElem_mem hi, hy⟩)
     omega⟩
    -- places that are none
    have HRunN : aA (∀ j, (¬ (0 ≤ j ∧ j < (ks.length : Int))) → ∀ W p pw A9 c9 Ak ck, MB w W a l1.length l2 cl p pw A9 c9 Ak ck ks → Calls Tryz.prog 24 #[.pointer (some ⟨p, 0, none⟩), .int .i64 j] W fun e w' => e = .returned (.slice none 0 0) ∧ aA (MB w w' a l1.length l2 cl p pw A9 c9 Ak ck ks)) := ⟨fun j hj W p pw A9 c9 Ak ck h => by
     obtain ⟨N, hM⟩ := h.b
     exact (AF hM j (by rw [← hg, ← hkl2]; exact hj)).mono fun e w' ⟨q1, q2⟩ => ⟨q1, ⟨h.step q2⟩⟩⟩
    have HRestsN : aA (∀ j, (¬ (0 ≤ j ∧ j < (ks.length : Int))) → ∀ W p pw A9 c9 Ak ck, MB w W a l1.length l2 cl p pw A9 c9 Ak ck ks → Calls Tryz.prog 25 #[.pointer (some ⟨p, 0, none⟩), .int .i64 j] W fun e w' => e = .returned (.slice none 0 0) ∧ aA (MB w w' a l1.length l2 cl p pw A9 c9 Ak ck ks)) := ⟨fun j hj W p pw A9 c9 Ak ck h => by
     obtain ⟨N, hM⟩ := h.b
     exact (vG hM j (by rw [← hg, ← hkl2]; exact hj)).mono fun e w' ⟨q1, q2⟩ => ⟨q1, ⟨h.step q2⟩⟩⟩
    have HG := aA.mk (And.intro hkg (And.intro hkl2 hgl))
    clear hr1 hr2 hm g1 g2 hn2 hnu hlim hd hcols hcl hk0 hk16 hkl hck hcle hz hrows hnr hcn60 hbg hn0 han hlen hsrt hgi hg hks hkg hkl2 hgl hxs hxsame hxlen hcut hgw hgr hrunr hxr hrunl hksr
    have HX := aA.mk trivial
    go_enter Tryz.func3, Tryz.ntmps3
    go_wp2_with (first
     | (go_at_call 7; refine HMuch.out.mono ?_; rintro e w1 ⟨rfl, HB1⟩)
     | (go_at_call 9; refine (HNew.out _ HB1.out).mono ?_; rintro e w2 ⟨p, rfl, HM2, HB2⟩)
     | (go_at_call 10; refine (HRN.out _ _ HB2.out HM2.out).mono ?_; rintro e w3 ⟨A9, c9, rfl, HM3, HB3, HX3⟩)
     | (go_at_call 11; first | (refine (HCodeM.out _ _ _ _ _ _ _ _ _ HMB10.out).mono ?_; rintro e w11 ⟨rfl, HMB11⟩) | (refine (HCodeM.out _ _ _ _ _ _ _ _ _ HMB6.out).mono ?_; rintro e w7 ⟨rfl, HMB7⟩) | (refine (HCode0.out _ _ _ _ HB3.out HM3.out HX3.out).mono ?_; rintro e w4 ⟨rfl, HB4, HM4, HX4⟩))
     | (go_at_call 12; first | (refine (HWneg.out _ _ _ _ _ HMB5.out).mono ?_; rintro e w6 ⟨rfl, HMB6⟩) | (refine (HW77.out _ _ _ _ HB4.out HM4.out HX4.out).mono ?_; rintro e w5 ⟨pw, rfl, HMB5⟩))
     | (go_at_call 13; first | (refine (HWtB.out _ _ _ _ _ _ _ _ HMB15.out).mono ?_; rintro e w16 ⟨rfl, HMB16⟩) | (refine (HWtW.out _ _ _ _ _ _ _ _ HMB7.out).mono ?_; rintro e w8 ⟨rfl, HMB8⟩))
     | (go_at_call 15; first | (refine (HUpsB.out _ _ _ _ _ _ _ _ HMB12.out).mono ?_; rintro e w13 ⟨A13, c13, rfl, HMB13, HX13⟩) | (refine (HUpsW.out _ _ _ _ _ _ _ _ HMB8.out).mono ?_; rintro e w9 ⟨A8, c8, rfl, HMB9, HX9⟩))
     | (go_at_call 14; first | (refine (HSameX.out _ _ _ _ _ _ _ _ _ _ HMB13.out HX13.out).mono ?_; rintro e w14 ⟨rfl, HMB14⟩) | (refine (HSameX.out _ _ _ _ _ _ _ _ _ _ HMB9.out HX9.out).mono ?_; rintro e w10 ⟨rfl, HMB10⟩))
     | (go_at_call 16; refine (HKeysR.out _ _ _ _ _ HMB11.out).mono ?_; rintro e w12 ⟨Ak, ck, rfl, HMB12⟩)
     | (go_at_call 17; refine (HLen.out _ _ _ _ _ _ _ _ HMB14.out).mono ?_; rintro e w15 ⟨rfl, HMB15⟩)
     | (go_at_call 18; refine (HKey.out _ _ _ _ _ _ _ _ HMB16.out).mono ?_; rintro e w17 ⟨rfl, HMB17⟩)
     | (go_at_call 20; refine (HSince.out _ _ _ _ _ _ _ _ HMB17.out).mono ?_; rintro e w18 ⟨A18, c18, rfl, HMB18, HX18⟩)
     | (go_at_call 19; refine (HSameT.out _ _ _ _ _ _ _ _ _ _ HMB18.out HX18.out).mono ?_; rintro e w19 ⟨rfl, HMB19⟩)
     | (go_at_call 22; refine (HKeysB.out _ _ _ _ _ _ _ _ HMB19.out).mono ?_; rintro e w20 ⟨A20, c20, rfl, HMB20, HX20⟩)
     | (go_at_call 21; refine (HSameK.out _ _ _ _ _ _ _ _ _ HMB20.out HX20.out).mono ?_; rintro e w21 ⟨rfl, HMB21⟩))
    go_loopw [16] (fun v16 wr => ∃ i : Nat, v16 = .int .i64 i ∧ i ≤ ks.length ∧ aA (MB w wr a l1.length l2 cl p pw A9 c9 Ak ck ks)) (fun v16 wr => ks.length - (intOf v16).toNat)
    case atStart => exact ⟨0, rfl, Nat.zero_le _, HMB21⟩
    case round =>
     clear HMB21
     obtain ⟨i, rfl, hi, HMB⟩ := hrel
     have hk60 : ks.length ≤ 60 := by have := HG.out; omega
     by_cases hlt : i < ks.length
     ·have hb1 : decide ((i : Int) < (ks.length : Int)) = true := decide_eq_true (by omega)
      have hb2 : decide (i < ks.length) = true := decide_eq_true hlt
      have hi0 : (0 : Int) ≤ (i : Int) := by omega
      have hi1 : (i : Int) < (ks.length : Int) := by omega
      have hig : i < g.length := by have := HG.out.2.1; omega
      obtain ⟨ad, Ax, cx, e, hx0, hxl, hxC⟩ := jL HMB.out.k.2 (i : Int) (by omega) (by omega)
      have hrd : dH ks (i : Int) = g[i].1 := by rw [HG.out.1]; simp [dH, List.getD, hig]
      rw [Int.toNat_natCast] at hx0
      rw [hrd] at hx0 hxl hxC
      subst e
      have H1 := aA.mk (HRunR.out i hig)
      have H2 := aA.mk (HRunB.out i hig)
      have H3 := aA.mk (HSameRn.out i hig)
      have H4 := aA.mk (HRestsB.out i hig)
      have H5 := aA.mk (HRestsR.out i hig)
      have H6 := aA.mk (HSameRs.out i hig)
      have HKx := aA.mk (And.intro hxl hxC)
      clear hrd hxl hxC
      generalize fJ n0 cl g[i].1 = rr at H1 H2 H3 H4 H5
      generalize fW g[i] = rg at H2 H3
      generalize g[i].2.map (fun x => x.1) = rs at H4 H5 H6
      generalize g[i].1 = kx at H1 hx0 HKx
      clear hig
      go_wp2_with (first
       | (go_at_call 23; refine (H1.out _ _ _ _ _ _ _ _ _ HMB.out HKx.out).mono ?_; rintro e w22 ⟨Ar, cr, rfl, HMB22, HR22⟩)
       | (go_at_call 24; refine (H2.out _ _ _ _ _ _ _ _ _ HMB22.out HR22.out).mono ?_; rintro e w23 ⟨A23, c23, rfl, HMB23, HR23, HX23⟩)
       | (go_at_call 14; refine (H3.out _ _ _ _ _ _ _ _ _ _ _ HMB23.out HR23.out HX23.out).mono ?_; rintro e w24 ⟨rfl, HMB24, HR24⟩)
       | (go_at_call 25; refine (H4.out _ _ _ _ _ _ _ _ _ HMB24.out HR24.out).mono ?_; rintro e w25 ⟨A25, c25, rfl, HMB25, HR25, HX25⟩)
       | (go_at_call 26; refine (H5.out _ _ _ _ _ _ _ _ _ _ _ HMB25.out HR25.out HX25.out).mono ?_; rintro e w26 ⟨A26, c26, rfl, HMB26, HX26, HY26⟩)
       | (go_at_call 21; refine (H6.out _ _ _ _ _ _ _ _ _ _ _ HMB26.out HX26.out HY26.out).mono ?_; rintro e w27 ⟨rfl, HMB27⟩))
      go_roundw
      case rel => exact ⟨i + 1, by go_num, by omega, HMB27⟩
      case measure => simp [intOf]; omega
     ·have hin : i = ks.length := by omega
      subst hin
      have hb1 : decide ((ks.length : Int) < (ks.length : Int)) = false := decide_eq_false (by omega)
      have HN1 := aA.mk (HRunN.out (-1) (by omega))
      have HN2 := aA.mk (HRunN.out (ks.length : Int) (by omega))
      have HN3 := aA.mk (HRestsN.out (-1) (by omega))
      have HN4 := aA.mk (HRestsN.out (ks.length : Int) (by omega))
      go_wp2_with (first
       | (go_at_call 24; first | (refine (HN2.out _ _ _ _ _ _ _ HMB31.out).mono ?_; rintro e w32 ⟨rfl, HMB32⟩) | (refine (HN1.out _ _ _ _ _ _ _ HMB.out).mono ?_; rintro e w31 ⟨rfl, HMB31⟩))
       | (go_at_call 25; first | (refine (HN4.out _ _ _ _ _ _ _ HMB33.out).mono ?_; rintro e w34 ⟨rfl, HMB34⟩) | (refine (HN3.out _ _ _ _ _ _ _ HMB32.out).mono ?_; rintro e w33 ⟨rfl, HMB33⟩))
       | (go_at_call 8; refine (HLive.out _ HMB34.out.B).mono ?_; rintro e w35 ⟨rfl, HB35⟩))
      go_ret
      exact ⟨rfl, HB35.out⟩
end Go.Proofs.YtpflmgbpjhbmnaaGreat.B
end
