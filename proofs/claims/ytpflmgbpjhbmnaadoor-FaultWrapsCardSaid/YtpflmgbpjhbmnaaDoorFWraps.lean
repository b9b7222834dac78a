/- FaultWraps, walked. -/
import Derived.Test.YtpflmgbpjhbmnaaDoorFLive
import Derived.Test.YtpflmgbpjhbmnaaDoorFAll
namespace Go.Proofs.YtpflmgbpjhbmnaaDoor.F
open Go.RowKit Go.Extern.Stop Go.Stop Go.Extern Go.Proofs.YtpflmgbpjhbmnaaDoorW.PrintWords Go.Proofs.YtpflmgbpjhbmnaaDoorW.PrintLast Go.Proofs.YtpflmgbpjhbmnaaDoorW.PrintMore
open Go.Proofs.YtpflmgbpjhbmnaaDoor.B (runnellaw02_same.f runnellaw02_same.l0 runnellaw02_same.calls)
set_option linter.unusedVariables false
set_option linter.unusedSimpArgs false
set_option maxRecDepth 100000

theorem cell_add0 {W : World} {ad : Addr} {v : Value} (h : W.cell? (ad.add 0) = some v) : W.cell? ad = some v := h

theorem all_mk (n : Int) (hn : n ≠ 0) (ops : List ByteArray) (w : World) : Calls Tryd.prog 12 #[mk n ops] w fun e w' => ∃ (ad : Addr) (c : Nat), e = .returned (.slice (some ad) 1 c) ∧ 1 ≤ c ∧ Below w.heap.size w w' ∧ w'.cell? (ad.add 0) = some (.int .i64 n) := by
  rw [mk, if_neg hn]
  refine (all_chain n ops w).mono ?_
  rintro e w' ⟨v, rfl, hR, hB⟩
  obtain ⟨A, c, rfl, hc, hC⟩ := Kd.R_reads hR
  obtain ⟨ad, rfl, hx⟩ := Kd.at_int hC 0 (by decide) (by simp)
  exact ⟨ad, c, rfl, hc, hB, hx⟩

set_option maxHeartbeats 8000000 in
theorem law_wraps (A0 : Option Addr) (c0 : Nat) (l : List ByteArray) (e0 other : Int) (w : World) (hL : Laid w) (hr : Kd.C Kd.string w A0 l.length l) (hc : l.length ≤ c0) :
    Calls Tryd.prog 4 #[.slice A0 l.length c0, .int .i64 e0, .int .i64 other] w fun e w' => e = .returned (.bool true) ∧ Below w.heap.size w w' := by
  have KL : Aside0 (∀ B W, Below w.heap.size w B → Below B.heap.size B W → Calls Tryd.prog 6 #[] W fun e w' => e = .returned (.bool true) ∧ Below B.heap.size B w') :=
    ⟨fun B W hB hW => (live_ok W (hL.below (hB.trans (hW.mono hB.size)) (Nat.le_refl _))).mono fun e w' ⟨h1, h2⟩ => ⟨h1, hW.trans (h2.mono hW.size)⟩⟩
  have HB := Below.refl w.heap.size w
  by_cases hlen : l.length ≤ 200
  · have hb0 : decide ((200 : Int) < (l.length : Int)) = false := decide_eq_false (by omega)
    have hb00 : decide (200 < l.length) = false := decide_eq_false (by omega)
    have KC : Aside0 (∀ B W, Below w.heap.size w B → Below B.heap.size B W → Calls Tryd.prog 9 #[mk e0 l] W fun e w' => e = .returned (.int .i64 e0) ∧ Below B.heap.size B w') :=
      ⟨fun B W hB hW => (code_mk e0 l W (hL.below (hB.trans (hW.mono hB.size)) (Nat.le_refl _))).mono fun e w' ⟨h1, h2⟩ => ⟨h1, hW.trans (h2.mono hW.size)⟩⟩
    have KH : Aside0 (Calls Tryd.prog 11 #[.slice A0 l.length c0, .int .i64 e0] w fun e w' => e = .returned (mk e0 l) ∧ Below w.heap.size w w') := ⟨chain_mk A0 c0 l e0 w hr hlen⟩
    have HR := Aside0.mk hr
    clear hr
    by_cases he : e0 = 0
    · subst he
      have e1 : mk 0 l = .nilIface := by simp [mk]
      rw [e1] at KC KH
      go_enter Tryd.func4, Tryd.ntmps4
      go_wp2_with (first
        | (go_at_call 11; refine KH.out.mono ?_; rintro e w' ⟨rfl, hB1⟩)
        | (go_at_call 9; refine (KC.out _ _ HB hB1).mono ?_; rintro e w' ⟨rfl, hB2⟩)
        | (go_at_call 10; refine (ops_nil _).mono ?_; rintro e w' ⟨rfl, hB3⟩; have hB4 := hB2.trans (hB3.mono hB2.size); clear hB3)
        | (go_at_call 12; refine (all_nil _).mono ?_; rintro e w' ⟨rfl, hw5⟩; have hw6 := hw5.symm; subst hw6; clear hw5)
        | (go_at_call 13; refine (errIs_nil _ _).mono ?_; rintro e w' ⟨rfl, hw7⟩; have hw8 := hw7.symm; subst hw8; clear hw7)
        | (go_at_call 6; refine (KL.out _ _ HB hB4).mono ?_; rintro e w' ⟨rfl, hB9⟩))
      go_ret
      exact ⟨rfl, hB9⟩
    · obtain ⟨t2, v2, e1, e2⟩ := mk_iface e0 he l
      have KA : Aside0 (∀ W, Below w.heap.size w W → Calls Tryd.prog 12 #[mk e0 l] W fun e w' => ∃ (ad : Addr) (c : Nat), e = .returned (.slice (some ad) 1 c) ∧ 1 ≤ c ∧ Below w.heap.size w w' ∧ Aside0 (w'.cell? (ad.add 0) = some (.int .i64 e0))) :=
        ⟨fun W hW => (all_mk e0 he l W).mono fun e w' ⟨ad, c, h1, h2, h3, h4⟩ => ⟨ad, c, h1, h2, hW.trans (h3.mono hW.size), ⟨h4⟩⟩⟩
      have KO : Aside0 (∀ B W, Below w.heap.size w B → Below B.heap.size B W → Calls Tryd.prog 10 #[mk e0 l] W fun e w' => ∃ (A : Option Addr) (c : Nat), e = .returned (.slice A l.length c) ∧ Below B.heap.size B w' ∧ Aside0 (l.length ≤ c ∧ Kd.C Kd.string w' A l.length l)) :=
        ⟨fun B W hB hW => (ops_mk e0 he l (by omega) W).mono fun e w' ⟨A, c, h1, h2, h3, h4⟩ => ⟨A, c, h1, hW.trans (h4.mono hW.size), ⟨h2, h3⟩⟩⟩
      have KS : Aside0 (∀ (A : Option Addr) (c : Nat) (B W : World), Below w.heap.size w B → Below B.heap.size B W → Aside0 (l.length ≤ c ∧ Kd.C Kd.string W A l.length l) →
          Calls Tryd.prog 14 #[.slice A l.length c, .slice A0 l.length c0] W fun e w' => e = .returned (.bool true) ∧ Below B.heap.size B w') := by
        refine ⟨fun A c B W hB hW h2 => ?_⟩
        obtain ⟨k, hk⟩ := same_refl l (by omega)
        exact (runnellaw02_same.calls k A c l A0 c0 l true W h2.out.2 h2.out.1 (Kd.C_below HR.out (hB.trans (hW.mono hB.size))) hc hk).mono fun e w' ⟨g1, g2⟩ => ⟨g1, hW.trans (g2.below.mono hW.size)⟩
      have KI : Aside0 (∀ m B W, Below w.heap.size w B → Below B.heap.size B W → Calls Tryd.prog 13 #[mk e0 l, .int .i64 m] W fun e w' => e = .returned (.bool (e0 == m)) ∧ Below B.heap.size B w') :=
        ⟨fun m B W hB hW => (is_mk e0 m he l W).mono fun e w' ⟨h1, h2⟩ => ⟨h1, hW.trans (h2.mono hW.size)⟩⟩
      have hb1 : (e0 == 0) = false := beq_eq_false_iff_ne.2 he
      have hb2 : (e0 == e0) = true := beq_self_eq_true e0
      have hb3 : (e0 == other) = (other == e0) := Bool.beq_comm
      rw [e1] at KC KH KA KO KI
      have KI1 : Aside0 (∀ B W, Below w.heap.size w B → Below B.heap.size B W → Calls Tryd.prog 13 #[.iface t2 v2, .int .i64 e0] W fun e w' => e = .returned (.bool true) ∧ Below B.heap.size B w') := ⟨fun B W h1 h2 => by have := KI.out e0 B W h1 h2; rwa [hb2] at this⟩
      generalize hq : (other == e0) = q at hb3
      have hqq : (q == q) = true := beq_self_eq_true q
      have KI2 : Aside0 (∀ B W, Below w.heap.size w B → Below B.heap.size B W → Calls Tryd.prog 13 #[.iface t2 v2, .int .i64 other] W fun e w' => e = .returned (.bool q) ∧ Below B.heap.size B w') := ⟨fun B W h1 h2 => by have := KI.out other B W h1 h2; rwa [hb3] at this⟩
      clear KI
      go_enter Tryd.func4, Tryd.ntmps4
      go_wp2_with (first
        | (go_at_call 11; refine KH.out.mono ?_; rintro e w' ⟨rfl, hB1⟩)
        | (go_at_call 12; refine (KA.out _ hB1).mono ?_; rintro e wb ⟨ad, ca, rfl, hca, HBB, hca2⟩; have HB1 := Below.refl wb.heap.size wb)
        | (go_at_call 9; refine (KC.out _ _ HBB HB1).mono ?_; rintro e w' ⟨rfl, hB2⟩)
        | (go_at_call 10; refine (KO.out _ _ HBB hB2).mono ?_; rintro e w' ⟨A, c, rfl, hB4, hC4⟩)
        | (go_at_call 14; refine (KS.out _ _ _ _ HBB hB4 hC4).mono ?_; rintro e w' ⟨rfl, hB5⟩; have hx1 := below_cell hB5 (Nat.le_refl _) hca2.out; have hx2 := cell_add0 hx1)
        | (go_at_call 13; refine (KI1.out _ _ HBB hB5).mono ?_; rintro e w' ⟨rfl, hB6⟩)
        | (go_at_call 13; refine (KI2.out _ _ HBB hB6).mono ?_; rintro e w' ⟨rfl, hB7⟩)
        | (go_at_call 6; refine (KL.out _ _ HBB hB7).mono ?_; rintro e w' ⟨rfl, hB9⟩))
      go_ret
      exact ⟨rfl, HBB.trans (hB9.mono HBB.size)⟩
  · have hb0 : decide ((200 : Int) < (l.length : Int)) = true := decide_eq_true (by omega)
    have hb00 : decide (200 < l.length) = true := decide_eq_true (by omega)
    go_enter Tryd.func4, Tryd.ntmps4
    go_wp2_with (go_at_call 6; refine (KL.out _ _ HB HB).mono ?_; rintro e w' ⟨rfl, hB4⟩)
    go_ret
    exact ⟨rfl, hB4⟩
end Go.Proofs.YtpflmgbpjhbmnaaDoor.F
