/- FaultJoins, walked: the list that is joined. -/
import Derived.Test.YtpflmgbpjhbmnaaDoorFJoin4
import Derived.Test.YtpflmgbpjhbmnaaDoorFJoinP
import Derived.Test.YtpflmgbpjhbmnaaDoorFJoinE
import Derived.StillTailTactics
namespace Go.Proofs.YtpflmgbpjhbmnaaDoor.F
open Go.RowKit Go.Extern.Stop Go.Stop Go.Extern Go.Proofs.YtpflmgbpjhbmnaaDoorW.PrintWords Go.Proofs.YtpflmgbpjhbmnaaDoorW.PrintLast Go.Proofs.YtpflmgbpjhbmnaaDoorW.PrintMore
set_option linter.unusedVariables false
set_option linter.unusedSimpArgs false
set_option maxRecDepth 100000

theorem fault_join (v : Value) (w : World) (Q : Ending → World → Prop) (h : Calls Tryd.prog 22 #[v] w (fun e w' => ∃ x, e = .returned x ∧ Q (.returned x) w')) : Calls Tryd.prog 15 #[v] w Q := by
  have H := Aside0.mk h
  clear h
  go_enter Tryd.func15, Tryd.ntmps15
  go_wp2_with (go_at_call 22; refine Calls.mono H.out ?_; rintro e w' ⟨x, rfl, hq⟩)
  exact hq

theorem wrap_some2 (o : ByteArray) (t : TypeId) (v : Value) (w : World) : Calls Tryd.prog 8 #[.string o, .iface t v] w fun e w' => e = .returned (.iface 47 (.agg #[.string o, .iface t v])) ∧ w' = w := wrap_some o t v w

theorem errV_cases (x : Int) : errV x = .nilIface ∨ ∃ v2, errV x = .iface 47 v2 := by
  by_cases h : x = 0
  · subst h; exact .inl rfl
  · exact .inr ⟨_, errV_some x h⟩

set_option maxHeartbeats 8000000 in
theorem law_joins (A0 : Option Addr) (c0 : Nat) (l : List Int) (op : ByteArray) (other : Int) (w : World) (hL : Laid w) (hr : Kd.C (Kd.int .i64) w A0 l.length l) (hc : l.length ≤ c0) :
    Calls Tryd.prog 5 #[.slice A0 l.length c0, .string op, .int .i64 other] w fun e w' => e = .returned (.bool true) ∧ Below w.heap.size w w' := by
  have KL : Aside0 (∀ B W, Below w.heap.size w B → Below B.heap.size B W → Calls Tryd.prog 6 #[] W fun e w' => e = .returned (.bool true) ∧ Below B.heap.size B w') :=
    ⟨fun B W hB hW => (live_ok W (hL.below (hB.trans (hW.mono hB.size)) (Nat.le_refl _))).mono fun e w' ⟨h1, h2⟩ => ⟨h1, hW.trans (h2.mono hW.size)⟩⟩
  have HB0 := Below.refl w.heap.size w
  by_cases hlen : l.length ≤ 200
  · have hb0 : decide ((200 : Int) < (l.length : Int)) = false := decide_eq_false (by omega)
    have hb00 : decide (200 < l.length) = false := decide_eq_false (by omega)
    have HR := Aside0.mk hr
    clear hr
    have KH : Aside0 (∀ (c : Nat) (x : Int) (W : World), Below w.heap.size w W → Calls Tryd.prog 11 #[.slice (some ⟨W.heap.size, 0, none⟩) 1 c, .int .i64 x] (W.alloc (.cells #[.string (ByteArray.mk #[120])] 9)) fun e w' => e = .returned (errV x) ∧ Aside0 (Below W.heap.size W w') ∧ Below w.heap.size w w') := by
      refine ⟨fun c x W hW => ?_⟩
      have hb1 : Below W.heap.size W (W.alloc (.cells #[.string (ByteArray.mk #[120])] 9)) := (Below.refl _ _).alloc (Nat.le_refl _) _
      refine (chain_mk (some ⟨W.heap.size, 0, none⟩) c [xB] x _ (C_strs _ _ _ (by decide) (by
        intro j hj
        match j, hj with
        | 0, _ => simp [Addr.add, xB])) (by decide)).mono fun e w' ⟨h1, h2⟩ => ⟨h1, ⟨hb1.trans (h2.mono (by simp))⟩, hW.trans ((hb1.trans (h2.mono (by simp))).mono hW.size)⟩
    have HB := Aside0.mk HB0
    go_enter Tryd.func5, Tryd.ntmps5
    go_wp2
    go_loopw [7, 8] (fun v7 v8 wr => ∃ i : Nat, v8 = .int .i64 i ∧ i ≤ l.length ∧ Aside0 (Kd.R errK 25 wr w.heap.size (fun _ => True) v7 (l.take i)) ∧ Aside0 (Below w.heap.size w wr)) (fun v7 v8 wr => l.length - (intOf v8).toNat)
    case atStart => exact ⟨0, rfl, Nat.zero_le _, ⟨Kd.R_nil _ _ _ _ _⟩, HB⟩
    case round =>
      clear HB
      obtain ⟨i, rfl, hi, HO, HB⟩ := hrel
      by_cases hlt : i < l.length
      · have hb1 : decide ((i : Int) < (l.length : Int)) = true := decide_eq_true (by omega)
        have hb2 : decide (i < l.length) = true := decide_eq_true hlt
        obtain ⟨ad, e, hx0⟩ := Kd.at_int HR.out (i : Int) (by omega) (by omega)
        cases e
        have hx := below_cell (HB.out.alloc HB.out.size (.cells #[.string (ByteArray.mk #[120])] 9)) (Nat.le_refl _) hx0
        clear hx0
        rw [Int.toNat_natCast, rd_nat l i hlt] at hx
        have HT : Aside0 (l.take (i + 1) = l.take i ++ [l[i]]) := ⟨List.take_succ_eq_append_getElem hlt⟩
        have HLM : Aside0 ((l.take i).length ≤ 200) := ⟨by rw [List.length_take]; omega⟩
        clear HR
        generalize l[i] = x at hx HT
        generalize l.take i = xs at HO HT HLM
        rcases errV_cases x with hv | ⟨v2, hv⟩
        · have KHX : Aside0 (∀ (c : Nat) (W : World), Below w.heap.size w W → Calls Tryd.prog 11 #[.slice (some ⟨W.heap.size, 0, none⟩) 1 c, .int .i64 x] (W.alloc (.cells #[.string (ByteArray.mk #[120])] 9)) fun e w' => e = .returned (.nilIface) ∧ Aside0 (Below W.heap.size W w') ∧ Below w.heap.size w w') := ⟨fun c W hW => by have := KH.out c x W hW; rwa [hv] at this⟩
          clear KH
          go_wp2_with (first
            | ((with_reducible refine gate_builtin (b := .append) (xs := #[.tmp 23, .tmp 30]) rfl ?_); at_builtin; refine Kd.R_append errK (w0 := w) w.heap.size rfl (.tmp 23) (.tmp 30) 40 25 .nilIface 16 rfl Tryd.underlying40 infoErr rfl (by decide) (by omega) u7 xs x [.nilIface] (fun _ => True) (fun _ => False) rfl ?aX ?aP (fun _ hk => hk.elim) ?aF ?aO ?aB ?aS ?aL ?_; (case aX => exact (by first | rfl | (simp; done) | (simp; rfl))); (case aP => exact (congrArg (fun q => [q]) hv).symm); (case aB => exact (by repeat (first | (with_reducible first | exact HB.out | apply below_alloc | apply pw_below_drewN | apply below_drew1) | exact HB.out))); (case aF => exact (fun _ _ => trivial)); (case aO => exact (by (with_reducible repeat (first | apply Kd.R_alloc | apply Kd.R_drewN | apply Kd.R_drew)); exact HO.out)); (case aS => exact (below_size (by repeat (first | (with_reducible first | exact HB.out | apply below_alloc | apply pw_below_drewN | apply below_drew1) | exact HB.out)))); (case aL => have := HLM.out; omega); intro v106 w6 ho hb hg hat; have n0_ := Aside0.mk (hb); have n1_ := Aside0.mk (ho); clear HB; clear HO; have HB := n0_; have HO := n1_; clear n0_ n1_; clear ho hb hg hat)
            | (go_at_call 11; refine (KHX.out _ _ HB.out).mono ?_; rintro e w3 ⟨rfl, HB1, HB2⟩; have HO9 := Kd.R_step HO.out (fun k _ hk => HB1.out.block k hk); clear HO HB; have HO := Aside0.mk HO9; have HB := Aside0.mk HB2; clear HO9 HB2))
          exact ⟨⟨i + 1, by simp, by omega, ⟨by rw [HT.out]; exact HO.out⟩, HB⟩, by simp [intOf]; omega⟩
        · have KHX : Aside0 (∀ (c : Nat) (W : World), Below w.heap.size w W → Calls Tryd.prog 11 #[.slice (some ⟨W.heap.size, 0, none⟩) 1 c, .int .i64 x] (W.alloc (.cells #[.string (ByteArray.mk #[120])] 9)) fun e w' => e = .returned (.iface 47 v2) ∧ Aside0 (Below W.heap.size W w') ∧ Below w.heap.size w w') := ⟨fun c W hW => by have := KH.out c x W hW; rwa [hv] at this⟩
          clear KH
          go_wp2_with (first
            | ((with_reducible refine gate_builtin (b := .append) (xs := #[.tmp 23, .tmp 30]) rfl ?_); at_builtin; refine Kd.R_append errK (w0 := w) w.heap.size rfl (.tmp 23) (.tmp 30) 40 25 .nilIface 16 rfl Tryd.underlying40 infoErr rfl (by decide) (by omega) u7 xs x [.iface 47 v2] (fun _ => True) (fun _ => False) rfl ?aX ?aP (fun _ hk => hk.elim) ?aF ?aO ?aB ?aS ?aL ?_; (case aX => exact (by first | rfl | (simp; done) | (simp; rfl))); (case aP => exact (congrArg (fun q => [q]) hv).symm); (case aB => exact (by repeat (first | (with_reducible first | exact HB.out | apply below_alloc | apply pw_below_drewN | apply below_drew1) | exact HB.out))); (case aF => exact (fun _ _ => trivial)); (case aO => exact (by (with_reducible repeat (first | apply Kd.R_alloc | apply Kd.R_drewN | apply Kd.R_drew)); exact HO.out)); (case aS => exact (below_size (by repeat (first | (with_reducible first | exact HB.out | apply below_alloc | apply pw_below_drewN | apply below_drew1) | exact HB.out)))); (case aL => have := HLM.out; omega); intro v106 w6 ho hb hg hat; have n0_ := Aside0.mk (hb); have n1_ := Aside0.mk (ho); clear HB; clear HO; have HB := n0_; have HO := n1_; clear n0_ n1_; clear ho hb hg hat)
            | (go_at_call 11; refine (KHX.out _ _ HB.out).mono ?_; rintro e w3 ⟨rfl, HB1, HB2⟩; have HO9 := Kd.R_step HO.out (fun k _ hk => HB1.out.block k hk); clear HO HB; have HO := Aside0.mk HO9; have HB := Aside0.mk HB2; clear HO9 HB2))
          exact ⟨⟨i + 1, by simp, by omega, ⟨by rw [HT.out]; exact HO.out⟩, HB⟩, by simp [intOf]; omega⟩
      · have hin : i = l.length := by omega
        subst hin
        rw [List.take_length] at HO
        have hb1 : decide ((l.length : Int) < (l.length : Int)) = false := decide_eq_false (by omega)
        obtain ⟨A1, c1, e7, hc1, hC1⟩ := Kd.R_reads HO.out
        subst e7
        have KJ := join_ok A1 c1 l wr hC1 hlen
        obtain ⟨k1, hk1⟩ := some_pure l hlen
        obtain ⟨k2, hk2⟩ := first_pure l hlen
        obtain ⟨k3, hk3⟩ := has_pure l other hlen
        have KF : Aside0 (∀ B W, Below w.heap.size w B → Below B.heap.size B W → Calls Tryd.prog 17 #[.slice A0 l.length c0] W fun e w' => e = .returned (.int .i64 ((nz l).headD 0)) ∧ Below B.heap.size B w') :=
          ⟨fun B W hB hW => (Go.Proofs.YtpflmgbpjhbmnaaDoor.B.runnelref02_First.calls k2 A0 c0 l _ W (Kd.C_below HR.out (hB.trans (hW.mono hB.size))) hc hk2).mono fun e w' ⟨h1, h2⟩ => ⟨h1, hW.trans (h2.below.mono hW.size)⟩⟩
        have KHs : Aside0 (∀ B W, Below w.heap.size w B → Below B.heap.size B W → Calls Tryd.prog 18 #[.slice A0 l.length c0, .int .i64 other] W fun e w' => e = .returned (.bool ((nz l).any (· == other))) ∧ Below B.heap.size B w') :=
          ⟨fun B W hB hW => (Go.Proofs.YtpflmgbpjhbmnaaDoor.B.runnelref02_Has.calls k3 A0 c0 l other _ W (Kd.C_below HR.out (hB.trans (hW.mono hB.size))) hc hk3).mono fun e w' ⟨h1, h2⟩ => ⟨h1, hW.trans (h2.below.mono hW.size)⟩⟩
        have KS : Aside0 (∀ W, Below w.heap.size w W → Calls Tryd.prog 16 #[.slice A0 l.length c0] W fun e w' => ∃ (A : Option Addr) (c : Nat), e = .returned (.slice A (nz l).length c) ∧ (nz l).length ≤ c ∧ Below w.heap.size w w' ∧ Aside0 (Kd.C (Kd.int .i64) w' A (nz l).length (nz l))) :=
          ⟨fun W hW => (Go.Proofs.YtpflmgbpjhbmnaaDoor.B.runnelref02_Some.calls k1 A0 c0 l _ W (Kd.C_below HR.out hW) hc hk1).mono fun e w' ⟨v, h1, h2, h3⟩ => by
            obtain ⟨A, c, rfl, hc2, hC2⟩ := Kd.R_reads h2
            exact ⟨A, c, h1, hc2, hW.trans (h3.mono hW.size), ⟨hC2⟩⟩⟩
        by_cases hz : nz l = []
        · have KJ2 : Aside0 (Calls Tryd.prog 15 #[.slice A1 l.length c1] wr fun e w' => e = .returned .nilIface ∧ Below w.heap.size w w') :=
            ⟨fault_join _ _ _ (KJ.mono fun e w' ⟨h1, h2⟩ => by
              rcases h2 with ⟨_, h⟩ | ⟨b, A, c, _, _, _, _, h⟩
              · exact ⟨_, h, rfl, HB.out.trans (h1.mono HB.out.size)⟩
              · exact absurd hz h)⟩
          rw [hz] at KF KHs KS
          clear KJ hk1 hk2 hk3 HR hz
          go_wp2_with (first
            | (go_at_call 15; refine KJ2.out.mono ?_; rintro e w1 ⟨rfl, hB1⟩)
            | (go_at_call 8; refine (wrap_nil _ _).mono ?_; rintro e w2 ⟨rfl, hw⟩; have hw1 := hw.symm; subst hw1; clear hw)
            | (go_at_call 16; refine (KS.out _ hB1).mono ?_; rintro e w3 ⟨A3, c3, rfl, _, hB3, _⟩)
            | (go_at_call 12; refine (all_nil _).mono ?_; rintro e w4 ⟨rfl, hw⟩; have hw1 := hw.symm; subst hw1; clear hw)
            | (go_at_call 9; refine (code_nil _).mono ?_; rintro e w5 ⟨rfl, hB5⟩; have hB6 := hB3.trans (hB5.mono hB3.size); clear hB5)
            | (go_at_call 17; refine (KF.out _ _ HB0 hB6).mono ?_; rintro e w7 ⟨rfl, hB7⟩)
            | (go_at_call 13; refine (errIs_nil _ _).mono ?_; rintro e w8 ⟨rfl, hw⟩; have hw1 := hw.symm; subst hw1; clear hw)
            | (go_at_call 18; refine (KHs.out _ _ HB0 hB7).mono ?_; rintro e w9 ⟨rfl, hB9⟩))
          refine wp_loop_rounds 1 ?_
          rw [rounds_succ]
          go_wp2_with fail
          go_region_with (first
            | (go_at_call 10; refine (ops_nil _).mono ?_; rintro e wa ⟨rfl, hBa⟩)
            | (go_at_call 6; refine (KL.out _ _ HB0 ?s1).mono ?_; (case s1 => exact (below_drew hB9).trans (hBa.mono (below_drew hB9).size)); rintro e wb ⟨rfl, hBb⟩))
          all_goals go_wp2
          all_goals go_ret
          all_goals exact ⟨rfl, hBb⟩
        · obtain ⟨n, r, hnr⟩ : ∃ n r, nz l = n :: r := by
            cases h : nz l with
            | nil => exact absurd h hz
            | cons n r => exact ⟨n, r, rfl⟩
          have hne := nz_ne l
          have hln := nz_len l l.length
          rw [List.take_length] at hln
          have KJ2 : Aside0 (Calls Tryd.prog 15 #[.slice A1 l.length c1] wr fun e w' => ∃ b, e = .returned (.iface 73 (.pointer (some ⟨b, 0, none⟩))) ∧ Below w.heap.size w w' ∧ Aside0 (JoinAt w' b (nz l))) :=
            ⟨fault_join _ _ _ (KJ.mono fun e w' ⟨h1, h2⟩ => by
              rcases h2 with ⟨h, _⟩ | ⟨b, A, c, h3, h4, h5, h6, h7⟩
              · exact absurd h hz
              · exact ⟨_, h3, b, rfl, HB.out.trans (h1.mono HB.out.size), ⟨A, c, h4, h5, h6, h7, hne, by omega⟩⟩)⟩
          have KA : Aside0 (∀ b W1 W, Aside0 (JoinAt W1 b (nz l)) → Below w.heap.size w W1 → Below W1.heap.size W1 W → Calls Tryd.prog 12 #[.iface 47 (.agg #[.string op, .iface 73 (.pointer (some ⟨b, 0, none⟩))])] W fun e w' => ∃ (A : Option Addr) (c : Nat), e = .returned (.slice A (nz l).length c) ∧ (nz l).length ≤ c ∧ Below W1.heap.size W1 w' ∧ Aside0 (Below W.heap.size W w') ∧ Aside0 (Kd.C (Kd.int .i64) w' A (nz l).length (nz l))) :=
            ⟨fun b W1 W hJ hB hW => (je_all op b (nz l) W (hJ.out.below hW (Nat.le_refl _))).mono fun e w' ⟨v, h1, h2, h3⟩ => by
              obtain ⟨A, c, rfl, hc2, hC2⟩ := Kd.R_reads h2
              exact ⟨A, c, h1, hc2, hW.trans (h3.mono hW.size), ⟨h3⟩, ⟨hC2⟩⟩⟩
          have KC : Aside0 (∀ b W1 B W, Aside0 (JoinAt W1 b (nz l)) → Below w.heap.size w W1 → Below W1.heap.size W1 B → Below B.heap.size B W → Calls Tryd.prog 9 #[.iface 47 (.agg #[.string op, .iface 73 (.pointer (some ⟨b, 0, none⟩))])] W fun e w' => e = .returned (.int .i64 ((nz l).headD 0)) ∧ Below B.heap.size B w') :=
            ⟨fun b W1 B W hJ hB hB2 hW => (je_code op b n r W (hnr ▸ hJ.out.below (hB2.trans (hW.mono hB2.size)) (Nat.le_refl _)) (hL.below (hB.trans ((hB2.trans (hW.mono hB2.size)).mono hB.size)) (Nat.le_refl _))).mono fun e w' ⟨h1, h2⟩ => ⟨by rw [hnr]; exact h1, hW.trans (h2.mono hW.size)⟩⟩
          have KI : Aside0 (∀ m b W1 B W, Aside0 (JoinAt W1 b (nz l)) → Below W1.heap.size W1 B → Below B.heap.size B W → Calls Tryd.prog 13 #[.iface 47 (.agg #[.string op, .iface 73 (.pointer (some ⟨b, 0, none⟩))]), .int .i64 m] W fun e w' => e = .returned (.bool ((nz l).any (· == m))) ∧ Below B.heap.size B w') :=
            ⟨fun m b W1 B W hJ hB2 hW => (je_is op b m (nz l) W (hJ.out.below (hB2.trans (hW.mono hB2.size)) (Nat.le_refl _))).mono fun e w' ⟨h1, h2⟩ => ⟨h1, hW.trans (h2.mono hW.size)⟩⟩
          have KO : Aside0 (∀ b W, Calls Tryd.prog 10 #[.iface 47 (.agg #[.string op, .iface 73 (.pointer (some ⟨b, 0, none⟩))])] W fun e w' => ∃ (A : Option Addr) (c : Nat), e = .returned (.slice A 1 c) ∧ Below W.heap.size W w') := ⟨fun b W => je_ops op b W⟩
          have KS2 : Aside0 (∀ B W, Below w.heap.size w B → Below B.heap.size B W → Calls Tryd.prog 16 #[.slice A0 l.length c0] W fun e w' => ∃ (A : Option Addr) (c : Nat), e = .returned (.slice A (nz l).length c) ∧ (nz l).length ≤ c ∧ Below B.heap.size B w' ∧ Aside0 (Kd.C (Kd.int .i64) w' A (nz l).length (nz l))) :=
            ⟨fun B W hB hW => (Go.Proofs.YtpflmgbpjhbmnaaDoor.B.runnelref02_Some.calls k1 A0 c0 l _ W (Kd.C_below HR.out (hB.trans (hW.mono hB.size))) hc hk1).mono fun e w' ⟨v, h1, h2, h3⟩ => by
              obtain ⟨A, c, rfl, hc2, hC2⟩ := Kd.R_reads h2
              exact ⟨A, c, h1, hc2, hW.trans (h3.mono hW.size), ⟨hC2⟩⟩⟩
          have hpos : (((nz l).length : Int) == 0) = false := by rw [hnr]; simp; omega
          have hpos2 : ((nz l).length == 0) = false := by rw [hnr]; simp
          have HZ := Aside0.mk hz
          have HN := Aside0.mk hnr
          have HM : Aside0 (∀ x ∈ nz l, (nz l).any (· == x) = true) := ⟨fun x hx => List.any_eq_true.2 ⟨x, hx, beq_self_eq_true x⟩⟩
          have HLn : Aside0 ((nz l).length ≤ 200) := ⟨by omega⟩
          clear KJ hk1 hk2 hk3 HR hz hnr hne hln KS
          have KIo := Aside0.mk (KI.out other)
          have KIx : Aside0 (∀ x ∈ nz l, ∀ b W1 B W, Aside0 (JoinAt W1 b (nz l)) → Below W1.heap.size W1 B → Below B.heap.size B W → Calls Tryd.prog 13 #[.iface 47 (.agg #[.string op, .iface 73 (.pointer (some ⟨b, 0, none⟩))]), .int .i64 x] W fun e w' => e = .returned (.bool true) ∧ Below B.heap.size B w') :=
            ⟨fun x hx b W1 B W h1 h2 h3 => by have := KI.out x b W1 B W h1 h2 h3; rwa [HM.out x hx] at this⟩
          clear KI HM HZ HN
          generalize (nz l).any (· == other) = qo at KHs KIo
          generalize (nz l).headD 0 = n0 at KF KC
          generalize nz l = L at *
          have hqo : (qo != qo) = false := by simp
          have hn0 : (n0 != n0) = false := by simp
          have hLL : ((L.length : Int) != (L.length : Int)) = false := by simp
          have hLL2 : (L.length != L.length) = false := by simp
          go_wp2_with (first
            | (go_at_call 15; refine KJ2.out.mono ?_; rintro e w1 ⟨b, rfl, hB1, hJ⟩; have hb11 := Below.refl w1.heap.size w1)
            | (go_at_call 8; refine (wrap_some2 _ _ _ _).mono ?_; rintro e w2 ⟨rfl, hw⟩; have hw1 := hw.symm; subst hw1; clear hw)
            | (go_at_call 16; refine (KS2.out _ _ hB1 hb11).mono ?_; rintro e w3 ⟨A3, c3, rfl, hc3, hB3, hC3⟩)
            | (go_at_call 12; refine (KA.out _ _ _ hJ hB1 hB3).mono ?_; rintro e w4 ⟨A4, c4, rfl, hc4, hB4, hB34, hC4⟩; have HC3 := Aside0.mk (Kd.C_below hC3.out hB34.out); clear hC3; have hb44 := Below.refl w4.heap.size w4)
            | (go_at_call 9; refine (KC.out _ _ _ _ hJ hB1 hB4 hb44).mono ?_; rintro e w5 ⟨rfl, hB5⟩)
            | (go_at_call 17; refine (KF.out _ _ (hB1.trans (hB4.mono hB1.size)) hB5).mono ?_; rintro e w7 ⟨rfl, hB7⟩)
            | (go_at_call 13; refine (KIo.out _ _ _ _ hJ hB4 hB7).mono ?_; rintro e w8 ⟨rfl, hB8⟩)
            | (go_at_call 18; refine (KHs.out _ _ (hB1.trans (hB4.mono hB1.size)) hB8).mono ?_; rintro e w9 ⟨rfl, hB9⟩))
          have HB14 := Aside0.mk (hB1.trans (hB4.mono hB1.size))
          have HB9 := Aside0.mk hB9
          have HB4 := Aside0.mk hB4
          clear hB9 hB8 hB7 hB5 hB4 hb44 hB34 hB3 KJ2 KA KC KF KHs KS2 KIo hb11
          go_loopw [12] (fun v12 wr => ∃ i : Nat, v12 = .int .i64 i ∧ i ≤ L.length ∧ Aside0 (Below w4.heap.size w4 wr)) (fun v12 wr => L.length - (intOf v12).toNat)
          case atStart => exact ⟨0, rfl, Nat.zero_le _, HB9⟩
          case round =>
            clear HB9
            obtain ⟨i, rfl, hi, HBr⟩ := hrel
            by_cases hlt : i < L.length
            · have hb1 : decide ((i : Int) < (L.length : Int)) = true := decide_eq_true (by omega)
              have hb2 : decide (i < L.length) = true := decide_eq_true hlt
              obtain ⟨ad3, e, hx3⟩ := Kd.at_int HC3.out (i : Int) (by omega) (by omega)
              cases e
              obtain ⟨ad4, e, hx4⟩ := Kd.at_int hC4.out (i : Int) (by omega) (by omega)
              cases e
              replace hx3 := below_cell HBr.out (Nat.le_refl _) hx3
              replace hx4 := below_cell HBr.out (Nat.le_refl _) hx4
              rw [Int.toNat_natCast, rd_nat L i hlt] at hx3 hx4
              have KIy := Aside0.mk (KIx.out L[i] (List.getElem_mem hlt))
              have HLn2 := HLn.out
              clear HC3 hC4 KIx
              generalize L[i] = m at hx3 hx4 KIy
              have hmm : (m != m) = false := by simp
              go_wp2_with fail
              go_still_tail 15, (by kernel_rfl)
              change wpList _ _ _ _ _ wr.drew
              have HBd := Aside0.mk (below_drew HBr.out)
              clear HBr hx3 hx4
              generalize wr.drew = w2 at HBd
              go_wp2_with (go_at_call 13; refine (KIy.out _ _ _ _ hJ HB4.out HBd.out).mono ?_; rintro e w8 ⟨rfl, hB8⟩)
              go_roundw
              case rel => exact ⟨i + 1, by go_num, by omega, ⟨hB8⟩⟩
              case measure => simp [intOf]; omega
            · have hin : i = L.length := by omega
              subst hin
              have hb1 : decide ((L.length : Int) < (L.length : Int)) = false := decide_eq_false (by omega)
              have hb2 : decide (L.length < L.length) = false := decide_eq_false (by omega)
              go_wp2_with fail
              go_region_with (first
                | (go_at_call 10; refine (KO.out _ _).mono ?_; rintro e wa ⟨A5, c5, rfl, hBa⟩)
                | (go_at_call 6; refine (KL.out _ _ HB14.out ?s1).mono ?_; (case s1 => exact (below_drew HBr.out).trans (hBa.mono (below_drew HBr.out).size)); rintro e wb ⟨rfl, hBb⟩))
              all_goals go_wp2
              all_goals go_ret
              all_goals exact ⟨rfl, HB14.out.trans (hBb.mono HB14.out.size)⟩
  · have hb0 : decide ((200 : Int) < (l.length : Int)) = true := decide_eq_true (by omega)
    have hb00 : decide (200 < l.length) = true := decide_eq_true (by omega)
    go_enter Tryd.func5, Tryd.ntmps5
    go_wp2_with (go_at_call 6; refine (KL.out _ _ HB0 HB0).mono ?_; rintro e w' ⟨rfl, hB4⟩)
    go_ret
    exact ⟨rfl, hB4⟩
end Go.Proofs.YtpflmgbpjhbmnaaDoor.F
