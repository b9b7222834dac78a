/- fault.Ops at a chain of wraps about an end that is no Fail and unwraps to nil. -/
import Derived.Test.YtpflmgbpjhbmnaaDoorFCode
import Derived.Test.YtpflmgbpjhbmnaaDoorBx
namespace Go.Proofs.YtpflmgbpjhbmnaaDoor.F
open Go.RowKit Go.Extern.Stop Go.Stop Go.Extern Go.Proofs.YtpflmgbpjhbmnaaDoorW.PrintWords Go.Proofs.YtpflmgbpjhbmnaaDoorW.PrintLast Go.Proofs.YtpflmgbpjhbmnaaDoorW.PrintMore
set_option linter.unusedVariables false
set_option linter.unusedSimpArgs false
set_option maxRecDepth 100000

theorem infoStr : (Tryd.prog.info? 9).map (fun i => (i.zero, i.size, i.bytes)) = some (some (.string ByteArray.empty), 1, 16) := by kernel_rfl
theorem infoErrno : (Tryd.prog.info? 27).map (fun i => (i.zero, i.size, i.bytes)) = some (some (.int .i64 0), 1, 8) := by kernel_rfl
theorem infoErr : (Tryd.prog.info? 25).map (fun i => (i.zero, i.size, i.bytes)) = some (some .nilIface, 1, 16) := by kernel_rfl

/-- An end of a chain: not nil, no Fail, unwraps to nil. -/
inductive End : Value → Prop
  | num (n : Int) : End (num n)
  | join (p : Value) : End (.iface 73 p)

theorem chn_iface {v : Value} (h : End v) (o : List ByteArray) : ∃ t2 v2, chn o v = .iface t2 v2 := by
  cases o with
  | nil => cases h <;> exact ⟨_, _, rfl⟩
  | cons => exact ⟨_, _, rfl⟩

theorem unwrap_end {v : Value} (h : End v) (w : World) : Calls Tryd.prog 20 #[v] w fun e w' => e = .returned .nilIface ∧ Below w.heap.size w w' := by
  cases h with
  | num n => exact (unwrap_num n w).mono (fun e w' ⟨h1, h2⟩ => ⟨h1, h2 ▸ Below.refl _ _⟩)
  | join p => exact (unwrap_join p w).mono (fun e w' ⟨h1, h2⟩ => ⟨h1, h2 ▸ Below.refl _ _⟩)

theorem ops_nil (w : World) : Calls Tryd.prog 10 #[.nilIface] w fun e w' => e = .returned (.slice none 0 0) ∧ Below w.heap.size w w' := by
  go_enter Tryd.func10, Tryd.ntmps10
  go_wp2
  refine wp_loop_rounds 1 ?_
  rw [rounds_succ]
  go_wp2
  go_ret
  exact ⟨rfl, Below.refl _ _⟩

set_option maxHeartbeats 4000000 in
theorem ops_chain (ops : List ByteArray) (v : Value) (hv : End v) (w : World) (hl : ops.length < 17592186044416 / 4) :
    Calls Tryd.prog 10 #[chn ops v] w fun e w' => ∃ v0_ : Value, e = .returned v0_ ∧ Kd.R Kd.string 9 w' w.heap.size (fun _ => True) v0_ ops ∧ Below w.heap.size w w' := by
  have HU : Aside0 (∀ W, Calls Tryd.prog 20 #[v] W fun e w' => e = .returned .nilIface ∧ Below W.heap.size W w') := ⟨fun W => unwrap_end hv W⟩
  have eN : ∀ (p : Value) (w : World), (Instr.typeAssert (.iface 73 p) 25 47 true).run Tryd.prog w = .ok (.tuple #[.agg #[.string ByteArray.empty, .nilIface], .bool false]) w := fun p w => by kernel_rfl
  have eF : ∀ (p : Value) (w : World), (Instr.typeAssert (.iface 27 p) 25 47 true).run Tryd.prog w = .ok (.tuple #[.agg #[.string ByteArray.empty, .nilIface], .bool false]) w := fun p w => by kernel_rfl
  have eA : ∀ (p : Value) (w : World), (Instr.typeAssert (.iface 47 p) 25 47 true).run Tryd.prog w = .ok (.tuple #[p, .bool true]) w := fun p w => by kernel_rfl
  have HB := Aside0.mk (Below.refl w.heap.size w)
  go_enter Tryd.func10, Tryd.ntmps10
  go_wp2
  go_loopg [0, 3] (ops.length + 1) (fun kq v0 v3 w' => ∃ (xs o : List ByteArray), (v0 = chn o v ∧ kq = o.length + 1 ∧ xs ++ o = ops ∨ v0 = .nilIface ∧ kq = 0 ∧ xs = ops) ∧ Aside0 (Kd.R Kd.string 9 w' w.heap.size (fun _ => True) v3 xs) ∧ Aside0 (Below w.heap.size w w'))
  case atStart => exact ⟨[], ops, .inl ⟨rfl, rfl, rfl⟩, ⟨Kd.R_nil _ _ _ _ _⟩, HB⟩
  case round =>
    clear HB
    obtain ⟨xs, o, hcase, HO, HB⟩ := hrel
    rcases hcase with ⟨rfl, hk, hE⟩ | ⟨rfl, rfl, rfl⟩
    · have HE := Aside0.mk hE
      have HLM : Aside0 (xs.length + o.length < 17592186044416 / 4) := ⟨by rw [← List.length_append, hE]; exact hl⟩
      clear hE
      cases o with
      | nil =>
        rw [chn_nil]
        have HU2 := HU
        clear HU
        cases hv with
        | num n =>
          unfold num at HU2 ⊢
          go_wp2_with (go_at_call 20; refine (HU2.out _).mono ?_; rintro e w' ⟨rfl, hb2⟩; have HB2 := Aside0.mk hb2; clear hb2)
          go_roundg 0
          case measure => simp at hk; omega
          case rel => exact ⟨xs, [], .inr ⟨rfl, rfl, by simpa using HE.out⟩, ⟨Kd.R_step (w := _) (by (with_reducible repeat (first | apply Kd.R_alloc | apply Kd.R_drewN | apply Kd.R_drew)); exact HO.out) (fun k _ hk => HB2.out.block k hk)⟩, ⟨Below.trans (by repeat (first | (with_reducible first | exact HB.out | apply below_alloc | apply pw_below_drewN | apply below_drew1) | exact HB.out)) (HB2.out.mono (by have := HB.out.size; simp; try omega))⟩⟩
        | join p =>
          go_wp2_with (go_at_call 20; refine (HU2.out _).mono ?_; rintro e w' ⟨rfl, hb2⟩; have HB2 := Aside0.mk hb2; clear hb2)
          go_roundg 0
          case measure => simp at hk; omega
          case rel => exact ⟨xs, [], .inr ⟨rfl, rfl, by simpa using HE.out⟩, ⟨Kd.R_step (w := _) (by (with_reducible repeat (first | apply Kd.R_alloc | apply Kd.R_drewN | apply Kd.R_drew)); exact HO.out) (fun k _ hk => HB2.out.block k hk)⟩, ⟨Below.trans (by repeat (first | (with_reducible first | exact HB.out | apply below_alloc | apply pw_below_drewN | apply below_drew1) | exact HB.out)) (HB2.out.mono (by have := HB.out.size; simp; try omega))⟩⟩
      | cons o1 o2 =>
        simp only [chn_cons, fail]
        obtain ⟨t2, v2, hv2⟩ := chn_iface hv o2
        rw [hv2]
        have HU2 : Aside0 (∀ W, Calls Tryd.prog 20 #[.iface 47 (.agg #[.string o1, .iface t2 v2])] W fun e w' => e = .returned (.iface t2 v2) ∧ Below W.heap.size W w') := ⟨fun W => unwrap_fail o1 (.iface t2 v2) W⟩
        clear HU
        go_wp2_with (first | ((with_reducible refine gate_builtin (b := .append) (xs := #[.tmp 14, .tmp 17]) rfl ?_); at_builtin; refine Kd.R_append Kd.string (w0 := w) w.heap.size rfl (.tmp 14) (.tmp 17) 30 9 (.string ByteArray.empty) 16 rfl Tryd.underlying30 infoStr rfl (by decide) (by omega) u3 xs o1 [.string o1] (fun _ => True) (fun _ => False) rfl ?aX ?aP (fun _ hk => hk.elim) ?aF ?aO ?aB ?aS ?aL ?_; (case aX => exact (by first | rfl | (simp; done) | (simp; rfl))); (case aP => exact rfl); (case aB => exact (by repeat (first | (with_reducible first | exact HB.out | apply below_alloc | apply pw_below_drewN | apply below_drew1) | exact HB.out))); (case aF => exact (fun _ _ => trivial)); (case aO => exact (by (with_reducible repeat (first | apply Kd.R_alloc | apply Kd.R_drewN | apply Kd.R_drew)); exact HO.out)); (case aS => exact (below_size (by repeat (first | (with_reducible first | exact HB.out | apply below_alloc | apply pw_below_drewN | apply below_drew1) | exact HB.out)))); (case aL => have := HLM.out; omega); intro v106 w6 ho hb hg hat; have n0_ := Aside0.mk (hb); have n1_ := Aside0.mk (ho); clear HB; clear HO; have HB := n0_; have HO := n1_; clear n0_ n1_; clear ho hb hg hat) | (go_at_call 20; refine (HU2.out _).mono ?_; rintro e w' ⟨rfl, hb2⟩; have HB2 := Aside0.mk hb2; clear hb2))
        go_roundg (o2.length + 1)
        case measure => simp at hk; omega
        case rel => exact ⟨xs ++ [o1], o2, .inl ⟨hv2.symm, rfl, by simpa using HE.out⟩, ⟨Kd.R_step (w := _) (by (with_reducible repeat (first | apply Kd.R_alloc | apply Kd.R_drewN | apply Kd.R_drew)); exact HO.out) (fun k _ hk => HB2.out.block k hk)⟩, ⟨Below.trans (by repeat (first | (with_reducible first | exact HB.out | apply below_alloc | apply pw_below_drewN | apply below_drew1) | exact HB.out)) (HB2.out.mono (by have := HB.out.size; simp; try omega))⟩⟩
    · go_wp2
      go_ret
      exact ⟨_, rfl, HO.out, HB.out⟩
end Go.Proofs.YtpflmgbpjhbmnaaDoor.F
