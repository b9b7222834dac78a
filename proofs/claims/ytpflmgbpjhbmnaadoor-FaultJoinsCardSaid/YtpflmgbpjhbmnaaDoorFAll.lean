/- fault.All at a chain of wraps about a number. -/
import Derived.Test.YtpflmgbpjhbmnaaDoorFOps
namespace Go.Proofs.YtpflmgbpjhbmnaaDoor.F
open Go.RowKit Go.Extern.Stop Go.Stop Go.Extern Go.Proofs.YtpflmgbpjhbmnaaDoorW.PrintWords Go.Proofs.YtpflmgbpjhbmnaaDoorW.PrintLast Go.Proofs.YtpflmgbpjhbmnaaDoorW.PrintMore
set_option linter.unusedVariables false
set_option linter.unusedSimpArgs false
set_option maxRecDepth 100000

theorem tc_num (p : Value) (w : World) : (Instr.typeAssert (.iface 27 p) 25 27 true).run Tryd.prog w = .ok (.tuple #[p, .bool true]) w := by kernel_rfl
theorem tc_fail (p : Value) (w : World) : (Instr.typeAssert (.iface 47 p) 25 27 true).run Tryd.prog w = .ok (.tuple #[.int .i64 0, .bool false]) w := by kernel_rfl
theorem tc_join (p : Value) (w : World) : (Instr.typeAssert (.iface 73 p) 25 27 true).run Tryd.prog w = .ok (.tuple #[.int .i64 0, .bool false]) w := by kernel_rfl

theorem all_nil (w : World) : Calls Tryd.prog 12 #[.nilIface] w fun e w' => e = .returned (.slice none 0 0) ∧ w' = w := by
  go_enter Tryd.func12, Tryd.ntmps12
  go_wp2
  go_ret
  exact ⟨rfl, rfl⟩

/-- What All says: these numbers. -/
def AllSays (err : Value) (l : List Int) (w : World) : Prop := Calls Tryd.prog 12 #[err] w fun e w' => ∃ v0_ : Value, e = .returned v0_ ∧ Kd.R (Kd.int .i64) 27 w' w.heap.size (fun _ => True) v0_ l ∧ Below w.heap.size w w'

set_option maxHeartbeats 4000000 in
theorem all_num (n : Int) (w : World) : AllSays (num n) [n] w := by
  unfold AllSays num
  have HO := Aside0.mk (Kd.R_nil (Kd.int .i64) 27 w w.heap.size (fun _ => True))
  have HB := Aside0.mk (Below.refl w.heap.size w)
  have e1 := tc_num
  go_enter Tryd.func12, Tryd.ntmps12
  go_wp2_with (first | ((with_reducible refine gate_builtin (b := .append) (xs := #[.tmp 18, .tmp 20]) rfl ?_); at_builtin; refine Kd.R_append (Kd.int .i64) (w0 := w) w.heap.size rfl (.tmp 18) (.tmp 20) 34 27 (.int .i64 0) 8 rfl Tryd.underlying34 infoErrno rfl (by decide) (by omega) (.slice none 0 0) [] n [.int .i64 n] (fun _ => True) (fun _ => False) rfl ?aX ?aP (fun _ hk => hk.elim) ?aF ?aO ?aB ?aS ?aL ?_; (case aX => exact (by first | rfl | (simp; done) | (simp; rfl))); (case aP => exact rfl); (case aB => exact (by repeat (first | (with_reducible first | exact HB.out | apply below_alloc | apply pw_below_drewN | apply below_drew1) | exact HB.out))); (case aF => exact (fun _ _ => trivial)); (case aO => exact (by (with_reducible repeat (first | apply Kd.R_alloc | apply Kd.R_drewN | apply Kd.R_drew)); exact HO.out)); (case aS => exact (below_size (by repeat (first | (with_reducible first | exact HB.out | apply below_alloc | apply pw_below_drewN | apply below_drew1) | exact HB.out)))); (case aL => simp); intro v106 w6 ho hb hg hat; have n0_ := Aside0.mk (hb); have n1_ := Aside0.mk (ho); clear HB; clear HO; have HB := n0_; have HO := n1_; clear n0_ n1_; clear ho hb hg hat))
  go_ret
  exact ⟨_, rfl, HO.out, HB.out⟩

set_option maxHeartbeats 4000000 in
theorem all_fail (o : ByteArray) (t2 : TypeId) (v2 : Value) (l : List Int) (w : World) (H : ∀ W, Below w.heap.size w W → AllSays (.iface t2 v2) l W) : AllSays (fail o (.iface t2 v2)) l w := by
  have HA : Aside0 (∀ W, Below w.heap.size w W → Calls Tryd.prog 12 #[.iface t2 v2] W fun e w' => ∃ v0_ : Value, e = .returned v0_ ∧ Aside0 (Kd.R (Kd.int .i64) 27 w' w.heap.size (fun _ => True) v0_ l) ∧ Aside0 (Below w.heap.size w w')) :=
    ⟨fun W hW => (H W hW).mono fun e w' ⟨v, h1, h2, h3⟩ => ⟨v, h1, ⟨Kd.R_lower h2 hW.size⟩, ⟨hW.trans (h3.mono hW.size)⟩⟩⟩
  have HU : Aside0 (Calls Tryd.prog 20 #[.iface 47 (.agg #[.string o, .iface t2 v2])] w fun e w' => e = .returned (.iface t2 v2) ∧ Below w.heap.size w w') := ⟨unwrap_fail o (.iface t2 v2) w⟩
  clear H
  unfold AllSays fail
  have e1 := tc_fail
  have e2 := ta_fail_N2
  go_enter Tryd.func12, Tryd.ntmps12
  go_wp2_with (first | (go_at_call 20; refine HU.out.mono ?_; rintro e w' ⟨rfl, hb⟩; have HB := Aside0.mk hb; clear hb) | (go_at_call 12; refine (HA.out _ HB.out).mono ?_; rintro e w' ⟨v, rfl, HO2, HB2⟩))
  go_ret
  exact ⟨_, rfl, HO2.out, HB2.out⟩

theorem all_chain (n : Int) : ∀ (ops : List ByteArray) (w : World), AllSays (chn ops (num n)) [n] w
  | [], w => all_num n w
  | o :: ops, w => by
    rw [chn_cons]
    obtain ⟨t2, v2, hv2⟩ := chn_iface (End.num n) ops
    have ih := all_chain n ops
    rw [hv2] at ih ⊢
    exact all_fail o t2 v2 [n] w (fun W _ => ih W)
end Go.Proofs.YtpflmgbpjhbmnaaDoor.F
