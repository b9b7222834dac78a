/- errors.Is, fault.Is at a chain of wraps about a number. -/
import Derived.Test.YtpflmgbpjhbmnaaDoorFOps
namespace Go.Proofs.YtpflmgbpjhbmnaaDoor.F
open Go.RowKit Go.Extern.Stop Go.Stop Go.Extern Go.Proofs.YtpflmgbpjhbmnaaDoorW.PrintWords Go.Proofs.YtpflmgbpjhbmnaaDoorW.PrintLast Go.Proofs.YtpflmgbpjhbmnaaDoorW.PrintMore
set_option linter.unusedVariables false
set_option linter.unusedSimpArgs false
set_option maxRecDepth 100000

theorem eq_nn (w : World) (a b : Int) : (Go.binOp .eql 25 (.iface 27 (.int .i64 a)) (.iface 27 (.int .i64 b))).run Tryd.prog w = .ok (.bool (a == b)) w := by
  kernel_rfl
theorem eq_fn (w : World) (v : Value) (b : Int) : (Go.binOp .eql 25 (.iface 47 v) (.iface 27 (.int .i64 b))).run Tryd.prog w = .ok (.bool false) w := by
  kernel_rfl
theorem eq_jn (w : World) (v : Value) (b : Int) : (Go.binOp .eql 25 (.iface 73 v) (.iface 27 (.int .i64 b))).run Tryd.prog w = .ok (.bool false) w := by
  kernel_rfl
theorem eq_0n (w : World) (b : Int) : (Go.binOp .eql 25 .nilIface (.iface 27 (.int .i64 b))).run Tryd.prog w = .ok (.bool false) w := by
  kernel_rfl
theorem comparableN (w : World) : (callFunc 58 #[.agg #[.pointer (some ⟨1, 27, none⟩)]]).run Tryd.prog w = .ok (.value (.bool true)) w := by kernel_rfl

set_option maxHeartbeats 4000000 in
theorem is_chain (n m : Int) (ops : List ByteArray) (w : World) :
    Calls Tryd.prog 28 #[chn ops (num n), num m, .bool true] w fun e w' => e = .returned (.bool (n == m)) ∧ Below w.heap.size w w' := by
  have e1 := eq_nn
  have e2 := eq_fn
  have c1 := ta_fail_Is
  have c2 := ta_fail_1
  have c3 := ta_num_Is
  have c4 := ta_num_1
  have c5 := ta_num_N
  have m1 := mU
  unfold num
  have HB := Aside0.mk (Below.refl w.heap.size w)
  go_enter Tryd.func28, Tryd.ntmps28
  go_wp2
  go_loopg [0] ops.length (fun kq v0 wr => ∃ o : List ByteArray, v0 = chn o (num n) ∧ o.length = kq ∧ Aside0 (Below w.heap.size w wr))
  case atStart => exact ⟨ops, rfl, rfl, HB⟩
  case round =>
    clear HB
    obtain ⟨o, rfl, hk, hb⟩ := hrel
    cases o with
    | nil =>
      simp only [chn_nil, num]
      by_cases hnm : n = m
      · have hb1 : (n == m) = true := beq_iff_eq.2 hnm
        go_wp2
        go_ret
        exact ⟨by rw [hb1]; rfl, hb.out⟩
      · have hb1 : (n == m) = false := beq_eq_false_iff_ne.2 hnm
        go_wp2
        go_ret
        exact ⟨by rw [hb1]; rfl, hb.out⟩
    | cons o1 o2 =>
      simp only [chn_cons, fail]
      obtain ⟨t2, v2, hv2⟩ : ∃ t2 v2, chn o2 (num n) = .iface t2 v2 := by cases o2 <;> exact ⟨_, _, rfl⟩
      rw [hv2]
      go_wp2_with ((go_at_call 50; refine (failUnwrap _ _ _).mono ?_; rintro e w' ⟨rfl, hc⟩))
      go_roundg o2.length
      case measure => simp at hk; omega
      case rel => exact ⟨o2, hv2.symm, rfl, ⟨hb.out.trans (hc.mono hb.out.size)⟩⟩

/-- What errors.Is says of an error whose walk by errors.is is known. -/
def IsSays (err : Value) (m : Int) (r : Bool) (w0 : World) : Prop := ∀ w, Below w0.heap.size w0 w →
    Calls Tryd.prog 28 #[err, num m, .bool true] w fun e w' => e = .returned (.bool r) ∧ Below w.heap.size w w'

theorem errIs_nil (m : Int) (w : World) : Calls Tryd.prog 13 #[.nilIface, .int .i64 m] w fun e w' => e = .returned (.bool false) ∧ w' = w := by
  have HI : Calls Tryd.prog 21 #[.nilIface, .iface 27 (.int .i64 m)] w fun e w' => e = .returned (.bool false) ∧ w' = w := by
    have e1 := eq_0n
    go_enter Tryd.func21, Tryd.ntmps21
    go_wp2
    go_ret
    exact ⟨rfl, rfl⟩
  have HI2 := Aside0.mk HI
  clear HI
  go_enter Tryd.func13, Tryd.ntmps13
  go_wp2_with ((go_at_call 21; refine (HI2.out).mono ?_; rintro e w' ⟨rfl, hw⟩))
  go_ret
  first | exact ⟨rfl, hw⟩ | exact ⟨rfl, rfl⟩

set_option maxHeartbeats 4000000 in
theorem errIs_some (t2 : TypeId) (v2 : Value) (m : Int) (r : Bool) (w0 w : World) (H : IsSays (.iface t2 v2) m r w0) (hW : Below w0.heap.size w0 w) :
    Calls Tryd.prog 13 #[.iface t2 v2, .int .i64 m] w fun e w' => e = .returned (.bool r) ∧ Below w.heap.size w w' := by
  have HI : Calls Tryd.prog 21 #[.iface t2 v2, .iface 27 (.int .i64 m)] w fun e w' => e = .returned (.bool r) ∧ Below w.heap.size w w' := by
    have H2 := H w hW
    unfold num at H2
    have h10 := @run_callFunc_extern Tryd.prog 27 _ ReflectliteType.typeOf Tryd.func27 (by kernel_rfl) (by kernel_rfl) (by kernel_rfl) (by kernel_rfl)
    have tN := typeOfN
    have mC := methodComparable
    have cN := comparableN
    have H3 := Aside0.mk H2
    clear H2 H
    go_enter Tryd.func21, Tryd.ntmps21
    go_wp2_with ((go_at_call 28; refine (H3.out).mono ?_; rintro e w' ⟨rfl, hw⟩))
    go_ret
    exact ⟨rfl, hw⟩
  have HI2 := Aside0.mk HI
  clear HI H
  go_enter Tryd.func13, Tryd.ntmps13
  go_wp2_with ((go_at_call 21; refine (HI2.out).mono ?_; rintro e w' ⟨rfl, hw⟩))
  go_ret
  first | exact ⟨rfl, hw⟩ | exact ⟨rfl, rfl⟩
end Go.Proofs.YtpflmgbpjhbmnaaDoor.F
