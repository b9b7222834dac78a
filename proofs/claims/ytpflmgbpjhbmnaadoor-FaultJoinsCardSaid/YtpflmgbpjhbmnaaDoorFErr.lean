/- Errors as values: a number, a wrapped one. errors.Unwrap, fault.New, fault.Wrap, (Fail).Unwrap. -/
import Derived.Test.YtpflmgbpjhbmnaaDoorProg
import Derived.WalkKit
import Derived.LaidEql
import Derived.Stop.Asserts
import Derived.RowKitTokens
import Derived.KernelRfl
namespace Go.Proofs.YtpflmgbpjhbmnaaDoor.F
open Go.RowKit Go.Extern.Stop Go.Stop Go.Extern
set_option linter.unusedVariables false
set_option linter.unusedSimpArgs false
set_option maxRecDepth 100000

def num (n : Int) : Value := .iface 27 (.int .i64 n)
def fail (o : ByteArray) (v : Value) : Value := .iface 47 (.agg #[.string o, v])

theorem ta_num_1 (v : Value) (w : World) : (Instr.typeAssert (.iface 27 v) 25 68 true).run Tryd.prog w = .ok (.tuple #[.nilIface, .bool false]) w := run_typeAssert_lacksB Tryd.underlying68 (by kernel_rfl) (by kernel_rfl) v _ w
theorem ta_num_N (v : Value) (w : World) : (Instr.typeAssert (.iface 27 v) 25 52 true).run Tryd.prog w = .ok (.tuple #[.nilIface, .bool false]) w := run_typeAssert_lacksB Tryd.underlying52 (by kernel_rfl) (by kernel_rfl) v _ w
theorem ta_num_N2 (v : Value) (w : World) : (Instr.typeAssert (.iface 27 v) 25 53 true).run Tryd.prog w = .ok (.tuple #[.nilIface, .bool false]) w := run_typeAssert_lacksB Tryd.underlying53 (by kernel_rfl) (by kernel_rfl) v _ w
theorem ta_num_As (v : Value) (w : World) : (Instr.typeAssert (.iface 27 v) 25 81 true).run Tryd.prog w = .ok (.tuple #[.nilIface, .bool false]) w := run_typeAssert_lacksB Tryd.underlying81 (by kernel_rfl) (by kernel_rfl) v _ w
theorem ta_num_Is (v : Value) (w : World) : (Instr.typeAssert (.iface 27 v) 25 84 true).run Tryd.prog w = .ok (.tuple #[.nilIface, .bool false]) w := run_typeAssert_lacksB Tryd.underlying84 (by kernel_rfl) (by kernel_rfl) v _ w
theorem ta_fail_1 (v : Value) (w : World) : (Instr.typeAssert (.iface 47 v) 25 68 true).run Tryd.prog w = .ok (.tuple #[.iface 47 v, .bool true]) w := run_typeAssert_hasB Tryd.underlying68 (by kernel_rfl) v _ w
theorem ta_fail_N (v : Value) (w : World) : (Instr.typeAssert (.iface 47 v) 25 52 true).run Tryd.prog w = .ok (.tuple #[.nilIface, .bool false]) w := run_typeAssert_lacksB Tryd.underlying52 (by kernel_rfl) (by kernel_rfl) v _ w
theorem ta_fail_N2 (v : Value) (w : World) : (Instr.typeAssert (.iface 47 v) 25 53 true).run Tryd.prog w = .ok (.tuple #[.nilIface, .bool false]) w := run_typeAssert_lacksB Tryd.underlying53 (by kernel_rfl) (by kernel_rfl) v _ w
theorem ta_fail_As (v : Value) (w : World) : (Instr.typeAssert (.iface 47 v) 25 81 true).run Tryd.prog w = .ok (.tuple #[.nilIface, .bool false]) w := run_typeAssert_lacksB Tryd.underlying81 (by kernel_rfl) (by kernel_rfl) v _ w
theorem ta_fail_Is (v : Value) (w : World) : (Instr.typeAssert (.iface 47 v) 25 84 true).run Tryd.prog w = .ok (.tuple #[.nilIface, .bool false]) w := run_typeAssert_lacksB Tryd.underlying84 (by kernel_rfl) (by kernel_rfl) v _ w
theorem ta_join_1 (v : Value) (w : World) : (Instr.typeAssert (.iface 73 v) 25 68 true).run Tryd.prog w = .ok (.tuple #[.nilIface, .bool false]) w := run_typeAssert_lacksB Tryd.underlying68 (by kernel_rfl) (by kernel_rfl) v _ w
theorem ta_join_N (v : Value) (w : World) : (Instr.typeAssert (.iface 73 v) 25 52 true).run Tryd.prog w = .ok (.tuple #[.iface 73 v, .bool true]) w := run_typeAssert_hasB Tryd.underlying52 (by kernel_rfl) v _ w
theorem ta_join_N2 (v : Value) (w : World) : (Instr.typeAssert (.iface 73 v) 25 53 true).run Tryd.prog w = .ok (.tuple #[.iface 73 v, .bool true]) w := run_typeAssert_hasB Tryd.underlying53 (by kernel_rfl) v _ w
theorem ta_join_As (v : Value) (w : World) : (Instr.typeAssert (.iface 73 v) 25 81 true).run Tryd.prog w = .ok (.tuple #[.nilIface, .bool false]) w := run_typeAssert_lacksB Tryd.underlying81 (by kernel_rfl) (by kernel_rfl) v _ w
theorem ta_join_Is (v : Value) (w : World) : (Instr.typeAssert (.iface 73 v) 25 84 true).run Tryd.prog w = .ok (.tuple #[.nilIface, .bool false]) w := run_typeAssert_lacksB Tryd.underlying84 (by kernel_rfl) (by kernel_rfl) v _ w

theorem failUnwrap (o v : Value) (w : World) : Calls Tryd.prog 50 #[.agg #[o, v]] w fun e w' => e = .returned v ∧ Below w.heap.size w w' := by
  go_enter Tryd.func50, Tryd.ntmps50
  go_wp2
  go_ret
  exact ⟨rfl, (Below.refl _ _).alloc (Nat.le_refl _) _⟩

theorem mU (o v : Value) (w : World) : (Go.method 216 47 (.agg #[o, v]) "Unwrap").run Tryd.prog w = .ok (50, .agg #[o, v]) w := by kernel_rfl

theorem unwrap_fail (o : ByteArray) (v : Value) (w : World) : Calls Tryd.prog 20 #[fail o v] w fun e w' => e = .returned v ∧ Below w.heap.size w w' := by
  unfold fail
  have a1 := ta_fail_1
  have a2 := mU
  go_enter Tryd.func20, Tryd.ntmps20
  go_wp2_with ((go_at_call 50; refine (failUnwrap _ _ _).mono ?_; rintro e w' ⟨rfl, hb⟩))
  go_ret
  exact ⟨rfl, hb⟩

theorem unwrap_num (n : Int) (w : World) : Calls Tryd.prog 20 #[num n] w fun e w' => e = .returned .nilIface ∧ w' = w := by
  unfold num
  have a1 := ta_num_1
  go_enter Tryd.func20, Tryd.ntmps20
  go_wp2
  go_ret
  exact ⟨rfl, rfl⟩

theorem unwrap_join (p : Value) (w : World) : Calls Tryd.prog 20 #[.iface 73 p] w fun e w' => e = .returned .nilIface ∧ w' = w := by
  have a1 := ta_join_1
  go_enter Tryd.func20, Tryd.ntmps20
  go_wp2
  go_ret
  exact ⟨rfl, rfl⟩

/-- A chain of wraps about a value: the first op outermost. -/
def chn (ops : List ByteArray) (v : Value) : Value := ops.foldr fail v
@[simp] theorem chn_nil (v : Value) : chn [] v = v := rfl
@[simp] theorem chn_cons (o : ByteArray) (ops : List ByteArray) (v : Value) : chn (o :: ops) v = fail o (chn ops v) := rfl

theorem new_ok (w : World) : Calls Tryd.prog 7 #[.int .i64 0] w fun e w' => e = .returned .nilIface ∧ w' = w := by
  go_enter Tryd.func7, Tryd.ntmps7
  go_wp2
  go_ret
  exact ⟨rfl, rfl⟩
theorem new_num (n : Int) (w : World) (hn : n ≠ 0) : Calls Tryd.prog 7 #[.int .i64 n] w fun e w' => e = .returned (num n) ∧ w' = w := by
  go_enter Tryd.func7, Tryd.ntmps7
  go_wp2
  go_ret
  exact ⟨rfl, rfl⟩
theorem wrap_nil (o : ByteArray) (w : World) : Calls Tryd.prog 8 #[.string o, .nilIface] w fun e w' => e = .returned .nilIface ∧ w' = w := by
  go_enter Tryd.func8, Tryd.ntmps8
  go_wp2
  go_ret
  exact ⟨rfl, rfl⟩
theorem wrap_some (o : ByteArray) (t : TypeId) (v : Value) (w : World) : Calls Tryd.prog 8 #[.string o, .iface t v] w fun e w' => e = .returned (fail o (.iface t v)) ∧ w' = w := by
  go_enter Tryd.func8, Tryd.ntmps8
  go_wp2
  go_ret
  exact ⟨rfl, rfl⟩
end Go.Proofs.YtpflmgbpjhbmnaaDoor.F
