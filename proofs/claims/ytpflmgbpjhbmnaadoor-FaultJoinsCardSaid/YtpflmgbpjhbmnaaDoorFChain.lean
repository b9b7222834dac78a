/- errors.as, errors.As, fault.Code at a chain of wraps about a number. -/
import Derived.Test.YtpflmgbpjhbmnaaDoorFAs
import Derived.Below
import Derived.Deep.LoopGhost
namespace Go.Proofs.YtpflmgbpjhbmnaaDoor.F
open Go.RowKit Go.Extern.Stop Go.Stop Go.Extern
set_option linter.unusedVariables false
set_option linter.unusedSimpArgs false
set_option maxRecDepth 100000

theorem below_cell {n : Nat} {w w' : World} (h : Below n w w') {a : Addr} {v : Value} (hn : w.heap.size ≤ n) (ha : w.cell? a = some v) : w'.cell? a = some v :=
  (h.cell (Nat.lt_of_lt_of_le (World.block_lt_of_cell? w _ ha) hn)).trans ha
theorem below_frozen {n : Nat} {w w' : World} (h : Below n w w') {a : Addr} (hn : a.block < n) : w'.frozen? a = w.frozen? a := by
  have := h.block a.block hn
  simp [World.frozen?, this]

set_option maxHeartbeats 4000000 in
theorem as_chain (a t : Addr) (old : Value) (n : Int) (ops : List ByteArray) (w : World) (ha : w.cell? a = some (.pointer (some t))) (ht : w.cell? t = some old) (hf : w.frozen? t = false) :
    Calls Tryd.prog 26 #[chn ops (num n), .iface 49 (.pointer (some t)), pv a, rty 27] w fun e w' => e = .returned (.bool true) ∧ ∃ W, Below w.heap.size w W ∧ w' = W.setCell t (.int .i64 n) := by
  have hal := World.block_lt_of_cell? w _ ha
  have htl := World.block_lt_of_cell? w _ ht
  have h6 := @run_callFunc_extern Tryd.prog 23 _ (fun args => ReflectliteValue.unpack (args.getD 0 (.tuple #[]))) Tryd.func23 (by kernel_rfl) (by kernel_rfl) (by kernel_rfl) (by kernel_rfl)
  have h10 := @run_callFunc_extern Tryd.prog 27 _ ReflectliteType.typeOf Tryd.func27 (by kernel_rfl) (by kernel_rfl) (by kernel_rfl) (by kernel_rfl)
  have h35 := @run_callFunc_extern Tryd.prog 57 _ (ReflectliteType.relation "AssignableTo" ReflectliteType.assignableTo) Tryd.func57 (by kernel_rfl) (by kernel_rfl) (by kernel_rfl) (by kernel_rfl)
  have h11 := @run_callFunc_extern Tryd.prog 29 _ (ReflectliteValue.method (ReflectliteValue.valueError "reflectlite.Value.Elem" 0) ReflectliteValue.elem) Tryd.func29 (by kernel_rfl) (by kernel_rfl) (by kernel_rfl) (by kernel_rfl)
  have h12 := @run_callFunc_extern Tryd.prog 30 _ ReflectliteValue.set Tryd.func30 (by kernel_rfl) (by kernel_rfl) (by kernel_rfl) (by kernel_rfl)
  have tN := typeOfN
  have tF := typeOfF
  have aN := assignN
  have aF := assignF
  have mA := methodAssignableTo
  have vN := valueOfN
  have c1 := ta_fail_As
  have c2 := ta_fail_1
  have m1 := mU
  unfold pv rty
  go_enter Tryd.func26, Tryd.ntmps26
  go_wp2
  go_loopg [0] ops.length (fun kq v0 wr => ∃ o : List ByteArray, v0 = chn o (num n) ∧ o.length = kq ∧ Below (w.heap.size + 1) (w.alloc (.cells #[.pointer (some ⟨1, 49, none⟩), .pointer (some a), .int .u64 150] 59)) wr)
  case atStart => exact ⟨ops, rfl, rfl, Below.refl _ _⟩
  case round =>
    obtain ⟨o, rfl, hk, hb⟩ := hrel
    have k0 := below_cell hb (by simp) (show (w.alloc (.cells #[.pointer (some ⟨1, 49, none⟩), .pointer (some a), .int .u64 150] 59)).cell? ⟨w.heap.size, 0, none⟩ = some (.pointer (some ⟨1, 49, none⟩)) by simp)
    have k1 := below_cell hb (by simp) (show (w.alloc (.cells #[.pointer (some ⟨1, 49, none⟩), .pointer (some a), .int .u64 150] 59)).cell? ⟨w.heap.size, 1, none⟩ = some (.pointer (some a)) by simp)
    have k2 := below_cell hb (by simp) (show (w.alloc (.cells #[.pointer (some ⟨1, 49, none⟩), .pointer (some a), .int .u64 150] 59)).cell? ⟨w.heap.size, 2, none⟩ = some (.int .u64 150) by simp)
    have hB : Below w.heap.size w wr := ((Below.refl _ _).alloc (Nat.le_refl _) _).trans (hb.mono (Nat.le_succ _))
    cases o with
    | nil =>
      simp only [chn_nil, num]
      have el := elemV a t wr (below_cell hB (Nat.le_refl _) ha)
      have st := setN t ⟨wr.heap.size, 0, none⟩ n old (wr.alloc (.cells #[.int .i64 n] 27)) (by simp) (below_cell (hB.alloc (by have := hB.size; omega) _) (Nat.le_refl _) ht) (by rw [below_frozen (hB.alloc (by have := hB.size; omega) _) htl]; exact hf)
      go_wp2
      go_ret
      exact ⟨rfl, _, hB.alloc (by have := hB.size; omega) _, rfl⟩
    | cons o1 o2 =>
      simp only [chn_cons, fail]
      obtain ⟨t2, v2, hv2⟩ : ∃ t2 v2, chn o2 (num n) = .iface t2 v2 := by cases o2 <;> exact ⟨_, _, rfl⟩
      go_wp2_with ((go_at_call 50; refine (failUnwrap _ _ _).mono ?_; rintro e w' ⟨rfl, hc⟩))
      have hne : o1 :: o2 ≠ [] := by simp
      go_roundg o2.length
      case measure => simp at hk; omega
      case rel => exact ⟨o2, hv2.symm, rfl, hb.trans (hc.mono (by have := hB.size; have := hb.size; simp at this; omega))⟩

end Go.Proofs.YtpflmgbpjhbmnaaDoor.F
