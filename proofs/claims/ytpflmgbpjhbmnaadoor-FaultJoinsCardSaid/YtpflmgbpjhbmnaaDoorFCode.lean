/- errors.As, fault.Code. -/
import Derived.Test.YtpflmgbpjhbmnaaDoorFChain
namespace Go.Proofs.YtpflmgbpjhbmnaaDoor.F
open Go.RowKit Go.Extern.Stop Go.Stop Go.Extern
set_option linter.unusedVariables false
set_option linter.unusedSimpArgs false
set_option maxRecDepth 100000

/-- errors.errorType, as it is laid. -/
def Laid (w : World) : Prop := w.cell? ⟨0, 0, none⟩ = some (.iface 77 (.agg #[.pointer (some ⟨1, 25, none⟩)]))
theorem Laid.below {n : Nat} {w w' : World} (h : Laid w) (hb : Below n w w') (hn : w.heap.size ≤ n) : Laid w' := below_cell hb hn h

theorem as_nil (t : Value) (w : World) : Calls Tryd.prog 19 #[.nilIface, t] w fun e w' => e = .returned (.bool false) ∧ w' = w := by
  go_enter Tryd.func19, Tryd.ntmps19
  go_wp2
  go_ret
  exact ⟨rfl, rfl⟩

/-- What errors.As says of an error whose walk by errors.as is known. -/
def AsSays (err : Value) (n : Int) (w0 : World) : Prop := ∀ (a t : Addr) (old : Value) (w : World), Below w0.heap.size w0 w → w.cell? a = some (.pointer (some t)) → w.cell? t = some old → w.frozen? t = false →
    Calls Tryd.prog 26 #[err, .iface 49 (.pointer (some t)), pv a, rty 27] w fun e w' => e = .returned (.bool true) ∧ ∃ W, Below w.heap.size w W ∧ w' = W.setCell t (.int .i64 n)
theorem asSays_chain (ops : List ByteArray) (n : Int) (w0 : World) : AsSays (chn ops (num n)) n w0 := fun a t old w _ ha ht hf => as_chain a t old n ops w ha ht hf

set_option maxHeartbeats 4000000 in
theorem as_some (et : TypeId) (ev : Value) (n : Int) (t : Addr) (old : Value) (w0 w : World) (hL : Laid w) (H : AsSays (.iface et ev) n w0) (hW : Below w0.heap.size w0 w) (ht : w.cell? t = some old) (hf : w.frozen? t = false) :
    Calls Tryd.prog 19 #[.iface et ev, .iface 49 (.pointer (some t))] w fun e w' => e = .returned (.bool true) ∧ ∃ W, Below w.heap.size w W ∧ w' = W.setCell t (.int .i64 n) := by
  have htl := World.block_lt_of_cell? w _ ht
  have h6 := @run_callFunc_extern Tryd.prog 23 _ (fun args => ReflectliteValue.unpack (args.getD 0 (.tuple #[]))) Tryd.func23 (by kernel_rfl) (by kernel_rfl) (by kernel_rfl) (by kernel_rfl)
  have h7 := @run_callFunc_extern Tryd.prog 24 _ (ReflectliteValue.methodAny (ReflectliteValue.valueError "reflectlite.Value.Type" 0) (fun t _ _ _ => ReflectliteType.toType t)) Tryd.func24 (by kernel_rfl) (by kernel_rfl) (by kernel_rfl) (by kernel_rfl)
  have h8 := @run_callFunc_extern Tryd.prog 25 _ (ReflectliteValue.method (ReflectliteValue.valueError "reflectlite.Value.IsNil" 0) ReflectliteValue.isNil) Tryd.func25 (by kernel_rfl) (by kernel_rfl) (by kernel_rfl) (by kernel_rfl)
  have h27 := @run_callFunc_extern Tryd.prog 45 _ (ReflectliteType.abiMethod fun t => do pure (.int .u8 (← Rtype.kind t))) Tryd.func45 (by kernel_rfl) (by kernel_rfl) (by kernel_rfl) (by kernel_rfl)
  have h37 := @run_callFunc_extern Tryd.prog 59 _ (ReflectliteType.method ReflectliteType.elem) Tryd.func59 (by kernel_rfl) (by kernel_rfl) (by kernel_rfl) (by kernel_rfl)
  have h38 := @run_callFunc_extern Tryd.prog 60 _ (ReflectliteType.relation "Implements" ReflectliteType.implements_) Tryd.func60 (by kernel_rfl) (by kernel_rfl) (by kernel_rfl) (by kernel_rfl)
  have f6 := valueOfP
  have f7 := typeP
  have mK := methodKind
  have mE := methodElem
  have mI := methodImplements
  have kP := kindP
  have kN := kindN
  have eP := elemP
  have iN := implementsN
  have hl2 : ((w.alloc (.cells #[.pointer (some t)] 49)).alloc (.cells #[.pointer (some ⟨1, 49, none⟩), .pointer (some ⟨w.heap.size, 0, none⟩), .int .u64 150] 59)).cell? ⟨0, 0, none⟩ = some (.iface 77 (.agg #[.pointer (some ⟨1, 25, none⟩)])) :=
    hL.below (((Below.refl _ _).alloc (Nat.le_refl _) _).alloc (by simp) _) (Nat.le_refl _)
  have n8 := isNilP ⟨w.heap.size, 0, none⟩ t ((w.alloc (.cells #[.pointer (some t)] 49)).alloc (.cells #[.pointer (some ⟨1, 49, none⟩), .pointer (some ⟨w.heap.size, 0, none⟩), .int .u64 150] 59)) (by simp)
  unfold AsSays pv rty at H
  have hB2 : Below w.heap.size w ((w.alloc (.cells #[.pointer (some t)] 49)).alloc (.cells #[.pointer (some ⟨1, 49, none⟩), .pointer (some ⟨w.heap.size, 0, none⟩), .int .u64 150] 59)) := ((Below.refl _ _).alloc (Nat.le_refl _) _).alloc (by simp) _
  go_enter Tryd.func19, Tryd.ntmps19
  go_wp2_with ((go_at_call 26; refine (H ⟨w.heap.size, 0, none⟩ t old _ (hW.trans (hB2.mono hW.size)) (by simp) (below_cell hB2 (Nat.le_refl _) ht) (by rw [below_frozen hB2 htl]; exact hf)).mono ?_; rintro e w' ⟨rfl, W, hb, rfl⟩))
  go_ret
  exact ⟨rfl, W, hB2.trans (hb.mono (by simp; omega)), rfl⟩

theorem code_nil (w : World) : Calls Tryd.prog 9 #[.nilIface] w fun e w' => e = .returned (.int .i64 0) ∧ Below w.heap.size w w' := by
  go_enter Tryd.func9, Tryd.ntmps9
  go_wp2_with ((go_at_call 19; refine (as_nil _ _).mono ?_; rintro e w' ⟨rfl, rfl⟩))
  go_ret
  exact ⟨rfl, (Below.refl _ _).alloc (Nat.le_refl _) _⟩

theorem box0 (W w : World) (n : Int) (hb : Below (w.alloc (.cells #[.int .i64 0] 27)).heap.size (w.alloc (.cells #[.int .i64 0] 27)) W) : (W.setCell ⟨w.heap.size, 0, none⟩ (.int .i64 n)).cell? ⟨w.heap.size, 0, none⟩ = some (.int .i64 n) := by
  have h0 : W.heap[w.heap.size]? = some (.cells #[.int .i64 0] 27 (0, 0)) := (hb.block w.heap.size (by simp)).trans (by show (w.heap.push _)[w.heap.size]? = _; rw [Array.getElem?_push, if_pos rfl])
  simp [World.setCell, World.cell?, Array.getElem?_modify, h0]

set_option maxHeartbeats 4000000 in
theorem code_some (et : TypeId) (ev : Value) (n : Int) (w0 w : World) (hL : Laid w) (H : AsSays (.iface et ev) n w0) (hW : Below w0.heap.size w0 w) :
    Calls Tryd.prog 9 #[.iface et ev] w fun e w' => e = .returned (.int .i64 n) ∧ Below w.heap.size w w' := by
  have hB : Below w.heap.size w (w.alloc (.cells #[.int .i64 0] 27)) := (Below.refl _ _).alloc (Nat.le_refl _) _
  go_enter Tryd.func9, Tryd.ntmps9
  go_wp2_with ((go_at_call 19; refine (as_some et ev n ⟨w.heap.size, 0, none⟩ (.int .i64 0) w0 _ (hL.below hB (Nat.le_refl _)) H (hW.trans (hB.mono hW.size)) (by simp) (by simp)).mono ?_; rintro e w' ⟨rfl, W, hb, rfl⟩; have hc := box0 W w n hb))
  go_ret
  exact ⟨rfl, (hB.trans (hb.mono (by simp))).setCell (Nat.le_refl _) _⟩
end Go.Proofs.YtpflmgbpjhbmnaaDoor.F
