/- errors.as, errors.is at a wrapped join. -/
import Derived.Test.YtpflmgbpjhbmnaaDoorFJoin
namespace Go.Proofs.YtpflmgbpjhbmnaaDoor.F
open Go.RowKit Go.Extern.Stop Go.Stop Go.Extern Go.Proofs.YtpflmgbpjhbmnaaDoorW.PrintWords Go.Proofs.YtpflmgbpjhbmnaaDoorW.PrintLast Go.Proofs.YtpflmgbpjhbmnaaDoorW.PrintMore
set_option linter.unusedVariables false
set_option linter.unusedSimpArgs false
set_option maxRecDepth 100000

def jv (b : Nat) : Value := .iface 73 (.pointer (some ⟨b, 0, none⟩))
/-- A joined error lies at b: these numbers, none of them 0. -/
def JoinAt (w : World) (b : Nat) (l : List Int) : Prop := ∃ A c, w.cell? ⟨b, 0, none⟩ = some (.slice A l.length c) ∧ l.length ≤ c ∧ errK.C w A l.length l ∧ l ≠ [] ∧ (∀ x ∈ l, x ≠ 0) ∧ l.length ≤ 200
theorem JoinAt.below {n : Nat} {w w' : World} {b : Nat} {l : List Int} (h : JoinAt w b l) (hb : Below n w w') (hn : w.heap.size ≤ n) : JoinAt w' b l := by
  obtain ⟨A, c, h1, h2, h3, h4⟩ := h
  exact ⟨A, c, below_cell hb hn h1, h2, Kd.C_below h3 (hb.mono hn), h4⟩
theorem nz_ne (l : List Int) : ∀ x ∈ nz l, x ≠ 0 := by
  intro x hx
  unfold nz at hx
  have := (List.mem_filter.1 hx).2
  simpa using this

theorem mJ (p : Value) (w : World) : (Go.method 216 73 p "Unwrap").run Tryd.prog w = .ok (55, p) w := by kernel_rfl
theorem joinUnwrap (b : Nat) (v : Value) (w : World) (h : w.cell? ⟨b, 0, none⟩ = some v) : Calls Tryd.prog 55 #[.pointer (some ⟨b, 0, none⟩)] w fun e w' => e = .returned v ∧ w' = w := by
  go_enter Tryd.func55, Tryd.ntmps55
  go_wp2
  go_ret
  exact ⟨rfl, rfl⟩

set_option maxHeartbeats 4000000 in
theorem as_join (a t : Addr) (old : Value) (o : ByteArray) (b : Nat) (n : Int) (l : List Int) (w : World) (hJ : JoinAt w b (n :: l)) (ha : w.cell? a = some (.pointer (some t))) (ht : w.cell? t = some old) (hf : w.frozen? t = false) :
    Calls Tryd.prog 26 #[fail o (jv b), .iface 49 (.pointer (some t)), pv a, rty 27] w fun e w' => e = .returned (.bool true) ∧ ∃ W, Below w.heap.size w W ∧ w' = W.setCell t (.int .i64 n) := by
  have htl := World.block_lt_of_cell? w _ ht
  obtain ⟨A, c, j1, j2, j3, j4, j5, j6⟩ := hJ
  have hn0 : n ≠ 0 := j5 n List.mem_cons_self
  obtain ⟨ad, e, hx⟩ := at_err j3 0 (by decide) (by simp)
  cases e
  rw [show rdOf 0 (n :: l) 0 = n from rfl, errV_some n hn0] at hx
  have hlen : decide (0 < (n :: l).length) = true := by simp
  have hlen3 : 0 < (n :: l).length := by simp
  have hlen4 : (0 : Int) < ((n :: l).length : Int) := by simp
  have hlen2 : decide ((0 : Int) < ((n :: l).length : Int)) = true := by simp
  have h10 := @run_callFunc_extern Tryd.prog 27 _ ReflectliteType.typeOf Tryd.func27 (by kernel_rfl) (by kernel_rfl) (by kernel_rfl) (by kernel_rfl)
  have h35 := @run_callFunc_extern Tryd.prog 57 _ (ReflectliteType.relation "AssignableTo" ReflectliteType.assignableTo) Tryd.func57 (by kernel_rfl) (by kernel_rfl) (by kernel_rfl) (by kernel_rfl)
  have tF := typeOfF
  have tJ := typeOfJ
  have aF := assignF
  have aJ := assignJ
  have mA := methodAssignableTo
  have c1 := ta_fail_As
  have c2 := ta_fail_1
  have c3 := ta_join_As
  have c4 := ta_join_1
  have c5 := ta_join_N
  have m1 := mU
  have m2 := mJ
  generalize (n :: l).length = len at j1 j2 j3 hlen hlen2 hlen3 hlen4
  have hB0 : Below w.heap.size w (w.alloc (.cells #[.pointer (some ⟨1, 49, none⟩), .pointer (some a), .int .u64 150] 59)) := (Below.refl _ _).alloc (Nat.le_refl _) _
  have kk : Aside0 (∀ W, Below (w.alloc (.cells #[.pointer (some ⟨1, 49, none⟩), .pointer (some a), .int .u64 150] 59)).heap.size (w.alloc (.cells #[.pointer (some ⟨1, 49, none⟩), .pointer (some a), .int .u64 150] 59)) W →
      Below w.heap.size w W ∧ W.cell? ⟨w.heap.size, 0, none⟩ = some (.pointer (some ⟨1, 49, none⟩)) ∧ W.cell? ⟨w.heap.size, 1, none⟩ = some (.pointer (some a)) ∧ W.cell? ⟨w.heap.size, 2, none⟩ = some (.int .u64 150) ∧
      W.cell? ⟨b, 0, none⟩ = some (.slice (some ad) len c) ∧ W.cell? ad = some (.iface 47 (.agg #[.string xB, num n])) ∧ W.cell? (ad.add 0) = some (.iface 47 (.agg #[.string xB, num n])) ∧
      Calls Tryd.prog 26 #[.iface 47 (.agg #[.string xB, num n]), .iface 49 (.pointer (some t)), .agg #[.pointer (some ⟨1, 49, none⟩), .pointer (some a), .int .u64 150], .iface 77 (.agg #[.pointer (some ⟨1, 27, none⟩)])] W fun e w' => e = .returned (.bool true) ∧ ∃ W', Below w.heap.size w W' ∧ w' = W'.setCell t (.int .i64 n)) := by
    refine ⟨fun W hW => ?_⟩
    have hB : Below w.heap.size w W := hB0.trans (hW.mono (by simp))
    have hx2 := below_cell hB (Nat.le_refl _) hx
    refine ⟨hB, below_cell hW (Nat.le_refl _) (by simp), below_cell hW (Nat.le_refl _) (by simp), below_cell hW (Nat.le_refl _) (by simp), below_cell hB (Nat.le_refl _) j1, hx2, hx2, ?_⟩
    exact (as_chain a t old n [xB] W (below_cell hB (Nat.le_refl _) ha) (below_cell hB (Nat.le_refl _) ht) (by rw [below_frozen hB htl]; exact hf)).mono fun e w' ⟨h1, W', h2, h3⟩ => ⟨h1, W', hB.trans (h2.mono hB.size), h3⟩
  unfold pv rty jv fail
  clear j1 j2 j3 j4 j5 j6 hx ha ht hf hB0
  go_enter Tryd.func26, Tryd.ntmps26
  go_wp2
  refine wp_loop_rounds 2 ?_
  rw [rounds_succ]
  go_wp2_with (first
    | (go_at_call 50; refine (failUnwrap _ _ _).mono ?_; rintro e w' ⟨rfl, hc⟩; have hk := kk.out _ hc; obtain ⟨g1, g2, g3, g4, g5, g6, g7, g8⟩ := hk)
    | (go_at_call 55; refine (joinUnwrap _ _ _ g5).mono ?_; rintro e w2 ⟨rfl, hw⟩; have hw1 := hw.symm; subst hw1; clear hw))
  rw [rounds_succ]
  go_wp2_with (first
    | (go_at_call 55; refine (joinUnwrap _ _ _ g5).mono ?_; rintro e w2 ⟨rfl, hw⟩; have hw1 := hw.symm; subst hw1; clear hw))
  refine wp_loop_rounds 1 ?_
  rw [rounds_succ]
  go_wp2_with (go_at_call 26; refine g8.mono ?_; rintro e w2 ⟨rfl, hW⟩)
  go_ret
  exact ⟨rfl, hW⟩
end Go.Proofs.YtpflmgbpjhbmnaaDoor.F
