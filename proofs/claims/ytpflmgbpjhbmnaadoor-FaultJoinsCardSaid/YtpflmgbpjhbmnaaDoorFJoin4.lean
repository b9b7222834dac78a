/- fault.All at a wrapped join. -/
import Derived.Test.YtpflmgbpjhbmnaaDoorFJoin3
namespace Go.Proofs.YtpflmgbpjhbmnaaDoor.F
open Go.RowKit Go.Extern.Stop Go.Stop Go.Extern Go.Proofs.YtpflmgbpjhbmnaaDoorW.PrintWords Go.Proofs.YtpflmgbpjhbmnaaDoorW.PrintLast Go.Proofs.YtpflmgbpjhbmnaaDoorW.PrintMore
set_option linter.unusedVariables false
set_option linter.unusedSimpArgs false
set_option maxRecDepth 100000

set_option maxHeartbeats 4000000 in
theorem all_join (b : Nat) (l : List Int) (w : World) (hJ : JoinAt w b l) : AllSays (jv b) l w := by
  obtain ⟨A, c, j1, j2, j3, j4, j5, j6⟩ := hJ
  have HR := Aside0.mk j3
  have H5 := Aside0.mk j5
  have KA : Aside0 (∀ n W, n ≠ 0 → Below w.heap.size w W → Calls Tryd.prog 12 #[.iface 47 (.agg #[.string xB, num n])] W fun e w' => ∃ (A1 : Option Addr) (c1 : Nat), e = .returned (.slice A1 1 c1) ∧ Aside0 (1 ≤ c1 ∧ Kd.C (Kd.int .i64) w' A1 1 [n]) ∧ Aside0 (Below W.heap.size W w') ∧ Below w.heap.size w w') :=
    ⟨fun n W hn hW => (all_chain n [xB] W).mono fun e w' ⟨v, h1, h2, h3⟩ => by
      obtain ⟨A1, c1, rfl, hc, hC⟩ := Kd.R_reads h2
      exact ⟨A1, c1, h1, ⟨hc, hC⟩, ⟨h3⟩, hW.trans (h3.mono hW.size)⟩⟩
  have HB := Aside0.mk (Below.refl w.heap.size w)
  have e1 := tc_join
  have e2 := ta_join_N2
  have m2 := mJ
  clear j3 j4 j5
  unfold AllSays jv
  go_enter Tryd.func12, Tryd.ntmps12
  go_wp2_with (go_at_call 55; refine (joinUnwrap _ _ _ j1).mono ?_; rintro e w2 ⟨rfl, hw⟩; have hw1 := hw.symm; subst hw1; clear hw)
  go_loopw [3, 28] (fun v3 v28 wr => ∃ i : Nat, v28 = .int .i64 i ∧ i ≤ l.length ∧ Aside0 (Kd.R (Kd.int .i64) 27 wr w.heap.size (fun _ => True) v3 (l.take i)) ∧ Aside0 (Below w.heap.size w wr)) (fun v3 v28 wr => l.length - (intOf v28).toNat)
  case atStart => exact ⟨0, rfl, Nat.zero_le _, ⟨Kd.R_nil _ _ _ _ _⟩, HB⟩
  case round =>
    clear HB
    obtain ⟨i, rfl, hi, HO, HB⟩ := hrel
    by_cases hlt : i < l.length
    · have hb1 : decide ((i : Int) < (l.length : Int)) = true := decide_eq_true (by omega)
      have hb2 : decide (i < l.length) = true := decide_eq_true hlt
      obtain ⟨ad, e, hx0⟩ := at_err HR.out (i : Int) (by omega) (by omega)
      cases e
      have hn0 : l[i] ≠ 0 := H5.out _ (List.getElem_mem hlt)
      have hx := below_cell HB.out (Nat.le_refl _) hx0
      clear hx0
      rw [Int.toNat_natCast, rdOf_nat 0 l i hlt, errV_some _ hn0] at hx
      have HT : Aside0 (l.take (i + 1) = l.take i ++ [l[i]]) := ⟨List.take_succ_eq_append_getElem hlt⟩
      have HL : Aside0 ((l.take i).length ≤ 200) := ⟨by rw [List.length_take]; omega⟩
      clear HR H5
      generalize l[i] = x at hx hn0 HT
      generalize l.take i = xs at HO HT HL
      go_wp2_with (first
        | ((with_reducible refine gate_builtin (b := .append) (xs := #[.tmp 32, .tmp 34]) rfl ?_); at_builtin; refine Kd.R_append_rows (Kd.int .i64) (w0 := w) w.heap.size rfl (.tmp 32) (.tmp 34) 34 27 (.int .i64 0) 8 rfl Tryd.underlying34 infoErrno rfl (by decide) (by omega) u3 xs [x] _ _ _ (fun _ => True) (fun _ => False) rfl rfl ?aO ?aR (fun _ _ h => h) (fun _ h => h.elim) ?aF ?aB ?aS ?aL ?_; (case aR => exact HC2.out.2); (case aB => exact HB2); (case aF => exact (fun _ _ => trivial)); (case aO => exact Kd.R_step HO.out (fun k _ hk => HB1.out.block k hk)); (case aS => exact HB2.size); (case aL => have := HL.out; omega); intro v106 w6 ho hb hg hat; have n0_ := Aside0.mk (hb); have n1_ := Aside0.mk (ho); clear HB; clear HO; have HB := n0_; have HO := n1_; clear n0_ n1_; clear ho hb hg hat)
        | (go_at_call 12; refine (KA.out x _ hn0 HB.out).mono ?_; rintro e w3 ⟨A1, c1, rfl, HC2, HB1, HB2⟩))
      exact ⟨⟨i + 1, by simp, by omega, ⟨by rw [HT.out]; exact HO.out⟩, HB⟩, by simp [intOf]; omega⟩
    · have hin : i = l.length := by omega
      subst hin
      rw [List.take_length] at HO
      have hb1 : decide ((l.length : Int) < (l.length : Int)) = false := decide_eq_false (by omega)
      go_wp2
      go_ret
      exact ⟨_, rfl, HO.out, HB.out⟩
end Go.Proofs.YtpflmgbpjhbmnaaDoor.F
