/- errors.Join at a list of what the law's chain makes. -/
import Derived.Test.YtpflmgbpjhbmnaaDoorFLive
import Derived.Test.YtpflmgbpjhbmnaaDoorFAll
namespace Go.Proofs.YtpflmgbpjhbmnaaDoor.F
open Go.RowKit Go.Extern.Stop Go.Stop Go.Extern Go.Proofs.YtpflmgbpjhbmnaaDoorW.PrintWords Go.Proofs.YtpflmgbpjhbmnaaDoorW.PrintLast Go.Proofs.YtpflmgbpjhbmnaaDoorW.PrintMore
set_option linter.unusedVariables false
set_option linter.unusedSimpArgs false
set_option maxRecDepth 100000

def xB : ByteArray := ByteArray.mk #[120]
/-- What the law's chain makes of a number under the op "x". -/
def errV (n : Int) : Value := mk n [xB]
theorem errV_zero : errV 0 = .nilIface := rfl
theorem errV_some (n : Int) (h : n ≠ 0) : errV n = .iface 47 (.agg #[.string xB, num n]) := by unfold errV mk; rw [if_neg h]; rfl
theorem errV_one (n : Int) : (errV n).oneCell' = true := by
  by_cases h : n = 0
  · subst h; rfl
  · rw [errV_some n h]; rfl
def errK : Kd Int := Kd.scalar errV errV_one
theorem at_err {w : World} {A : Option Addr} {n : Nat} {xs : List Int} (h : errK.C w A n xs) (i : Int) (h0 : 0 ≤ i) (h1 : i < n) : ∃ ad, A = some ad ∧ w.cell? (ad.add i.toNat) = some (errV (rdOf 0 xs i)) :=
  ReadsOf.at_ (Kd.reads_of_C (enc := errV) (d := 0) (h1 := errV_one) h) i h0 h1

def nz (l : List Int) : List Int := l.filter (fun n => n != 0)
theorem nz_step (l : List Int) (i : Nat) (h : i < l.length) : nz (l.take (i + 1)) = nz (l.take i) ++ (if l[i] = 0 then [] else [l[i]]) := by
  unfold nz
  rw [List.take_succ_eq_append_getElem h, List.filter_append]
  congr 1
  by_cases h0 : l[i] = 0 <;> simp [h0]
theorem nz_len (l : List Int) (i : Nat) : (nz (l.take i)).length ≤ i := by
  unfold nz
  exact Nat.le_trans (List.length_filter_le _ _) (by rw [List.length_take]; omega)

theorem box_cell {W : World} {b : Nat} {v : Value} {t : Nat} (h : W.heap[b]? = some (.cells #[v] t (0, 0))) : W.cell? ⟨b, 0, none⟩ = some v := by
  simp [World.cell?, h]
theorem box_frozen {W : World} {b : Nat} {v : Value} {t : Nat} (h : W.heap[b]? = some (.cells #[v] t (0, 0))) : W.frozen? ⟨b, 0, none⟩ = false := by
  simp [World.frozen?, h]

theorem box_set {W : World} {b : Nat} {v : Value} {t : Nat} (h : W.heap[b]? = some (.cells #[v] t (0, 0))) (u : Value) : (W.setCell ⟨b, 0, none⟩ u).heap[b]? = some (.cells #[u] t (0, 0)) := by
  simp [World.setCell, Array.getElem?_modify, h]
theorem set_far {W : World} {b k : Nat} (h : k ≠ b) (u : Value) : (W.setCell ⟨b, 0, none⟩ u).heap[k]? = W.heap[k]? := Below.heap_setCell W _ u k h

theorem make_errs (m : Nat) (hm : m ≤ 200) (W : World) : (Instr.makeSlice 40 (.int .i64 0) (.int .i64 (m : Int))).run Tryd.prog W = .ok (.slice (some ⟨W.heap.size, 0, none⟩) 0 m) (W.alloc (.cells (madeCells #[.nilIface] (m * 1)) 25)) := by
  obtain ⟨i, hi, he⟩ := Option.map_eq_some_iff.1 infoErr
  have h1 : i.zero = some .nilIface := by have := congrArg Prod.fst he; exact this
  have h2 : i.size = 1 := by have := congrArg (fun x => x.2.1) he; exact this
  have h3 : i.bytes = 16 := by have := congrArg (fun x => x.2.2) he; exact this
  have := run_make W 40 25 i .nilIface Tryd.underlying40 hi h1 .i64 .i64 0 (m : Int) (by omega) (by omega) (by rw [h3]; omega) (by omega)
  rw [h2] at this
  exact this
theorem made_errs (m : Nat) (hm : m ≤ 200) (W : World) (B : Nat) (hB : B ≤ W.heap.size) (ok : Nat → Prop) (hok : ok W.heap.size) : Kd.R errK 25 (W.alloc (.cells (madeCells #[.nilIface] m) 25)) B ok (.slice (some ⟨W.heap.size, 0, none⟩) 0 m) [] := by
  refine ⟨fun k hk => ?_, [], ?_, Reps.none _ _⟩
  · simp [Value.ownBlock] at hk; rw [← hk]; exact hok
  · have := World.ownsRow_made (base := B) (e := 25) (size := 1) W (madeCells #[.nilIface] (m * 1)) m hB (by simp [maxLen]; omega) (size_madeCells _ _)
    rw [Nat.mul_one] at this
    exact this

set_option maxHeartbeats 4000000 in
theorem join_ok (A0 : Option Addr) (c0 : Nat) (l : List Int) (w : World) (hr : errK.C w A0 l.length l) (hl : l.length ≤ 200) :
    Calls Tryd.prog 22 #[.slice A0 l.length c0] w fun e w' => Below w.heap.size w w' ∧ (nz l = [] ∧ e = .returned .nilIface ∨ ∃ b A c, e = .returned (.iface 73 (.pointer (some ⟨b, 0, none⟩))) ∧ w'.cell? ⟨b, 0, none⟩ = some (.slice A (nz l).length c) ∧ (nz l).length ≤ c ∧ errK.C w' A (nz l).length (nz l) ∧ nz l ≠ []) := by
  have HR := Aside0.mk hr
  clear hr
  go_enter Tryd.func22, Tryd.ntmps22
  go_wp2
  go_loopw [3, 11] (fun v3 v11 wr => ∃ i : Nat, v11 = .int .i64 i ∧ i ≤ l.length ∧ v3 = .int .i64 ((nz (l.take i)).length : Int) ∧ wr = w) (fun v3 v11 wr => l.length - (intOf v11).toNat)
  case atStart => exact ⟨0, rfl, Nat.zero_le _, rfl, rfl⟩
  case round =>
    obtain ⟨i, rfl, hi, rfl, hwr⟩ := hrel
    subst wr
    by_cases hlt : i < l.length
    · have hb1 : decide ((i : Int) < (l.length : Int)) = true := decide_eq_true (by omega)
      have hb2 : decide (i < l.length) = true := decide_eq_true hlt
      obtain ⟨ad, e, hx⟩ := at_err HR.out (i : Int) (by omega) (by omega)
      cases e
      rw [Int.toNat_natCast, rdOf_nat 0 l i hlt] at hx
      have hs := nz_step l i hlt
      have hn := nz_len l i
      by_cases h0 : l[i] = 0
      · rw [h0, errV_zero] at hx
        rw [if_pos h0, List.append_nil] at hs
        go_wp2
        exact ⟨⟨i + 1, by simp, by omega, by rw [hs], trivial⟩, by simp [intOf]; omega⟩
      · rw [errV_some _ h0] at hx
        rw [if_neg h0] at hs
        go_wp2
        exact ⟨⟨i + 1, by simp, by omega, by rw [hs]; simp, trivial⟩, by simp [intOf]; omega⟩
    · have hin : i = l.length := by omega
      subst hin
      have hb1 : decide ((l.length : Int) < (l.length : Int)) = false := decide_eq_false (by omega)
      rw [List.take_length]
      by_cases hz : nz l = []
      · have hb3 : (((nz l).length : Int) == 0) = true := by rw [hz]; rfl
        have hb4 : ((nz l).length == 0) = true := by rw [hz]; rfl
        go_wp2
        go_ret
        exact ⟨Below.refl _ _, .inl ⟨hz, rfl⟩⟩
      · have hpos : 0 < (nz l).length := List.length_pos_iff.2 hz
        have hb3 : (((nz l).length : Int) == 0) = false := beq_eq_false_iff_ne.2 (by omega)
        have hb4 : ((nz l).length == 0) = false := beq_eq_false_iff_ne.2 (by omega)
        have hm := make_errs (nz l).length (by have := nz_len l l.length; rw [List.take_length] at this; omega)
        go_wp2
        go_loopw [28] (fun v28 wr => ∃ (i : Nat) (v : Value), v28 = .int .i64 i ∧ i ≤ l.length ∧ Aside0 (wr.heap[w.heap.size + 1]? = some (.cells #[v] 75 (0, 0))) ∧ Aside0 (Kd.R errK 25 wr w.heap.size (fun k => k ≠ w.heap.size + 1) v (nz (l.take i))) ∧ Aside0 (Below w.heap.size w wr)) (fun v28 wr => l.length - (intOf v28).toNat)
        case atStart =>
          refine ⟨0, .slice (some ⟨w.heap.size, 0, none⟩) 0 (nz l).length, rfl, Nat.zero_le _, ⟨?_⟩, ⟨?_⟩, ⟨?_⟩⟩
          · show (((w.alloc _).heap).push _)[w.heap.size + 1]? = _
            rw [Array.getElem?_push, if_pos (by simp)]
          · exact Kd.R_alloc (made_errs _ (by have := nz_len l l.length; rw [List.take_length] at this; omega) w _ (Nat.le_refl _) _ (by omega)) _
          · exact ((Below.refl _ _).alloc (Nat.le_refl _) _).alloc (by simp) _
        case round =>
          obtain ⟨i, v, rfl, hi, hbox, HO, HB⟩ := hrel
          have hbox0 := hbox.out
          have hcb := box_cell hbox0
          have hfb := box_frozen hbox0
          have hsz : w.heap.size + 1 < wr.heap.size := (Array.getElem?_eq_some_iff.1 hbox0).1
          have hob : some (w.heap.size + 1) ≠ v.ownBlock := fun h => HO.out.1 _ h.symm rfl
          by_cases hlt : i < l.length
          · have hb1 : decide ((i : Int) < (l.length : Int)) = true := decide_eq_true (by omega)
            have hb2 : decide (i < l.length) = true := decide_eq_true hlt
            obtain ⟨ad, e, hx0⟩ := at_err HR.out (i : Int) (by omega) (by omega)
            cases e
            have hx := below_cell HB.out (Nat.le_refl _) hx0
            clear hx0
            rw [Int.toNat_natCast, rdOf_nat 0 l i hlt] at hx
            have hs := nz_step l i hlt
            by_cases h0 : l[i] = 0
            · rw [h0, errV_zero] at hx
              rw [if_pos h0, List.append_nil] at hs
              go_wp2
              exact ⟨⟨i + 1, v, by simp, by omega, hbox, ⟨by rw [hs]; exact HO.out⟩, HB⟩, by simp [intOf]; omega⟩
            · rw [errV_some _ h0] at hx
              rw [if_neg h0] at hs
              go_wp2_with (first | ((with_reducible refine gate_builtin (b := .append) (xs := #[.tmp 38, .tmp 40]) rfl ?_); at_builtin; refine Kd.R_append errK (w0 := w) w.heap.size rfl (.tmp 38) (.tmp 40) 40 25 .nilIface 16 rfl Tryd.underlying40 infoErr rfl (by decide) (by omega) v (nz (l.take i)) l[i] [.iface 47 (.agg #[.string xB, num l[i]])] (fun k => k ≠ w.heap.size + 1) (fun _ => False) rfl ?aX ?aP (fun _ hk => hk.elim) ?aF ?aO ?aB ?aS ?aL ?_; (case aX => exact (by first | rfl | (simp; done) | (simp; rfl))); (case aP => exact (congrArg (fun q => [q]) (errV_some _ h0)).symm); (case aB => exact (by repeat (first | (with_reducible first | exact HB.out | apply below_alloc | apply pw_below_drewN | apply below_drew1) | exact HB.out))); (case aF => exact (fun k hk => by have := hsz; omega)); (case aO => exact (by (with_reducible repeat (first | apply Kd.R_alloc | apply Kd.R_drewN | apply Kd.R_drew)); exact HO.out)); (case aS => exact (below_size (by repeat (first | (with_reducible first | exact HB.out | apply below_alloc | apply pw_below_drewN | apply below_drew1) | exact HB.out)))); (case aL => have := nz_len l i; omega); intro v106 w6 ho hb hg hat; obtain ⟨A1, c1, hv1, _, _⟩ := Kd.R_reads ho; subst hv1; have hbx := (hg.block (w.heap.size + 1) (by have := hsz; simp; omega) hob).trans hbox0; have hbc := box_cell hbx; have hbf := box_frozen hbx; have n0_ := Aside0.mk (hb); have n1_ := Aside0.mk (ho); clear HB; clear HO; have HB := n0_; have HO := n1_; clear n0_ n1_; clear ho hb hg hat))
              have e9 : (nz (l.take i) ++ [l[i]]).length = (nz (l.take i)).length + 1 := by simp
              have HO2 := HO.out
              rw [e9] at HO2
              exact ⟨⟨i + 1, _, by simp, by omega, ⟨box_set hbx _⟩, ⟨by rw [hs]; exact Kd.R_step HO2 (fun k hk _ => set_far hk _)⟩, ⟨HB.out.setCell (by show w.heap.size ≤ w.heap.size + 1; omega) _⟩⟩, by simp [intOf]; omega⟩
          · have hin : i = l.length := by omega
            subst hin
            rw [List.take_length] at HO
            have hb5 : decide ((l.length : Int) < (l.length : Int)) = false := decide_eq_false (by omega)
            go_wp2
            go_ret
            obtain ⟨A, c, rfl, hc, hC⟩ := Kd.R_reads HO.out
            exact ⟨HB.out, .inr ⟨_, A, c, rfl, hcb, hc, hC, hz⟩⟩
end Go.Proofs.YtpflmgbpjhbmnaaDoor.F
