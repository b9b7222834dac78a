/- The example of the page; the list of one row is the same as itself. -/
import Derived.Test.YtpflmgbpjhbmnaaDoorFChn
import Derived.Test.YtpflmgbpjhbmnaaDoorFIs
namespace Go.Proofs.YtpflmgbpjhbmnaaDoor.F
open Go.RowKit Go.Extern.Stop Go.Stop Go.Extern Go.Proofs.YtpflmgbpjhbmnaaDoorW.PrintWords Go.Proofs.YtpflmgbpjhbmnaaDoorW.PrintLast Go.Proofs.YtpflmgbpjhbmnaaDoorW.PrintMore
open Go.Proofs.YtpflmgbpjhbmnaaDoor.B (runnellaw02_same.f runnellaw02_same.l0 runnellaw02_same.calls)
set_option linter.unusedVariables false
set_option linter.unusedSimpArgs false
set_option maxRecDepth 100000

theorem C_strs (xs : List ByteArray) (w : World) (ad : Addr) (hl : xs.length ≤ 9223372036854775807) (h : ∀ j (hj : j < xs.length), w.cell? (ad.add j) = some (.string xs[j])) : Kd.C Kd.string w (some ad) xs.length xs := by
  refine ⟨rfl, hl, fun _ => ⟨ad, rfl, fun j p hj => ⟨[.string p], rfl, rfl, fun i u hu => ?_⟩⟩⟩
  obtain ⟨hj1, rfl⟩ := List.getElem?_eq_some_iff.1 hj
  cases i with
  | zero => simp at hu; subst hu; have := h j hj1; simpa [Kd.string, Kd.scalar] using this
  | succ i => simp at hu

theorem same_refl (l : List ByteArray) (hl : l.length < 4611686018427387904) : ∃ k, runnellaw02_same.f k l l = some true := by
  have h : ∀ (n i : Nat), i + n = l.length → runnellaw02_same.l0 (n + 1) l l (i : Int) = some true := by
    intro n
    induction n with
    | zero =>
      intro i hi
      unfold runnellaw02_same.l0
      rw [if_neg (by omega)]
    | succ n ih =>
      intro i hi
      unfold runnellaw02_same.l0
      have e := ih (i + 1) (by omega)
      rw [if_pos (by omega), show wrap64 ((i : Int) + 1) = ((i + 1 : Nat) : Int) by unfold wrap64; omega]
      simp only [e]
      simp
      omega
  refine ⟨l.length + 1, ?_⟩
  unfold runnellaw02_same.f
  rw [if_pos rfl]
  exact h l.length 0 (by omega)

theorem mk_iface (n : Int) (hn : n ≠ 0) (ops : List ByteArray) : ∃ t2 v2, mk n ops = .iface t2 v2 ∧ chn ops (num n) = .iface t2 v2 := by
  obtain ⟨t2, v2, hv2⟩ := chn_iface (End.num n) ops
  exact ⟨t2, v2, by rw [mk, if_neg hn]; exact hv2, hv2⟩

/-- Code of what chain makes. -/
theorem code_mk (n : Int) (ops : List ByteArray) (w : World) (hL : Laid w) : Calls Tryd.prog 9 #[mk n ops] w fun e w' => e = .returned (.int .i64 n) ∧ Below w.heap.size w w' := by
  by_cases hn : n = 0
  · subst hn; exact code_nil w
  · obtain ⟨t2, v2, e1, e2⟩ := mk_iface n hn ops
    rw [e1]
    exact code_some t2 v2 n w w hL (e2 ▸ asSays_chain ops n w) (Below.refl _ _)
theorem ops_mk (n : Int) (hn : n ≠ 0) (ops : List ByteArray) (hl : ops.length < 17592186044416 / 4) (w : World) : Calls Tryd.prog 10 #[mk n ops] w fun e w' => ∃ (A : Option Addr) (c : Nat), e = .returned (.slice A ops.length c) ∧ ops.length ≤ c ∧ Kd.C Kd.string w' A ops.length ops ∧ Below w.heap.size w w' := by
  rw [mk, if_neg hn]
  refine (ops_chain ops (num n) (End.num n) w hl).mono ?_
  rintro e w' ⟨v, rfl, hR, hB⟩
  obtain ⟨A, c, rfl, hc, hC⟩ := Kd.R_reads hR
  exact ⟨A, c, rfl, hc, hC, hB⟩
theorem is_mk (n m : Int) (hn : n ≠ 0) (ops : List ByteArray) (w : World) : Calls Tryd.prog 13 #[mk n ops, .int .i64 m] w fun e w' => e = .returned (.bool (n == m)) ∧ Below w.heap.size w w' := by
  obtain ⟨t2, v2, e1, e2⟩ := mk_iface n hn ops
  rw [e1]
  exact errIs_some t2 v2 m _ w w (fun W _ => e2 ▸ is_chain n m ops W) (Below.refl _ _)

set_option maxHeartbeats 4000000 in
theorem live_ok (w : World) (hL : Laid w) : Calls Tryd.prog 6 #[] w fun e w' => e = .returned (.bool true) ∧ Below w.heap.size w w' := by
  have hb0 : Below w.heap.size w (w.alloc (.cells #[.string (ByteArray.mk #[97]), .string (ByteArray.mk #[98])] 9)) := (Below.refl _ _).alloc (Nat.le_refl _) _
  have K1 : Aside0 (∀ c : Nat, Calls Tryd.prog 11 #[.slice (some ⟨w.heap.size, 0, none⟩) 2 c, .int .i64 6] (w.alloc (.cells #[.string (ByteArray.mk #[97]), .string (ByteArray.mk #[98])] 9)) fun e w' => e = .returned (mk 6 [ByteArray.mk #[97], ByteArray.mk #[98]]) ∧ Below w.heap.size w w') :=
    ⟨fun c => (chain_mk (some ⟨w.heap.size, 0, none⟩) c [ByteArray.mk #[97], ByteArray.mk #[98]] 6 _ (C_strs _ _ _ (by decide) (by
      intro j hj
      match j, hj with
      | 0, _ => simp [Addr.add]
      | 1, _ => simp [Addr.add])) (by decide)).mono fun e w' ⟨h1, h2⟩ => ⟨h1, hb0.trans (h2.mono (by simp))⟩⟩
  have K2 : Aside0 (∀ W, Below w.heap.size w W → Calls Tryd.prog 9 #[mk 6 [ByteArray.mk #[97], ByteArray.mk #[98]]] W fun e w' => e = .returned (.int .i64 6) ∧ Below w.heap.size w w') :=
    ⟨fun W hW => (code_mk 6 _ W (hL.below hW (Nat.le_refl _))).mono fun e w' ⟨h1, h2⟩ => ⟨h1, hW.trans (h2.mono hW.size)⟩⟩
  have K3 : Aside0 (∀ W, Below w.heap.size w W → Calls Tryd.prog 10 #[mk 6 [ByteArray.mk #[97], ByteArray.mk #[98]]] W fun e w' => ∃ (A : Option Addr) (c : Nat), e = .returned (.slice A 2 c) ∧ Below w.heap.size w w' ∧ Aside0 (2 ≤ c ∧ Kd.C Kd.string w' A 2 [ByteArray.mk #[97], ByteArray.mk #[98]])) :=
    ⟨fun W hW => (ops_mk 6 (by decide) [ByteArray.mk #[97], ByteArray.mk #[98]] (by decide) W).mono fun e w' ⟨A, c, h1, h2, h3, h4⟩ => ⟨A, c, h1, hW.trans (h4.mono hW.size), ⟨h2, h3⟩⟩⟩
  have K4 : Aside0 (∀ (A : Option Addr) (c c1 : Nat) (W : World), 2 ≤ c1 → Below w.heap.size w W → Aside0 (2 ≤ c ∧ Kd.C Kd.string W A 2 [ByteArray.mk #[97], ByteArray.mk #[98]]) →
      Calls Tryd.prog 14 #[.slice A 2 c, .slice (some ⟨W.heap.size, 0, none⟩) 2 c1] (W.alloc (.cells #[.string (ByteArray.mk #[97]), .string (ByteArray.mk #[98])] 9)) fun e w' => e = .returned (.bool true) ∧ Below w.heap.size w w') := by
    refine ⟨fun A c c1 W h1 hW h2 => ?_⟩
    obtain ⟨k, hk⟩ := same_refl [ByteArray.mk #[97], ByteArray.mk #[98]] (by decide)
    have hb1 : Below W.heap.size W (W.alloc (.cells #[.string (ByteArray.mk #[97]), .string (ByteArray.mk #[98])] 9)) := (Below.refl _ _).alloc (Nat.le_refl _) _
    refine (runnellaw02_same.calls k A c [ByteArray.mk #[97], ByteArray.mk #[98]] (some ⟨W.heap.size, 0, none⟩) c1 [ByteArray.mk #[97], ByteArray.mk #[98]] true _ (Kd.C_below h2.out.2 hb1) h2.out.1 (C_strs _ _ _ (by decide) (by
      intro j hj
      match j, hj with
      | 0, _ => simp [Addr.add]
      | 1, _ => simp [Addr.add])) h1 hk).mono fun e w' ⟨g1, g2⟩ => ⟨g1, hW.trans ((hb1.trans (g2.below.mono (by simp))).mono hW.size)⟩
  clear hb0 hL
  go_enter Tryd.func6, Tryd.ntmps6
  go_wp2_with (first
    | (go_at_call 11; refine (K1.out _).mono ?_; rintro e w' ⟨rfl, hB1⟩)
    | (go_at_call 9; refine (K2.out _ hB1).mono ?_; rintro e w' ⟨rfl, hB2⟩)
    | (go_at_call 10; refine (K3.out _ hB2).mono ?_; rintro e w' ⟨A, c, rfl, hB3, hC⟩)
    | (go_at_call 14; refine (K4.out _ _ _ _ (by decide) hB3 hC).mono ?_; rintro e w' ⟨rfl, hB4⟩))
  go_ret
  exact ⟨rfl, hB4⟩
end Go.Proofs.YtpflmgbpjhbmnaaDoor.F
