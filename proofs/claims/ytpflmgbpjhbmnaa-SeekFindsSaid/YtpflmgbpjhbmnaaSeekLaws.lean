/- Plain laws on seek.Find: it comes to the reference's place, with as few looks as are told. No condition. -/
import Derived.Test.YtpflmgbpjhbmnaaOrdLaws
import Derived.Test.YtpflmgbpjhbmnaaSeekF
import Derived.Test.YtpflmgbpjhbmnaaBx7
import Derived.Test.YtpflmgbpjhbmnaaBx8
import Derived.Test.YtpflmgbpjhbmnaaBx9
namespace Go.Proofs.Ytpflmgbpjhbmnaa.B
open Go.RowKit Go.Proofs.YtpflmgbpjhbmnaaW.PrintWords Go.Proofs.YtpflmgbpjhbmnaaW.PrintLast Go.Proofs.YtpflmgbpjhbmnaaW.PrintMore
set_option linter.unusedVariables false
set_option linter.unusedSimpArgs false

/-- The first place from s on whose row is not ahead of r. -/
def fp (l : List Row) (r : Row) (s : Nat) : Nat := s + ((l.drop s).takeWhile fun x => decide (ordR x r < 0)).length
theorem fp_step (l : List Row) (r : Row) (s : Nat) (h : s < l.length) : fp l r s = if ahB l r s = true then fp l r (s + 1) else s := by
  have hg : l.getD s [] = l[s] := by simp [List.getD, h]
  unfold fp ahB
  rw [List.drop_eq_getElem_cons h, List.takeWhile_cons, hg]
  by_cases hc : ordR l[s] r < 0
  · rw [if_pos (decide_eq_true hc), if_pos (decide_eq_true hc), List.length_cons]; omega
  · rw [if_neg (by simpa using hc), if_neg (by simpa using hc)]; rfl
theorem fp_end (l : List Row) (r : Row) (s : Nat) (h : l.length ≤ s) : fp l r s = s := by
  unfold fp; rw [List.drop_of_length_le h]; rfl
theorem fp_bounds (l : List Row) (r : Row) : ∀ d s, l.length - s = d → s ≤ l.length → s ≤ fp l r s ∧ fp l r s ≤ l.length ∧ (∀ i, s ≤ i → i < fp l r s → ahB l r i = true) ∧ (fp l r s < l.length → ahB l r (fp l r s) = false) := by
  intro d
  induction d with
  | zero => intro s hd hs; rw [fp_end l r s (by omega)]; exact ⟨by omega, by omega, fun i h1 h2 => by omega, fun h => by omega⟩
  | succ d ih =>
    intro s hd hs
    rw [fp_step l r s (by omega)]
    by_cases hc : ahB l r s = true
    · rw [if_pos hc]
      obtain ⟨h1, h2, h3, h4⟩ := ih (s + 1) (by omega) (by omega)
      refine ⟨by omega, h2, fun i hi hj => ?_, h4⟩
      by_cases e : i = s
      · rw [e]; exact hc
      · exact h3 i (by omega) hj
    · rw [if_neg hc]
      exact ⟨by omega, by omega, fun i h1 h2 => by omega, fun _ => by simpa using hc⟩
theorem fp_uniq (l : List Row) (r : Row) (s a : Nat) (hs : s ≤ l.length) (h1 : s ≤ a) (h2 : a ≤ l.length) (h3 : ∀ i, s ≤ i → i < a → ahB l r i = true) (h4 : a < l.length → ahB l r a = false) : fp l r s = a := by
  obtain ⟨k1, k2, k3, k4⟩ := fp_bounds l r _ s rfl hs
  rcases Nat.lt_trichotomy (fp l r s) a with h | h | h
  · have := h3 _ k1 h; rw [k4 (by omega)] at this; cases this
  · exact h
  · have := k3 a h1 h; rw [h4 (by omega)] at this; cases this

theorem rd_getD (l : List Row) (k : Nat) : rd_L3 l (k : Int) = l.getD k [] := by simp [rd_L3]
theorem refFind_l (l : List Row) (r : Row) (hm : l.length ≤ 9223372036854775807) (hr : ∀ x ∈ l, x.length ≤ 9223372036854775807) : ∀ d s : Nat, l.length - s = d → s ≤ l.length → Ev (fun n => runnelref10_Find.l0 n l s r) (fp l r s) := by
  intro d
  induction d with
  | zero =>
    intro s hd hs
    refine ⟨1, fun n hn => ?_⟩
    obtain ⟨n, rfl⟩ : ∃ m, n = m + 1 := ⟨n - 1, by omega⟩
    simp only [runnelref10_Find.l0]
    rw [if_neg (by omega), fp_end l r s (by omega)]
  | succ d ih =>
    intro s hd hs
    have hls : s < l.length := by omega
    have hg : l.getD s [] = l[s] := by simp [List.getD, hls]
    obtain ⟨K1, h1⟩ := refOrder (l.getD s []) r (by rw [hg]; exact hr _ (List.getElem_mem hls))
    simp only [] at h1
    obtain ⟨K2, h2⟩ := ih (s + 1) (by omega) (by omega)
    refine ⟨max K1 K2 + 1, fun n hn => ?_⟩
    obtain ⟨n, rfl⟩ : ∃ m, n = m + 1 := ⟨n - 1, by omega⟩
    simp only [runnelref10_Find.l0]
    rw [if_pos (by omega), if_pos (by omega), rd_getD, h1 n (by omega), fp_step l r s hls]
    simp only [Option.bind_some]
    by_cases hc : ordR (l.getD s []) r < 0
    · rw [if_pos hc, if_pos (show ahB l r s = true from decide_eq_true hc), show wrap64 ((s : Int) + 1) = ((s + 1 : Nat) : Int) by unfold wrap64; omega]
      exact h2 n (by omega)
    · rw [if_neg hc, if_neg (show ¬ ahB l r s = true by unfold ahB; simpa using hc)]
theorem refFind (l : List Row) (r : Row) (a : Int) (hm : l.length ≤ 9223372036854775807) (hr : ∀ x ∈ l, x.length ≤ 9223372036854775807) : Ev (fun n => runnelref10_Find.f n l a r) (fp l r (start l.length a)) := by
  obtain ⟨K, h⟩ := refFind_l l r hm hr _ (start l.length a) rfl (by unfold start; omega)
  refine ⟨K + 2, fun n hn => ?_⟩
  obtain ⟨n, rfl⟩ : ∃ m, n = m + 1 + 1 := ⟨n - 2, by omega⟩
  have h := h n (by omega)
  simp only [] at h
  unfold runnelref10_Find.f
  simp only [runnelref10_Find.j0, runnelref10_Find.j1]
  unfold start at *
  by_cases h0 : a < 0
  · rw [if_pos h0, if_neg (by omega)]
    rw [show min a.toNat l.length = 0 by omega] at *
    exact h
  · rw [if_neg h0]
    by_cases h1 : a > l.length
    · rw [if_pos h1]
      rw [show min a.toNat l.length = l.length by omega] at *
      exact h
    · rw [if_neg h1]
      rw [show min a.toNat l.length = a.toNat by omega] at *
      rw [show ((a.toNat : Nat) : Int) = a by omega] at h
      exact h

/-- Are the rows in order? -/
def srtB (l : List Row) (i : Nat) : Prop := ∀ j, i ≤ j → j < l.length → ordR (l.getD (j - 1) []) (l.getD j []) ≤ 0
theorem refSorted_l (l : List Row) (hm : l.length ≤ 9223372036854775806) (hr : ∀ x ∈ l, x.length ≤ 9223372036854775807) : ∀ d s : Nat, l.length - s = d → 1 ≤ s → ∃ b, Ev (fun n => runnelref10_Sorted.l0 n l s) b ∧ (b = true → srtB l s) := by
  intro d
  induction d with
  | zero =>
    intro s hd hs
    refine ⟨true, ⟨1, fun n hn => ?_⟩, fun _ j h1 h2 => by omega⟩
    obtain ⟨n, rfl⟩ : ∃ m, n = m + 1 := ⟨n - 1, by omega⟩
    simp only [runnelref10_Sorted.l0]
    rw [if_neg (by omega)]
  | succ d ih =>
    intro s hd hs
    have hls : s < l.length := by omega
    have hg : l.getD (s - 1) [] = l[s - 1] := by simp [List.getD, show s - 1 < l.length by omega]
    obtain ⟨K1, h1⟩ := refOrder (l.getD (s - 1) []) (l.getD s []) (by rw [hg]; exact hr _ (List.getElem_mem _))
    simp only [] at h1
    have hw : wrap64 ((s : Int) - 1) = ((s - 1 : Nat) : Int) := by unfold wrap64; omega
    by_cases hc : ordR (l.getD (s - 1) []) (l.getD s []) > 0
    · refine ⟨false, ⟨K1 + 1, fun n hn => ?_⟩, fun h => by cases h⟩
      obtain ⟨n, rfl⟩ : ∃ m, n = m + 1 := ⟨n - 1, by omega⟩
      simp only [runnelref10_Sorted.l0]
      rw [hw, if_pos (by omega), if_pos (by omega), if_pos (by omega), if_pos (by omega), rd_getD, rd_getD, h1 n (by omega)]
      simp only [Option.bind_some]
      rw [if_pos hc]
    · obtain ⟨b, ⟨K2, h2⟩, hb⟩ := ih (s + 1) (by omega) (by omega)
      refine ⟨b, ⟨max K1 K2 + 1, fun n hn => ?_⟩, fun h j h3 h4 => ?_⟩
      · obtain ⟨n, rfl⟩ : ∃ m, n = m + 1 := ⟨n - 1, by omega⟩
        simp only [runnelref10_Sorted.l0]
        rw [hw, if_pos (by omega), if_pos (by omega), if_pos (by omega), if_pos (by omega), rd_getD, rd_getD, h1 n (by omega)]
        simp only [Option.bind_some]
        rw [if_neg hc, show wrap64 ((s : Int) + 1) = ((s + 1 : Nat) : Int) by unfold wrap64; omega]
        exact h2 n (by omega)
      · by_cases e : j = s
        · subst e; omega
        · exact hb h j (by omega) h4
theorem refSorted (l : List Row) (hm : l.length ≤ 9223372036854775806) (hr : ∀ x ∈ l, x.length ≤ 9223372036854775807) : ∃ b, Ev (fun n => runnelref10_Sorted.f n l) b ∧ (b = true → srtB l 1) := by
  obtain ⟨b, h, hb⟩ := refSorted_l l hm hr _ 1 rfl (by omega)
  exact ⟨b, h, hb⟩
theorem srt_le {l : List Row} (h : srtB l 1) (i : Nat) : ∀ d, i + d < l.length → ordR (l.getD i []) (l.getD (i + d) []) ≤ 0
  | 0, _ => by rw [Nat.add_zero, ordR_refl]; omega
  | d + 1, hd => by
    have h1 := srt_le h i d (by omega)
    have h2 := h (i + d + 1) (by omega) (by omega)
    rw [Nat.add_sub_cancel] at h2
    exact ordR_tr _ _ _ h1 h2
/-- In rows in order: what stands before one that is ahead is ahead. -/
theorem ah_down {l : List Row} (h : srtB l 1) (r : Row) {i j : Nat} (hij : i ≤ j) (hj : j < l.length) (ha : ahB l r j = true) : ahB l r i = true := by
  unfold ahB at *
  have h1 := srt_le h i (j - i) (by omega)
  rw [show i + (j - i) = j by omega] at h1
  exact decide_eq_true (ordR_lt_of_le_lt h1 (of_decide_eq_true ha))

theorem probes_l (d : Nat) (hd : d ≤ 1152921504606846976) : ∀ t q n : Nat, d + 1 - q ≤ t → 1 ≤ q → q ≤ 2 * d + 1 → n ≤ 2 * q → ∃ r : Nat, Ev (fun k => runnelref10_Probes.l0 k d n q) r ∧ n ≤ r ∧ ∀ m, q * 2 ^ m ≤ d → n + 2 * (m + 1) ≤ r := by
  intro t
  induction t with
  | zero =>
    intro q n ht hq hq2 hn
    refine ⟨n, ⟨1, fun k hk => ?_⟩, by omega, fun m hm => ?_⟩
    · obtain ⟨k, rfl⟩ : ∃ m, k = m + 1 := ⟨k - 1, by omega⟩
      simp only [runnelref10_Probes.l0]
      rw [if_neg (by omega)]
    · have := Nat.le_mul_of_pos_right q (Nat.two_pow_pos m); omega
  | succ t ih =>
    intro q n ht hq hq2 hn
    by_cases hc : q ≤ d
    · obtain ⟨r, ⟨K, h1⟩, h2, h3⟩ := ih (q * 2) (n + 2) (by omega) (by omega) (by omega) (by omega)
      refine ⟨r, ⟨K + 1, fun k hk => ?_⟩, by omega, fun m hm => ?_⟩
      · obtain ⟨k, rfl⟩ : ∃ m, k = m + 1 := ⟨k - 1, by omega⟩
        simp only [runnelref10_Probes.l0]
        rw [if_pos (by omega), show wrap64 ((n : Int) + 2) = ((n + 2 : Nat) : Int) by unfold wrap64; omega, show wrap64 ((q : Int) * 2) = ((q * 2 : Nat) : Int) by unfold wrap64; omega]
        exact h1 k (by omega)
      · cases m with
        | zero => omega
        | succ m =>
          have := h3 m (by rw [Nat.pow_succ] at hm; rw [Nat.mul_assoc, Nat.mul_comm 2]; exact hm)
          omega
    · refine ⟨n, ⟨1, fun k hk => ?_⟩, by omega, fun m hm => ?_⟩
      · obtain ⟨k, rfl⟩ : ∃ m, k = m + 1 := ⟨k - 1, by omega⟩
        simp only [runnelref10_Probes.l0]
        rw [if_neg (by omega)]
      · have := Nat.le_mul_of_pos_right q (Nat.two_pow_pos m); omega
/-- As many looks as are told: 2, and 2 more for each of 1, 2, 4 .. that is not above the distance. -/
theorem refProbes (d : Nat) (hd : d ≤ 1152921504606846976) (j : Nat) (hj : 2 ^ j ≤ d + 1) : ∃ r : Nat, Ev (fun k => runnelref10_Probes.f k d) r ∧ 2 * j + 1 ≤ r := by
  obtain ⟨r, h1, h2, h3⟩ := probes_l d hd (d + 1) 1 2 (by omega) (by omega) (by omega) (by omega)
  refine ⟨r, h1, ?_⟩
  cases j with
  | zero => omega
  | succ j =>
    have := h3 j (by rw [Nat.pow_succ] at hj; have := Nat.two_pow_pos j; omega)
    omega

/-! seek.Find's own. -/
theorem gal_spec (l : List Row) (r : Row) (s : Nat) (hs : s ≤ l.length) : ∀ k low step p, l.length < low + k → low ≤ l.length → 1 ≤ step → low + 1 = s + step → step = 2 ^ p →
    ∃ low' step' p' j, gal l r k low step p = (low', step', p') ∧ low' ≤ l.length ∧ low' + 1 = s + step' ∧ step' = 2 ^ j ∧ 1 ≤ step' ∧ p' ≤ j + 1 ∧ (low' + step' - 1 < l.length → ahB l r (low' + step' - 1) = false) ∧
      (srtB l 1 → (∀ i, s ≤ i → i < low → ahB l r i = true) → ∀ i, s ≤ i → i < low' → ahB l r i = true) ∧ (low < l.length → step = 1 → p = 0 → 0 < p' ∨ low' + step' - 1 < low' ∨ l.length ≤ low' + step' - 1) := by
  intro k
  induction k with
  | zero => intro low step p h1 h2; omega
  | succ k ih =>
    intro low step p h1 h2 h3 h4 h5
    simp only [gal]
    by_cases hc : low + step - 1 < l.length
    · rw [if_pos hc]
      by_cases ha : ahB l r (low + step - 1) = true
      · rw [if_pos ha]
        obtain ⟨low', step', p', j, e, k1, k2, k3, k4, k5, k6, k7, k8⟩ := ih (low + step) (2 * step) (p + 1) (by omega) (by omega) (by omega) (by omega) (by rw [h5, Nat.pow_succ]; omega)
        refine ⟨low', step', p', j, e, k1, k2, k3, k4, k5, k6, fun hS hA => k7 hS fun i hi1 hi2 => ah_down hS r (by omega) hc ha, fun _ _ _ => ?_⟩
        by_cases hp : 0 < p'
        · exact .inl hp
        · exfalso
          have : ∀ k low step p, p ≤ (gal l r k low step p).2.2 := by
            intro k
            induction k with
            | zero => intro low step p; exact Nat.le_refl _
            | succ k ih =>
              intro low step p
              simp only [gal]
              split
              · split
                · exact Nat.le_trans (Nat.le_succ _) (ih _ _ _)
                · exact Nat.le_succ _
              · exact Nat.le_refl _
          have h := this k (low + step) (2 * step) (p + 1)
          rw [e] at h
          simp only at h
          omega
      · rw [if_neg ha]
        exact ⟨low, step, p + 1, p, rfl, h2, h4, h5, h3, by omega, fun _ => by simpa using ha, fun _ hA => hA, fun _ _ _ => .inl (by omega)⟩
    · rw [if_neg hc]
      exact ⟨low, step, p, p, rfl, h2, h4, h5, h3, by omega, fun h => absurd h hc, fun _ hA => hA, fun _ _ _ => .inr (.inr (by omega))⟩
theorem bin_spec (l : List Row) (r : Row) (s : Nat) : ∀ k low high p, high < low + k → low ≤ high → high ≤ l.length → s ≤ low →
    ∃ a q, bin l r k low high p = (a, q) ∧ low ≤ a ∧ a ≤ high ∧ p ≤ q ∧ (low < high → p < q) ∧ (∀ j, high - low < 2 ^ j → q ≤ p + j) ∧
      (srtB l 1 → (∀ i, s ≤ i → i < low → ahB l r i = true) → (high < l.length → ahB l r high = false) → (∀ i, s ≤ i → i < a → ahB l r i = true) ∧ (a < l.length → ahB l r a = false)) := by
  intro k
  induction k with
  | zero => intro low high p h1 h2; omega
  | succ k ih =>
    intro low high p h1 h2 h3 h4
    simp only [bin]
    by_cases hc : low < high
    · rw [if_pos hc]
      by_cases ha : ahB l r (low + (high - low) / 2) = true
      · rw [if_pos ha]
        obtain ⟨a, q, e, k1, k2, k3, k4, k5, k6⟩ := ih (low + (high - low) / 2 + 1) high (p + 1) (by omega) (by omega) h3 (by omega)
        refine ⟨a, q, e, by omega, k2, by omega, fun _ => by omega, fun j hj => ?_, fun hS hA hH => k6 hS (fun i hi1 hi2 => ah_down hS r (by omega) (by omega) ha) hH⟩
        cases j with
        | zero => simp at hj; omega
        | succ j =>
          have := k5 j (by rw [Nat.pow_succ] at hj; omega)
          omega
      · rw [if_neg ha]
        obtain ⟨a, q, e, k1, k2, k3, k4, k5, k6⟩ := ih low (low + (high - low) / 2) (p + 1) (by omega) (by omega) (by omega) h4
        refine ⟨a, q, e, k1, by omega, by omega, fun _ => by omega, fun j hj => ?_, fun hS hA hH => k6 hS hA (fun _ => by simpa using ha)⟩
        cases j with
        | zero => simp at hj; omega
        | succ j =>
          have := k5 j (by rw [Nat.pow_succ] at hj; omega)
          omega
    · rw [if_neg hc]
      have e : low = high := by omega
      subst e
      exact ⟨low, p, rfl, Nat.le_refl _, Nat.le_refl _, Nat.le_refl _, fun h => by omega, fun j _ => by omega, fun _ hA hH => ⟨hA, hH⟩⟩
/-- seek.Find: the place lies between; in rows in order it is the first one, with at most 2 j + 1 looks where 2 ^ j is no more than the distance and 1. -/
theorem findP_spec (l : List Row) (a : Int) (r : Row) : ∃ at_ q j : Nat, findP l a r = (at_, q) ∧ start l.length a ≤ at_ ∧ at_ ≤ l.length ∧ q ≤ 2 * j + 1 ∧ 2 ^ j ≤ at_ - start l.length a + 1 ∧ (srtB l 1 → at_ = fp l r (start l.length a)) := by
  have hs : start l.length a ≤ l.length := by unfold start; omega
  unfold findP
  generalize start l.length a = s at *
  obtain ⟨low, step, p, j, e, k1, k2, k3, k4, k5, k6, k7, _⟩ := gal_spec l r s hs (l.length + 1) s 1 0 (by omega) hs (by omega) (by omega) rfl
  rw [e]
  simp only
  obtain ⟨b, q, e2, m1, m2, m3, _, m5, m6⟩ := bin_spec l r s (l.length + 1) low (min (low + step - 1) l.length) p (by omega) (by omega) (by omega) (by omega)
  refine ⟨b, q, j, e2, by omega, by omega, ?_, by omega, fun hS => ?_⟩
  · have := m5 j (by omega); omega
  · obtain ⟨h1, h2⟩ := m6 hS (k7 hS fun i h1 h2 => by omega) (fun h => by rw [show min (low + step - 1) l.length = low + step - 1 by omega] at *; exact k6 h)
    exact (fp_uniq l r s b hs (by omega) (by omega) h1 h2).symm
end Go.Proofs.Ytpflmgbpjhbmnaa.B
