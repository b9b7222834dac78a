/- The pure statement of SeekFinds: whatever rows, place and row: the law's function comes to true. No condition. -/
import Derived.Test.YtpflmgbpjhbmnaaSeekLaws
import Derived.Test.YtpflmgbpjhbmnaaBx10
import Derived.KernelRfl
import Derived.Test.YtpflmgbpjhbmnaaOpenT
namespace Go.Proofs.Ytpflmgbpjhbmnaa.B
open Go.RowKit Go.Proofs.YtpflmgbpjhbmnaaW.PrintWords Go.Proofs.YtpflmgbpjhbmnaaW.PrintLast Go.Proofs.YtpflmgbpjhbmnaaW.PrintMore
set_option linter.unusedVariables false
set_option linter.unusedSimpArgs false

theorem seekLive : runnellaw10_live.f = some true := by kernel_rfl
theorem seekFinds_l (l : List Row) (a : Int) (r : Row) (hm : l.length ≤ 300) (hr : ∀ x ∈ l, x.length ≤ 9223372036854775807) : ∀ d k : Nat, l.length - k = d → k ≤ l.length → Ev (fun n => runnellaw10_SeekFinds.l0 n l a r k) true := by
  intro d
  induction d with
  | zero =>
    intro k hd hk
    obtain ⟨at_, q, j, e, h1, h2, h3, h4, h5⟩ := findP_spec l a r
    obtain ⟨b, ⟨K1, b1⟩, b2⟩ := refSorted l (by omega) hr
    obtain ⟨K2, f1⟩ := refFind l r a (by omega) hr
    obtain ⟨K3, f0⟩ := refFind (l.take 0) r a (by simp) (by simp)
    obtain ⟨p, ⟨K4, p1⟩, p2⟩ := refProbes (at_ - start l.length a) (by omega) j h4
    simp only [] at b1 f1 f0 p1
    have hf : seek_Find.f l a r = some ((at_ : Int), (q : Int)) := by unfold seek_Find.f; rw [if_pos (by omega), e]
    have h0 : fp (l.take 0) r (start (l.take 0).length a) = 0 := by unfold start fp; simp
    rw [h0] at f0
    have hst : ((start l.length a : Nat) : Int) = if a > 0 ∧ a ≤ l.length then a else if a > l.length then l.length else 0 := by
      unfold start
      by_cases c1 : a > 0 ∧ a ≤ l.length
      · rw [if_pos c1]; omega
      · rw [if_neg c1]
        by_cases c2 : a > l.length
        · rw [if_pos c2]; omega
        · rw [if_neg c2]; omega
    have key : ∀ n, max K1 (max K2 K4) ≤ n → runnellaw10_SeekFinds.j4 (n + 1) l a r (start l.length a : Nat) = some true := by
      intro n hn
      simp only [runnellaw10_SeekFinds.j4]
      rw [hf]
      simp only [Option.bind_some]
      rw [b1 n (by omega)]
      simp only [Option.bind_some]
      cases b with
      | true =>
        have h6 := h5 (b2 rfl)
        rw [if_pos rfl, f1 n (by omega)]
        simp only [Option.bind_some]
        rw [if_pos (by omega), show wrap64 ((at_ : Int) - (start l.length a : Nat)) = ((at_ - start l.length a : Nat) : Int) by unfold wrap64; omega, p1 n (by omega)]
        simp only [Option.bind_some]
        rw [if_pos (by omega), seekLive]; rfl
      | false =>
        rw [if_neg (by simp), if_pos (by omega), if_pos (by omega), seekLive]; rfl
    refine ⟨max K1 (max K2 (max K3 K4)) + 4, fun n hn => ?_⟩
    obtain ⟨n, rfl⟩ : ∃ m, n = m + 1 + 1 + 1 + 1 := ⟨n - 4, by omega⟩
    have key := key n (by omega)
    simp only [runnellaw10_SeekFinds.l0]
    rw [if_neg (by omega), if_pos (by omega), f0 (n + 1 + 1 + 1) (by omega)]
    simp only [Option.bind_some]
    by_cases c1 : a > 0
    · rw [if_pos c1]
      simp only [runnellaw10_SeekFinds.j2]
      by_cases c2 : a ≤ l.length
      · rw [if_pos (decide_eq_true c2)]
        simp only [runnellaw10_SeekFinds.j3]
        rw [if_neg (by omega)]
        rw [hst, if_pos ⟨c1, c2⟩] at key
        exact key
      · rw [if_neg (by simpa using c2)]
        simp only [runnellaw10_SeekFinds.j3]
        rw [if_pos (by omega)]
        rw [hst, if_neg (by omega), if_pos (by omega)] at key
        exact key
    · rw [if_neg c1]
      simp only [runnellaw10_SeekFinds.j2, Bool.false_eq_true, if_false, runnellaw10_SeekFinds.j3]
      rw [if_neg (by omega)]
      rw [hst, if_neg (by omega), if_neg (by omega)] at key
      exact key
  | succ d ih =>
    intro k hd hk
    obtain ⟨K1, h1⟩ := refLong (l.getD k [])
    obtain ⟨K2, h2⟩ := ih (k + 1) (by omega) (by omega)
    simp only [] at h1 h2
    refine ⟨max K1 K2 + 1, fun n hn => ?_⟩
    obtain ⟨n, rfl⟩ : ∃ m, n = m + 1 := ⟨n - 1, by omega⟩
    simp only [runnellaw10_SeekFinds.l0]
    rw [if_pos (by omega), if_pos (by omega), rd_getD, h1 n (by omega)]
    simp only [Option.bind_some]
    by_cases hc : longR (l.getD k []) = true
    · rw [if_pos hc, seekLive]; rfl
    · rw [if_neg hc, show wrap64 ((k : Int) + 1) = ((k + 1 : Nat) : Int) by unfold wrap64; omega]
      exact h2 n (by omega)
theorem seekFinds_pure (l : List Row) (a : Int) (r : Row) (hr : ∀ x ∈ l, x.length ≤ 9223372036854775807) : ∃ k, runnellaw10_SeekFinds.f k l a r = some true := by
  unfold runnellaw10_SeekFinds.f
  by_cases c : (l.length : Int) > 300
  · refine ⟨1, ?_⟩
    rw [if_pos c]
    simp only [runnellaw10_SeekFinds.j0]
    rw [if_pos trivial, seekLive]; rfl
  · obtain ⟨K1, h1⟩ := refLong r
    obtain ⟨K2, h2⟩ := seekFinds_l l a r (by omega) hr _ 0 rfl (by omega)
    simp only [] at h1 h2
    refine ⟨max K1 K2 + 1, ?_⟩
    rw [if_neg c, h1 _ (by omega)]
    simp only [Option.bind_some, runnellaw10_SeekFinds.j0]
    by_cases hl : longR r = true
    · rw [if_pos hl, seekLive]; rfl
    · rw [if_neg hl]; exact h2 _ (by omega)
end Go.Proofs.Ytpflmgbpjhbmnaa.B
namespace Go.Proofs.Ytpflmgbpjhbmnaa.B
open Go.RowKit Go.Proofs.YtpflmgbpjhbmnaaW.PrintWords
theorem seekFinds_walk (w : World) (A0 : Option Addr) (c0 : Nat) (l0 : List Row) (hr0 : Kd.C (Kd.slice 56 k56) w A0 l0.length l0) (hc0 : l0.length ≤ c0) (g0 : l0.length ≤ 9223372036854775807 ∧ ∀ y ∈ l0, y.length ≤ 9223372036854775807 ∧ ∀ v ∈ y, GV v)
    (a : Int) (wa : (Lit.int .i64 a).wf = true) (A2 : Option Addr) (c2 : Nat) (l2 : Row) (hr2 : Kd.C k56 w A2 l2.length l2) (hc2 : l2.length ≤ c2) (g2 : l2.length ≤ 9223372036854775807 ∧ ∀ v ∈ l2, GV v) :
    Calls Try.prog 3 #[.slice A0 l0.length c0, .int .i64 a, .slice A2 l2.length c2] w fun e w' => e = .returned (.bool true) ∧ Below w.heap.size w w' := by
  obtain ⟨k, h⟩ := seekFinds_pure l0 a l2 (fun x hx => (g0.2 x hx).1)
  exact runnellaw10_SeekFinds.calls k A0 c0 l0 a A2 c2 l2 true w hr0 hc0 hr2 hc2 h
end Go.Proofs.Ytpflmgbpjhbmnaa.B
