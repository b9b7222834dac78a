/- From an argument that reads as data to the printed texts' kinds: whole numbers, texts, slices, structs. No condition. -/
import Derived.Deep.Slices
import Derived.ChangeArms
import Derived.ProofKit
import Derived.Test.YtpflmgbpjhbmnaaDoorWMore
namespace Go.Proofs.YtpflmgbpjhbmnaaDoor.Open
open Go.RowKit Go.Proofs.YtpflmgbpjhbmnaaDoorW.PrintWords
set_option linter.unusedVariables false
section
variable {H : Type} {enc : TypeId × Value → H} {P : Program} {w : World} {base : Nat} {spare : Nat → Bool} {held : Bool}

/-- What reads as type t is of kind d, and what is good of it. -/
def Opens (enc : TypeId × Value → H) (P : Program) (w : World) (base : Nat) (spare : Nat → Bool) (held : Bool) (t : TypeId) {α : Type} (d : Kd α) (G : α → Prop) : Prop :=
  ∀ fuel cs x, DataW.trod enc P w base spare held fuel t cs = some x → ∃ y, d.K w y cs ∧ G y

theorem int {t : TypeId} {k : IntKind} (ht : P.underlying t = some (.int k)) : Opens enc P w base spare held t (Kd.int k) (fun n => (Lit.int k n).wf = true) := by
  intro fuel cs x h
  obtain ⟨n, hcs, hx, hw⟩ := DataW.trod_int ht h
  exact ⟨n, hcs, hw⟩
theorem str {t : TypeId} (ht : P.underlying t = some .string) : Opens enc P w base spare held t Kd.string (fun s => s.size ≤ 9223372036854775807) := by
  intro fuel cs x h
  obtain ⟨s, hcs, hx, hw⟩ := DataW.trod_string ht h
  exact ⟨s, hcs, hw⟩

theorem choose_list {α : Type} {n : Nat} {p : Nat → α → Prop} (h : ∀ i, i < n → ∃ x, p i x) : ∃ l : List α, l.length = n ∧ ∀ i x, l[i]? = some x → p i x := by
  induction n with
  | zero => exact ⟨[], rfl, fun i x hx => by simp at hx⟩
  | succ n ih =>
    obtain ⟨l, hl, hp⟩ := ih (fun i hi => h i (by omega))
    obtain ⟨x, hx⟩ := h n (by omega)
    refine ⟨l ++ [x], by simp [hl], fun i y hy => ?_⟩
    rcases Nat.lt_or_ge i l.length with hi | hi
    · rw [List.getElem?_append_left hi] at hy; exact hp i y hy
    · have := (List.getElem?_eq_some_iff.1 hy).1
      rw [List.length_append, List.length_singleton] at this
      have : i = n := by omega
      subst this
      have : x = y := by simpa [hl] using hy
      exact this ▸ hx
theorem slice {t e : TypeId} {α : Type} {d : Kd α} {G : α → Prop} (ht : P.underlying t = some (.slice e)) (hc : P.cellsOf e = d.sz) (ho : Opens enc P w base spare held e d G) :
    Opens enc P w base spare held t (Kd.slice e d) (fun l => l.length ≤ 9223372036854775807 ∧ ∀ y ∈ l, G y) := by
  intro fuel cs x h
  rcases Go.Deep.open_slice ht h with ⟨rfl, _⟩ | ⟨a, len, cap, m, n, D, Pl, rfl, hb, hl, hm, hmm, rfl, hx⟩
  · exact ⟨[], ⟨none, 0, rfl, Nat.le_refl _, rfl, by simp, fun hn => by simp at hn⟩, by simp, fun y hy => by simp at hy⟩
  · have hlm : len ≤ m := by rw [hmm]; split <;> omega
    have key : ∀ i, i < len → ∃ y, ∃ c, c.length = d.sz ∧ d.K w y c ∧ G y ∧ ∀ j u, c[j]? = some u → w.cell? (a.add (i * d.sz + j)) = some u := by
      intro i hi
      obtain ⟨cs', h1, h2⟩ := hx i (by omega)
      obtain ⟨y, hy, hg⟩ := ho _ _ _ h2
      rw [hc] at h1
      refine ⟨y, cs', d.K_len hy, hy, hg, fun j u hu => ?_⟩
      have h3 := World.cells?_some h1
      have hj : j < d.sz := by rw [← d.K_len hy]; exact (List.getElem?_eq_some_iff.1 hu).1
      rw [← Go.Deep.add_add]
      exact (h3.2.2 j hj).trans hu
    obtain ⟨l, hll, hp⟩ := choose_list key
    have hml : len ≤ 9223372036854775807 := by unfold maxLen at hm; omega
    refine ⟨l, ⟨some a, cap, by rw [hll], by omega, by omega, by rw [hll]; exact hml, fun _ => ⟨a, rfl, fun j p hj => ?_⟩⟩, by omega, fun y hy => ?_⟩
    · obtain ⟨c, h1, h2, _, h3⟩ := hp j p hj
      exact ⟨c, h1, h2, h3⟩
    · obtain ⟨i, hi⟩ := List.getElem?_of_mem hy
      obtain ⟨c, _, _, h3, _⟩ := hp i y hi
      exact h3

/-- A struct's fields, one by one: what field i's cells are. -/
theorem field {t : TypeId} {fs : Array Field} {fuel : Nat} {cs : List Value} {x : DataW H × List MemPlace} (ht : P.underlying t = some (.struct fs)) (h : DataW.trod enc P w base spare held fuel t cs = some x)
    (i : Nat) (f : Field) (hf : fs[i]? = some f) {α : Type} {d : Kd α} {G : α → Prop} (hc : P.cellsOf f.type = d.sz) (ho : Opens enc P w base spare held f.type d G) :
    cs.length = P.cellsOf t ∧ ∃ y, d.K w y ((cs.drop f.offset).take d.sz) ∧ G y := by
  obtain ⟨xs, n, _, _, hl, hlen, hx⟩ := DataW.trod_struct ht h
  have h1 := hx i f hf
  have hi : i < xs.length := by rw [hlen]; exact (Array.getElem?_eq_some_iff.1 hf).1
  rw [List.getElem?_eq_getElem hi, hc] at h1
  obtain ⟨y, h2, h3⟩ := ho _ _ _ h1
  exact ⟨hl, y, h2, h3⟩
theorem two {cs : List Value} {α β : Type} {a : Kd α} {b : Kd β} {x : α} {y : β} (hl : cs.length = a.sz + b.sz) (hx : a.K w x ((cs.drop 0).take a.sz)) (hy : b.K w y ((cs.drop a.sz).take b.sz)) : (Kd.pair a b).K w (x, y) cs := by
  refine ⟨_, _, ?_, hx, hy⟩
  rw [List.drop_zero, show (cs.drop a.sz).take b.sz = cs.drop a.sz from List.take_of_length_le (by rw [List.length_drop]; omega), List.take_append_drop]
theorem three {cs : List Value} {α β γ : Type} {a : Kd α} {b : Kd β} {c : Kd γ} {x : α} {y : β} {z : γ} (hl : cs.length = a.sz + (b.sz + c.sz)) (hx : a.K w x ((cs.drop 0).take a.sz)) (hy : b.K w y ((cs.drop a.sz).take b.sz))
    (hz : c.K w z ((cs.drop (a.sz + b.sz)).take c.sz)) : (Kd.pair a (Kd.pair b c)).K w (x, y, z) cs := by
  refine two (b := Kd.pair b c) (by show cs.length = a.sz + (b.sz + c.sz); exact hl) hx ?_
  show (Kd.pair b c).K w (y, z) ((cs.drop a.sz).take (b.sz + c.sz))
  have ht : (cs.drop a.sz).take (b.sz + c.sz) = cs.drop a.sz := List.take_of_length_le (by rw [List.length_drop]; omega)
  rw [ht]
  refine two (by rw [List.length_drop]; omega) (by rw [List.drop_zero]; exact hy) ?_
  rw [List.drop_drop]; exact hz
end
end Go.Proofs.YtpflmgbpjhbmnaaDoor.Open
