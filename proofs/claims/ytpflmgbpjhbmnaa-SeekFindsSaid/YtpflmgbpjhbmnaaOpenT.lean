/- From arguments that read as data to the printed texts' kinds: values, rows, times, changes. No condition. -/
import Derived.Test.YtpflmgbpjhbmnaaOpen
import Derived.Test.YtpflmgbpjhbmnaaBx0
import Derived.KernelRfl
namespace Go.Proofs.Ytpflmgbpjhbmnaa.B
open Go.RowKit Go.Proofs.YtpflmgbpjhbmnaaW.PrintWords Go.Proofs.YtpflmgbpjhbmnaaW.PrintLast Go.Proofs.YtpflmgbpjhbmnaaW.PrintMore
set_option linter.unusedVariables false

def GV (v : S56) : Prop := (Lit.int .i64 v.f0).wf = true ∧ (Lit.int .i64 v.f1).wf = true ∧ v.f2.size ≤ 9223372036854775807
def GR (r : List S56) : Prop := r.length ≤ 9223372036854775807 ∧ ∀ v ∈ r, GV v
def GL {α : Type} (G : α → Prop) (l : List α) : Prop := l.length ≤ 9223372036854775807 ∧ ∀ v ∈ l, G v
section
variable {H : Type} {enc : TypeId × Value → H} {w : World} {base : Nat} {spare : Nat → Bool} {held : Bool}
theorem opens_V : Open.Opens enc Try.prog w base spare held 56 k56 GV := by
  intro fuel cs x h
  obtain ⟨hl, y0, k0, g0⟩ := Open.field Try.underlying56 h 0 _ rfl (d := Kd.int .i64) (by kernel_rfl) (Open.int Try.underlying3)
  obtain ⟨_, y1, k1, g1⟩ := Open.field Try.underlying56 h 1 _ rfl (d := Kd.int .i64) (by kernel_rfl) (Open.int Try.underlying3)
  obtain ⟨_, y2, k2, g2⟩ := Open.field Try.underlying56 h 2 _ rfl (d := Kd.string) (by kernel_rfl) (Open.str Try.underlying9)
  have hl : cs.length = 3 := hl.trans (by kernel_rfl)
  exact ⟨⟨y0, y1, y2⟩, Open.three (a := Kd.int .i64) (b := Kd.int .i64) (c := Kd.string) hl k0 k1 k2, g0, g1, g2⟩
theorem opens_R : Open.Opens enc Try.prog w base spare held 24 (Kd.slice 56 k56) (GL GV) := Open.slice Try.underlying24 (by kernel_rfl) opens_V
end
end Go.Proofs.Ytpflmgbpjhbmnaa.B
