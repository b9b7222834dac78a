/- Str. -/
import Derived.WalkKit
section
namespace Go.Proofs.YtpflmgbpjhbmnaaGreat
open Go
theorem kL : ∀ a : List UInt8, Op.bytesLess a a = false
 | [] => rfl
 | x :: a => by simp [Op.bytesLess, kL a]
theorem lY : ∀ a b : List UInt8, (Op.bytesLess a b = true ∧ ¬ a = b ∧ Op.bytesLess b a = false) ∨ (Op.bytesLess a b = false ∧ a = b ∧ Op.bytesLess b a = false) ∨ (Op.bytesLess a b = false ∧ ¬ a = b ∧ Op.bytesLess b a = true)
 | [], [] => by simp [Op.bytesLess]
 | [], _ :: _ => by simp [Op.bytesLess]
 | _ :: _, [] => by simp [Op.bytesLess]
 | x :: a, y :: b => by
  have ih := lY a b
  by_cases h : x = y
  ·subst h
   simp [Op.bytesLess]
   exact ih
  ·have h' : ¬ y = x := fun e => h e.symm
   by_cases hl : x < y
   ·have hg : ¬ y < x := by rw [UInt8.lt_iff_toNat_lt] at *; omega
    left; simp [Op.bytesLess, h, h', hl, hg]
   ·have hg : y < x := by
     rw [UInt8.lt_iff_toNat_lt] at *
     have : ¬ x.toNat = y.toNat := fun e => h (UInt8.toNat_inj.1 e)
     omega
    right; right; simp [Op.bytesLess, h, h', hl, hg]
theorem AW (a b : List UInt8) : (!(Op.bytesLess a b || a == b)) = Op.bytesLess b a := by
 rcases lY a b with ⟨h1, h2, h3⟩ | ⟨h1, h2, h3⟩ | ⟨h1, h2, h3⟩ <;> simp [h1, h2, h3]
 exact h2 ▸ kL _
theorem str_gtr (t : TypeId) (a b : ByteArray) : binOp .gtr t (.string a) (.string b) = pure (.bool (Op.bytesLess b.toList a.toList)) := by
 rw [← AW]; simp [binOp, Op.stringOp]
theorem qN : ∀ a b c : List UInt8, Op.bytesLess a b = true → Op.bytesLess b c = true → Op.bytesLess a c = true
 | [], [], _ => by simp [Op.bytesLess]
 | [], _ :: _, [] => by simp [Op.bytesLess]
 | [], _ :: _, _ :: _ => by simp [Op.bytesLess]
 | _ :: _, [], _ => by simp [Op.bytesLess]
 | _ :: _, _ :: _, [] => by simp [Op.bytesLess]
 | x :: a, y :: b, z :: c => by
  have ih := qN a b c
  simp only [Op.bytesLess, Bool.or_eq_true, Bool.and_eq_true, decide_eq_true_eq, beq_iff_eq, UInt8.lt_iff_toNat_lt, ← UInt8.toNat_inj]
  rintro (h | ⟨h, h1⟩) (k | ⟨k, k1⟩)
  ·left; omega
  ·left; omega
  ·left; omega
  ·right; exact ⟨by omega, ih h1 k1⟩
end Go.Proofs.YtpflmgbpjhbmnaaGreat
end
