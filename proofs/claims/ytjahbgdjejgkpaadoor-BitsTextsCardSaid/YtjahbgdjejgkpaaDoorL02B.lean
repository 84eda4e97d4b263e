/- The law BitsBelow, plainly. -/
import Derived.Test.YtjahbgdjejgkpaaDoorPF
import Derived.Test.YtjahbgdjejgkpaaDoorXPB
namespace LJ
open Go Go.RowKit
set_option linter.unusedVariables false
set_option linter.unusedSimpArgs false

theorem lives02 : law02_lives = some true := by decide +kernel
theorem one_clip (b : Int) : ∃ k : Nat, k < 66 ∧ bits_one b = bits_one ((k : Int) - 1) ∧ (b < 0 ∧ k = 0 ∨ 63 < b ∧ k = 65 ∨ 0 ≤ b ∧ b ≤ 63 ∧ (k : Int) - 1 = b) := by
  by_cases h0 : b < 0
  · refine ⟨0, by omega, ?_, .inl ⟨h0, rfl⟩⟩
    rw [bits_one, iLt_t h0, Bool.true_or, cond_true]
    decide +kernel
  · by_cases h1 : 63 < b
    · refine ⟨65, by omega, ?_, .inr (.inl ⟨h1, rfl⟩)⟩
      rw [bits_one, iLt_t h1, Bool.or_true, cond_true]
      decide +kernel
    · refine ⟨(b + 1).toNat, by omega, ?_, .inr (.inr ⟨by omega, by omega, by omega⟩)⟩
      rw [show (((b + 1).toNat : Nat) : Int) - 1 = b by omega]
end LJ