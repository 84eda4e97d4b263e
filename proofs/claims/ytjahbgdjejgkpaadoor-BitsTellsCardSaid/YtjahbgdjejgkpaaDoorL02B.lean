/- The law BitsBelow, plainly. -/
import Derived.Test.YtjahbgdjejgkpaaDoorPF
import Derived.Test.YtjahbgdjejgkpaaDoorXPB
namespace LJ
open Go Go.RowKit
set_option linter.unusedVariables false
set_option linter.unusedSimpArgs false

theorem lives02 : law02_lives = some true := by decide +kernel
theorem has_fin : ∀ n : Fin 65, ∀ k : Fin 66, ((bits_All ((n : Nat) : Int)).bind fun x => bits_Set_Has x (((k : Nat) : Int) - 1)) = some ((iLe 0 (((k : Nat) : Int) - 1) && iLt (((k : Nat) : Int) - 1) 64) && iLt (((k : Nat) : Int) - 1) ((n : Nat) : Int)) := by decide +kernel
theorem count_fin : ∀ n : Fin 65, ((bits_All ((n : Nat) : Int)).bind fun x => bits_Set_Count x) = some ((n : Nat) : Int) := by decide +kernel
theorem all_clip (a : Int) : ∃ n : Nat, n < 65 ∧ bits_All a = bits_All (n : Int) ∧ iMax (0 : Int) (iMin a 64) = (n : Int) ∧ ∀ k : Int, k < 64 → 0 ≤ k → iLt k a = iLt k (n : Int) := by
  by_cases h0 : a ≤ 0
  · refine ⟨0, by omega, ?_, ?_, fun k _ h => ?_⟩
    · rw [bits_All]
      rw [iLe_t h0, cond_true]
      decide +kernel
    · unfold iMax iMin; repeat' split
      all_goals omega
    · rw [iLt_f (by omega), iLt_f (by omega)]
  · by_cases h1 : 63 < a
    · refine ⟨64, by omega, ?_, ?_, fun k h _ => ?_⟩
      · rw [bits_All]
        rw [iLe_f (by omega), cond_false, iLt_t h1, cond_true]
        decide +kernel
      · unfold iMax iMin; repeat' split
        all_goals omega
      · rw [iLt_t (by omega), iLt_t (by omega)]
    · refine ⟨a.toNat, by omega, by rw [Int.toNat_of_nonneg (by omega)], ?_, fun k _ _ => by rw [Int.toNat_of_nonneg (by omega)]⟩
      unfold iMax iMin; repeat' split
      all_goals omega
theorem one_clip (b : Int) : ∃ k : Nat, k < 66 ∧ bits_one b = bits_one ((k : Int) - 1) ∧ (b < 0 ∧ k = 0 ∨ 63 < b ∧ k = 65 ∨ 0 ≤ b ∧ b ≤ 63 ∧ (k : Int) - 1 = b) := by
  by_cases h0 : b < 0
  · refine ⟨0, by omega, ?_, .inl ⟨h0, rfl⟩⟩
    rw [bits_one, iLt_t h0, Bool.true_or, cond_true]
    decide +kernel
  · by_cases h1 : 63 < b
    · refine ⟨65, by omega, ?_, .inr (.inl ⟨h1, rfl⟩)⟩
      rw [bits_one, iLt_t h1, Bool.or_true, cond_true]
      decide +kernel
    · refine ⟨(b + 1).toNat, by omega, ?_, .inr (.inr ⟨by omega, by omega, by omega⟩)⟩
      rw [show (((b + 1).toNat : Nat) : Int) - 1 = b by omega]
theorem BitsBelow_pure (a b : Int) : law02_BitsBelow a b = some true := by
  obtain ⟨n, hn, ha, hm, hlt⟩ := all_clip a
  obtain ⟨k, hk, hb, hcase⟩ := one_clip b
  have h1 := has_fin ⟨n, hn⟩ ⟨k, hk⟩
  have h2 := count_fin ⟨n, hn⟩
  dsimp only at h1 h2
  have hc : ((iLe 0 b && iLt b 64) && iLt b a) = ((iLe 0 ((k : Int) - 1) && iLt ((k : Int) - 1) 64) && iLt ((k : Int) - 1) (n : Int)) := by
    rcases hcase with ⟨g, rfl⟩ | ⟨g, rfl⟩ | ⟨g1, g2, g3⟩
    · rw [iLe_f (by omega), iLe_f (by omega)]; rfl
    · rw [iLt_f (b := 64) (by omega), iLt_f (b := 64) (by omega)]; simp
    · rw [g3, hlt b (by omega) g1]
  unfold law02_BitsBelow
  rw [hm, hc, ha]
  cases hx : bits_All (n : Int) with
  | none => rw [hx] at h2; cases h2
  | some x =>
    rw [hx, bind_some'] at h1 h2
    have h3 : bits_Set_Has x b = bits_Set_Has x ((k : Int) - 1) := by unfold bits_Set_Has; rw [hb]
    rw [bind_some', h3, h1, bind_some', beq_self_eq_true, cond_true, h2, bind_some', iEq_t rfl, cond_true, lives02]
    rfl
end LJ
