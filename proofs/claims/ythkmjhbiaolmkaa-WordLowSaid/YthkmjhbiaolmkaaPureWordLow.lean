/- The word of any number's lowest 32 bits, and which numbers are words (WordLow): proved for all numbers of Go's int, without conditions. -/
import Derived.Test.YthkmjhbiaolmkaaPWordLowx1
namespace Go.Proofs.Ythkmjhbiaolmkaa.Pure
open Go.RowKit Go.Proofs.Ythkmjhbiaolmkaa.PWordLow Go.Proofs.YthkmjhbiaolmkaaW.PrintWords Go.Proofs.YthkmjhbiaolmkaaW.PrintLast

theorem wf64 {a : Int} (h : (Lit.int .i64 a).wf = true) : -9223372036854775808 ≤ a ∧ a ≤ 9223372036854775807 := by
  simpa [Lit.wf, IntKind.min, IntKind.max, IntKind.signed, IntKind.bits] using h

theorem lives_ok : logjamlaw03_lives.f 1 = some true := by kernel_rfl

theorem low_eq (a : Int) : word_Low.f a = some (wrap32 a) := by
  unfold word_Low.f wrap64 wrap32
  congr 1
  omega

theorem fits_eq (a : Int) : word_Fits.f a = some (decide (-2147483648 ≤ a ∧ a < 2147483648)) := by
  unfold word_Fits.f wrap64 wrap32
  congr 1
  rw [Bool.eq_iff_iff]
  simp only [beq_iff_eq, decide_eq_true_eq]
  omega

theorem rfits_eq (a : Int) : logjamref03_Fits.f a = some (decide (-2147483648 ≤ a ∧ a < 2147483648)) := by
  unfold logjamref03_Fits.f
  by_cases h : a ≥ -2147483648
  · rw [if_pos h]; congr 1; rw [Bool.eq_iff_iff]; simp only [decide_eq_true_eq]; omega
  · rw [if_neg h]; congr 1; rw [Bool.eq_iff_iff]; simp only [decide_eq_true_eq, Bool.false_eq_true, false_iff]; omega

theorem rlow_eq (a : Int) : logjamref03_Low.f a = some (wrap32 a) := by
  unfold logjamref03_Low.f wrap64 wrap32
  have := Int.tmod_eq_emod (a := a) (b := 4294967296)
  split at this <;> split <;> (try split) <;> congr 1 <;> simp at * <;> omega

theorem WordLow : logjamlaw03_WordLow.Pure := by
  intro a b ha hb
  have ha := wf64 ha
  have hb := wf64 hb
  refine ⟨1, ?_⟩
  unfold logjamlaw03_WordLow.f
  simp only [low_eq, fits_eq, rfits_eq, rlow_eq a, Option.bind_some, lives_ok]
  have e1 : wrap32 (wrap32 a) = wrap32 a := by unfold wrap32; omega
  have e2 : Int.tmod (wrap64 (Int.tmod a 4294967296 - wrap32 a)) 4294967296 = 0 := by
    have := Int.tmod_eq_emod (a := a) (b := 4294967296)
    rw [Int.tmod_eq_emod]
    unfold wrap64 wrap32
    split at this <;> split <;> simp at * <;> omega
  have e3 : -2147483648 ≤ wrap32 a ∧ wrap32 a < 2147483648 := by unfold wrap32; omega
  have e4 : ((wrap32 a == wrap32 b) == (Int.tmod (wrap64 (Int.tmod a 4294967296 - Int.tmod b 4294967296)) 4294967296 == 0)) = true := by
    have h1 := Int.tmod_eq_emod (a := a) (b := 4294967296)
    have h2 := Int.tmod_eq_emod (a := b) (b := 4294967296)
    have h3 := Int.tmod_eq_emod (a := wrap64 (Int.tmod a 4294967296 - Int.tmod b 4294967296)) (b := 4294967296)
    rw [beq_iff_eq, Bool.eq_iff_iff]
    simp only [beq_iff_eq]
    unfold wrap64 at *
    unfold wrap32
    split at h1 <;> split at h2 <;> split at h3 <;> simp at * <;> omega
  simp [e1, e2, e3, e4]

end Go.Proofs.Ythkmjhbiaolmkaa.Pure
