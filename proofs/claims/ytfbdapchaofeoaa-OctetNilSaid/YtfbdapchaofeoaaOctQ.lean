import Derived.Test.YtfbdapchaofeoaaOctP
namespace Go.Proofs.Ytfbdapchaofeoaa.Oct
open Go Go.RowKit LJ
set_option linter.unusedVariables false
set_option linter.unusedSimpArgs false

theorem ext_split {s : ByteArray} {j a : Nat} (h1 : j < a) (h2 : a ≤ s.size) : s.extract j a = ByteArray.empty.push (s.get! j) ++ s.extract (j + 1) a := by
  apply ByteArray.ext
  rw [ByteArray.data_append]
  apply Array.ext'
  have hj : j < s.data.size := by have : s.size = s.data.size := rfl; omega
  have hg : s.get! j = s.data[j] := by
    show s.data[j]! = _
    rw [getElem!_pos s.data j hj]
  simp only [ByteArray.data_extract, Array.toList_append, Array.toList_extract, List.extract_eq_take_drop, hg]
  rw [List.drop_eq_getElem_cons (by simpa using hj), show a - j = (a - (j + 1)) + 1 by omega, List.take_succ_cons]
  simp [ByteArray.push]
theorem ext_one {s : ByteArray} {j : Nat} (h2 : j < s.size) : s.extract j (j + 1) = ByteArray.empty.push (s.get! j) := by
  rw [ext_split (by omega) (by omega)]
  apply ByteArray.ext
  rw [ByteArray.data_append]
  simp
theorem byte_of {s : ByteArray} {j : Nat} {b : Int} (h : byteAt s j = b) : UInt8.ofNat b.toNat = s.get! j := by
  subst h
  simp [byteAt]

theorem nOut_spec (s : ByteArray) (hs : s.size ≤ 140737488355328) : ∀ (k i : Nat) (acc at' : Int), k + i = 10 → 0 ≤ acc → acc < 128 ^ i → acc < 18446744073709551616 → 0 ≤ at' → at' ≤ s.size →
    (0 ≤ (nOut s k i acc at' 0).1 ∧ (nOut s k i acc at' 0).1 < 18446744073709551616) ∧ (0 < k → (nOut s k i acc at' 0).2.2 = 0 → ∃ m : Nat, (nOut s k i acc at' 0).1 = acc + m * 128 ^ i ∧ numB m = s.extract at'.toNat (nOut s k i acc at' 0).2.1.toNat ∧ at' < (nOut s k i acc at' 0).2.1 ∧ (nOut s k i acc at' 0).2.1 ≤ s.size ∧ (0 < i → m ≠ 0))
  | 0, i, acc, at', hk, h0, h1, h2, ha, hb => by
    refine ⟨⟨h0, h2⟩, fun h => by omega⟩
  | k + 1, i, acc, at', hk, h0, h1, h2, ha, hb => by
    by_cases hlt : at' < s.size
    · have e1 : (false || decide (bE s at' 0 ≠ 0)) = false := by rw [bE_ok hlt]; rfl
      have eA := bA_ok (e := 0) ha hlt hs
      have eE := bE_ok hlt
      have eV := bV_eq ha hlt hs
      have hbr := byteAt_rng s at'.toNat
      cases hc : nC (bV s at') i with
      | true =>
        rw [nOut_bad e1 hc, eE]
        refine ⟨⟨Int.le_refl 0, (by decide : (0 : Int) < 18446744073709551616)⟩, fun _ h => ?_⟩
        have : fE 0 2 = 2 := rfl
        rw [this] at h
        cases h
      | false =>
        have hc' := hc
        rw [eV] at hc'
        generalize hbb : byteAt s at'.toNat = b at *
        simp only [nC, Bool.or_eq_false_iff, Bool.and_eq_false_iff, decide_eq_false_iff_not] at hc'
        have h9 : i = 9 → b ≤ 1 := fun h => by rcases hc'.1 with h' | h' <;> omega
        have hn0 : 0 < i → b ≠ 0 := fun h => by rcases hc'.2 with h' | h' <;> omega
        obtain ⟨n1, n2⟩ := nStep_eq (acc := acc) (b := b) (i := i) (by omega) h0 h1 hbr h9
        have hp : (0 : Int) < 128 ^ i := Int.pow_pos (by decide)
        have hnn : 0 ≤ nStep acc b i := by
          rw [n1]
          have : 0 ≤ b % 128 * 128 ^ i := Int.mul_nonneg (by omega) (Int.le_of_lt hp)
          omega
        by_cases h128 : b < 128
        · rw [nOut_done e1 hc (by rw [eV]; exact decide_eq_true h128), eV, eA, eE]
          simp only []
          refine ⟨⟨hnn, n2⟩, fun _ _ => ⟨b.toNat, ?_, ?_, by omega, by omega, fun h => by have := hn0 h; omega⟩⟩
          · rw [n1, Int.toNat_of_nonneg hbr.1, show b % 128 = b by omega]
          · rw [numB_small (by omega), show (at' + 1).toNat = at'.toNat + 1 by omega, ext_one (by omega), byte_of hbb]
        · rw [nOut_next e1 hc (by rw [eV]; exact decide_eq_false h128), eV, eA, eE, w64_id (a := (i : Int) + 1) (by omega)]
          have hi9 : i < 9 := by
            rcases Nat.lt_or_ge i 9 with h | h
            · exact h
            · have := h9 (by omega); omega
          have hpow : (128 : Int) ^ (i + 1) = 128 ^ i * 128 := Int.pow_succ _ _
          have hlt2 : nStep acc b i < 128 ^ (i + 1) := by
            rw [n1, hpow]
            have : b % 128 * 128 ^ i ≤ 127 * 128 ^ i := Int.mul_le_mul_of_nonneg_right (by omega) (Int.le_of_lt hp)
            generalize (128 : Int) ^ i = p at *
            generalize b % 128 * p = q at *
            omega
          have ih := nOut_spec s hs k (i + 1) (nStep acc b i) (at' + 1) (by omega) hnn hlt2 n2 (by omega) (by omega)
          rw [show ((i + 1 : Nat) : Int) = (i : Int) + 1 from by simp] at ih
          refine ⟨ih.1, fun _ he => ?_⟩
          obtain ⟨m, g1, g2, g3, g4, g5⟩ := ih.2 (by omega) he
          have hm := g5 (by omega)
          refine ⟨(b % 128).toNat + 128 * m, ?_, ?_, by omega, g4, fun _ => by omega⟩
          · rw [g1, n1, hpow]
            have hc1 : (((b % 128).toNat + 128 * m : Nat) : Int) = b % 128 + 128 * m := by omega
            rw [hc1, Int.add_mul]
            have : (m : Int) * (128 ^ i * 128) = 128 * m * 128 ^ i := by
              rw [Int.mul_comm (128 ^ i) 128, ← Int.mul_assoc, Int.mul_comm (m : Int) 128]
            rw [this]
            omega
          · rw [numB_big (by omega), ext_split (a := (nOut s k ((i : Int) + 1) (nStep acc b i) (at' + 1) 0).2.1.toNat) (by omega) (by omega)]
            rw [show at'.toNat + 1 = (at' + 1).toNat by omega, ← g2, ← byte_of hbb]
            congr 3
            · omega
            · omega
    · have e1 : (false || decide (bE s at' 0 ≠ 0)) = true := by rw [bE_end hlt]; rfl
      rw [nOut_err e1, bE_end hlt]
      exact ⟨⟨Int.le_refl 0, (by decide : (0 : Int) < 18446744073709551616)⟩, fun _ h => by cases h⟩
end Go.Proofs.Ytfbdapchaofeoaa.Oct
