import Derived.Test.YtfbdapchaofeoaaOctB
import Derived.Laws.Bits64b
import Derived.Laws.BitsLemmas
namespace Go.Proofs.Ytfbdapchaofeoaa.Oct
open Go Go.RowKit LJ
set_option linter.unusedVariables false
set_option linter.unusedSimpArgs false

/-! ### Bits -/
theorem xor_zero_u64 (x : Int) (h0 : 0 ≤ x) (h1 : x < 18446744073709551616) : Go.bits .xor .u64 x 0 = x := by
  have := bits_xor_u64_nat x.toNat 0 (by omega) (by decide)
  rw [Int.toNat_of_nonneg h0, Nat.xor_zero, Int.toNat_of_nonneg h0] at this
  exact this
theorem xor_ones_u64 (x : Int) (h0 : 0 ≤ x) (h1 : x < 18446744073709551616) : Go.bits .xor .u64 x 18446744073709551615 = 18446744073709551615 - x := by
  have hy : BitVec.ofInt 64 18446744073709551615 = BitVec.allOnes 64 := by decide
  show IntKind.u64.wrap ((BitVec.ofInt 64 x ^^^ BitVec.ofInt 64 18446744073709551615).toNat : Int) = _
  rw [hy, BitVec.xor_allOnes, BitVec.toNat_not, BitVec.toNat_ofInt, IntKind.wrap_u64]
  have : ((2 ^ 64 : Nat) : Int) = 18446744073709551616 := rfl
  rw [this]
  omega
theorem xor_zero_i64 (x : Int) (h0 : 0 ≤ x) (h1 : x < 9223372036854775808) : Go.bits .xor .i64 x 0 = x := by
  have hy : BitVec.ofInt 64 0 = 0#64 := by decide
  show IntKind.i64.wrap ((BitVec.ofInt 64 x ^^^ BitVec.ofInt 64 0).toNat : Int) = _
  rw [hy, BitVec.xor_zero, BitVec.toNat_ofInt, IntKind.wrap_i64]
  have : ((2 ^ 64 : Nat) : Int) = 18446744073709551616 := rfl
  rw [this]
  omega
theorem xor_ones_i64 (x : Int) (h0 : 0 ≤ x) (h1 : x < 9223372036854775808) : Go.bits .xor .i64 x (-1) = -x - 1 := by
  have hy : BitVec.ofInt 64 (-1) = BitVec.allOnes 64 := by decide
  show IntKind.i64.wrap ((BitVec.ofInt 64 x ^^^ BitVec.ofInt 64 (-1)).toNat : Int) = _
  rw [hy, BitVec.xor_allOnes, BitVec.toNat_not, BitVec.toNat_ofInt, IntKind.wrap_i64]
  have : ((2 ^ 64 : Nat) : Int) = 18446744073709551616 := rfl
  rw [this]
  omega
theorem zig_eq {x : Int} (h0 : -9223372036854775808 ≤ x) (h1 : x < 9223372036854775808) : zig x = if 0 ≤ x then 2 * x else -2 * x - 1 := by
  unfold zig
  rw [show (2 : Int) ^ min (Int.toNat 1) IntKind.u64.bits = 2 from rfl, show (2 : Int) ^ min (Int.toNat 63) IntKind.i64.bits = 9223372036854775808 from rfl]
  by_cases h : 0 ≤ x
  · rw [if_pos h, show IntKind.u64.wrap (x / 9223372036854775808) = 0 by rw [IntKind.wrap_u64]; omega, show IntKind.u64.wrap (IntKind.u64.wrap x * 2) = 2 * x by rw [IntKind.wrap_u64, IntKind.wrap_u64]; omega]
    exact xor_zero_u64 _ (by omega) (by omega)
  · rw [if_neg h, show IntKind.u64.wrap (x / 9223372036854775808) = 18446744073709551615 by rw [IntKind.wrap_u64]; omega, show IntKind.u64.wrap (IntKind.u64.wrap x * 2) = 18446744073709551616 + 2 * x by rw [IntKind.wrap_u64, IntKind.wrap_u64]; omega]
    rw [xor_ones_u64 _ (by omega) (by omega)]
    omega
theorem and_one {n : Int} (h0 : 0 ≤ n) (h1 : n < 18446744073709551616) : Go.bits .and .u64 n 1 = n % 2 := by
  have := bits_and_u64_nat n.toNat 1 (by omega) (by decide)
  rw [Int.toNat_of_nonneg h0, Nat.and_one_is_mod] at this
  rw [show (1 : Int) = ((1 : Nat) : Int) from rfl, this]
  omega
theorem zag_eq {n : Int} (h0 : 0 ≤ n) (h1 : n < 18446744073709551616) : zagF n = if n % 2 = 0 then n / 2 else -(n / 2) - 1 := by
  unfold zagF
  rw [show (2 : Int) ^ min (Int.toNat 1) IntKind.u64.bits = 2 from rfl, and_one h0 h1, w64_id (a := n / 2) (by omega), w64_id (a := n % 2) (by omega)]
  by_cases h : n % 2 = 0
  · rw [if_pos h, h, show IntKind.i64.wrap (0 - 0) = 0 from by decide]
    exact xor_zero_i64 _ (by omega) (by omega)
  · rw [if_neg h, show n % 2 = 1 by omega, show IntKind.i64.wrap (0 - 1) = -1 from by decide]
    exact xor_ones_i64 _ (by omega) (by omega)
theorem zig_zag {n : Int} (h0 : 0 ≤ n) (h1 : n < 18446744073709551616) : zig (zagF n) = n := by
  rw [zag_eq h0 h1]
  by_cases h : n % 2 = 0
  · rw [if_pos h, zig_eq (by omega) (by omega), if_pos (by omega)]; omega
  · rw [if_neg h, zig_eq (by omega) (by omega), if_neg (by omega)]; omega

/-! ### A byte read -/
theorem byteAt_rng (s : ByteArray) (i : Nat) : 0 ≤ byteAt s i ∧ byteAt s i < 256 := by
  unfold byteAt
  have := (s.get! i).toNat_lt
  omega
theorem bV_eq {s : ByteArray} {at' : Int} (h0 : 0 ≤ at') (h : at' < s.size) (hs : s.size ≤ 140737488355328) : bV s at' = byteAt s at'.toNat := by
  unfold bV bC
  have hb := byteAt_rng s at'.toNat
  rw [decide_eq_false (by omega), cond_false, w64_id (a := at' + 1) (by omega), w64_id (a := at' + 1 - 1) (by omega), show at' + 1 - 1 = at' by omega, w64_id (by omega)]
theorem bV_rng {s : ByteArray} {at' : Int} (h0 : 0 ≤ at') (hs : s.size ≤ 140737488355328) : 0 ≤ bV s at' ∧ bV s at' < 256 := by
  by_cases h : at' < s.size
  · rw [bV_eq h0 h hs]; exact byteAt_rng _ _
  · unfold bV bC
    rw [decide_eq_true (by omega), cond_true]
    omega
theorem bE_ok {s : ByteArray} {at' : Int} (h : at' < s.size) : bE s at' 0 = 0 := by
  unfold bE bC
  rw [decide_eq_false (by omega), cond_false]
theorem bE_end {s : ByteArray} {at' : Int} (h : ¬ at' < s.size) : bE s at' 0 = 3 := by
  unfold bE bC
  rw [decide_eq_true (by omega), cond_true]
  rfl
theorem bA_ok {s : ByteArray} {at' e : Int} (h0 : 0 ≤ at') (h : at' < s.size) (hs : s.size ≤ 140737488355328) : bA s at' e = at' + 1 := by
  unfold bA bC
  rw [decide_eq_false (by omega), cond_false, w64_id (by omega)]

/-- One more group of seven bits. -/
theorem or_add {x y k : Nat} (hx : x < 2 ^ k) : x ||| (y * 2 ^ k) = x + y * 2 ^ k := by
  rw [Nat.or_comm, Nat.mul_comm, ← Nat.two_pow_add_eq_or_of_lt hx]
  omega
theorem nStep_eq {acc b : Int} {i : Nat} (hi : i < 10) (h0 : 0 ≤ acc) (h1 : acc < 128 ^ i) (hb : 0 ≤ b ∧ b < 256) (h9 : i = 9 → b ≤ 1) : nStep acc b (i : Int) = acc + (b % 128) * 128 ^ i ∧ nStep acc b (i : Int) < 18446744073709551616 := by
  have e1 : Go.bits .and .i64 b 127 = b % 128 := bits_mask .i64 8 (by decide) (fun n h0 h1 => by rw [IntKind.wrap_i64]; omega) 7 (by decide) b hb.1 (by simpa using hb.2)
  unfold nStep
  rw [e1, w64_id (a := 7 * (i : Int)) (by omega), show (7 * (i : Int)).toNat = 7 * i by omega, show min (7 * i) IntKind.u64.bits = 7 * i from Nat.min_eq_left (by simp [IntKind.bits]; omega), show IntKind.u64.wrap (b % 128) = b % 128 by rw [IntKind.wrap_u64]; omega]
  obtain ⟨a, rfl⟩ := Int.eq_ofNat_of_zero_le h0
  obtain ⟨c, hc⟩ : ∃ c : Nat, b % 128 = (c : Int) := ⟨(b % 128).toNat, by omega⟩
  have hc2 : c < 128 := by omega
  have hc9 : i = 9 → c ≤ 1 := fun h => by have := h9 h; omega
  rw [hc]
  have p1 : (2 : Nat) ^ (7 * i) = 128 ^ i := by rw [Nat.pow_mul]
  have p2 : (2 : Int) ^ (7 * i) = ((128 ^ i : Nat) : Int) := by rw [← p1]; norm_cast
  have ha : a < 128 ^ i := by exact_mod_cast h1
  have top : a + c * 128 ^ i < 18446744073709551616 ∧ c * 128 ^ i < 18446744073709551616 := by
    have hle : c * 128 ^ i + 128 ^ i ≤ 18446744073709551616 := by
      rcases Nat.lt_or_ge i 9 with h | h
      · have : 128 ^ i ≤ 128 ^ 8 := Nat.pow_le_pow_right (by decide) (by omega)
        calc c * 128 ^ i + 128 ^ i = (c + 1) * 128 ^ i := by rw [Nat.add_mul, Nat.one_mul]
          _ ≤ 128 * 128 ^ 8 := Nat.mul_le_mul (by omega) this
          _ ≤ _ := by decide
      · have hi9 : i = 9 := by omega
        subst hi9
        have := hc9 rfl
        have h9' : (128 : Nat) ^ 9 = 9223372036854775808 := by decide
        rw [h9']
        omega
    omega
  have w1 : IntKind.u64.wrap ((c : Int) * 2 ^ (7 * i)) = ((c * 128 ^ i : Nat) : Int) := by
    rw [p2, ← Int.natCast_mul, IntKind.wrap_u64]
    omega
  rw [w1, bits_or_u64_nat a (c * 128 ^ i) (by omega) top.2]
  have : a ||| c * 128 ^ i = a + c * 128 ^ i := by rw [← p1]; exact or_add (by rw [p1]; exact ha)
  rw [this]
  constructor
  · rw [Int.natCast_add, Int.natCast_mul, Int.natCast_pow]; rfl
  · exact Int.ofNat_lt.2 top.1
end Go.Proofs.Ytfbdapchaofeoaa.Oct
