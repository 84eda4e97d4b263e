/- Plain laws of bits: a number's bits from the lowest, which and how many. -/
import Derived.Test.YtjahbgdjejgkpaaDoorP02
import Derived.Lib.TrailingZeros
namespace LJ
open Go Go.RowKit
set_option linter.unusedVariables false
set_option linter.unusedSimpArgs false

/-- How many of the k lowest bits are set. -/
def pc : Nat → Nat → Nat
  | 0, _ => 0
  | k + 1, x => x % 2 + pc k (x / 2)
/-- Which of the k lowest are set; the lowest is called n. -/
def ls : Nat → Nat → Nat → List Int
  | 0, _, _ => []
  | k + 1, n, x => if x % 2 = 1 then (n : Int) :: ls k (n + 1) (x / 2) else ls k (n + 1) (x / 2)
theorem pc_byte (m x : Nat) : pc (m + 8) x = popB (x % 256) + pc m (x / 256) := by
  simp only [pc]
  rw [show x / 2 / 2 / 2 / 2 / 2 / 2 / 2 / 2 = x / 256 by omega]
  unfold popB
  omega
theorem digs_pc : ∀ n x, ((digs n x).map popB).sum = pc (8 * n) x
  | 0, x => rfl
  | n + 1, x => by
    rw [show 8 * (n + 1) = 8 * n + 8 by omega, pc_byte]
    simp only [digs, List.map_cons, List.sum_cons]
    rw [digs_pc n]
theorem cnt_pc (x : Nat) : cntN x = pc 64 x := digs_pc 8 x
theorem ls_len : ∀ k n x, (ls k n x).length = pc k x
  | 0, n, x => rfl
  | k + 1, n, x => by
    rw [ls, pc]
    split
    · rename_i h
      rw [List.length_cons, ls_len k, h]; omega
    · rw [ls_len k]; omega
theorem ls_zero : ∀ k n, ls k n 0 = []
  | 0, n => rfl
  | k + 1, n => by rw [ls, if_neg (by decide)]; exact ls_zero k (n + 1)
theorem pc_zero : ∀ k, pc k 0 = 0
  | 0 => rfl
  | k + 1 => by rw [pc, pc_zero]
theorem and_half (a b : Nat) : (a &&& b) / 2 = a / 2 &&& b / 2 := by
  have := Nat.and_div_two_pow (a := a) (b := b) (n := 1)
  simpa using this
theorem and_odd (a b : Nat) : (a &&& b) % 2 = (a % 2) * (b % 2) := by
  have := Nat.and_mod_two_pow (a := a) (b := b) (n := 1)
  simp only [Nat.reducePow] at this
  rw [this]
  rcases Nat.mod_two_eq_zero_or_one a with h | h <;> rcases Nat.mod_two_eq_zero_or_one b with g | g <;> rw [h, g] <;> rfl
theorem or_half (a b : Nat) : (a ||| b) / 2 = a / 2 ||| b / 2 := by
  have := Nat.or_div_two_pow (a := a) (b := b) (n := 1)
  simpa using this
theorem or_odd (a b : Nat) : (a ||| b) % 2 = max (a % 2) (b % 2) := by
  have := Nat.or_mod_two_pow (a := a) (b := b) (n := 1)
  simp only [Nat.reducePow] at this
  rw [this]
  rcases Nat.mod_two_eq_zero_or_one a with h | h <;> rcases Nat.mod_two_eq_zero_or_one b with g | g <;> rw [h, g] <;> rfl
theorem ls_pop : ∀ k n x, x ≠ 0 → x < 2 ^ k → ls k n x = ((n + Lib.ctzFrom k x : Nat) : Int) :: ls k n (x &&& (x - 1))
  | 0, n, x, h0, h => by simp at h; omega
  | k + 1, n, x, h0, h => by
    rw [Nat.pow_succ] at h
    rw [ls, ls, Lib.ctzFrom, and_half, and_odd]
    by_cases hx : x % 2 = 1
    · rw [if_pos hx, if_pos hx, if_neg (by rw [show (x - 1) % 2 = 0 by omega]; simp), show (x - 1) / 2 = x / 2 by omega, Nat.and_self]
      rfl
    · rw [if_neg hx, if_neg hx, if_neg (by rw [show x % 2 = 0 by omega]; simp), show (x - 1) / 2 = x / 2 - 1 by omega, ls_pop k (n + 1) (x / 2) (by omega) (by omega)]
      congr 2
      omega
theorem ls_mem : ∀ k n x (v : Int), v ∈ ls k n x ↔ ∃ i : Nat, i < k ∧ v = ((n + i : Nat) : Int) ∧ x.testBit i = true
  | 0, n, x, v => by simp [ls]
  | k + 1, n, x, v => by
    have ih := ls_mem k (n + 1) (x / 2) v
    have tb : x.testBit 0 = decide (x % 2 = 1) := Nat.testBit_zero x
    have ts : ∀ i, x.testBit (i + 1) = (x / 2).testBit i := fun i => Nat.testBit_succ x i
    have key : v ∈ ls (k + 1) n x ↔ (x % 2 = 1 ∧ v = (n : Int)) ∨ v ∈ ls k (n + 1) (x / 2) := by
      rw [ls]; split
      · rename_i h; simp [h]
      · rename_i h; simp [h]
    rw [key, ih]
    constructor
    · rintro (⟨h1, h2⟩ | ⟨i, h1, h2, h3⟩)
      · exact ⟨0, by omega, by simpa using h2, by rw [tb]; simpa using h1⟩
      · exact ⟨i + 1, by omega, by rw [h2]; congr 1; omega, by rw [ts]; exact h3⟩
    · rintro ⟨i, h1, h2, h3⟩
      cases i with
      | zero => left; rw [tb] at h3; exact ⟨by simpa using h3, by simpa using h2⟩
      | succ i => right; exact ⟨i, by omega, by rw [h2]; congr 1; omega, by rw [← ts]; exact h3⟩
/-- The bits from m on alone. -/
theorem ls_from : ∀ m k n x, ls k n (x >>> m <<< m) = (ls k n x).filter fun v => decide (((n + m : Nat) : Int) ≤ v)
  | m, 0, n, x => rfl
  | 0, k + 1, n, x => by
    rw [Nat.shiftRight_zero, Nat.shiftLeft_zero]
    refine (List.filter_eq_self.2 fun v hv => ?_).symm
    obtain ⟨i, h1, h2, h3⟩ := (ls_mem (k + 1) n x v).1 hv
    simp only [decide_eq_true_eq]; omega
  | m + 1, k + 1, n, x => by
    have e1 : (x >>> (m + 1) <<< (m + 1)) % 2 = 0 := by rw [Nat.shiftLeft_eq, Nat.pow_succ, ← Nat.mul_assoc, Nat.mul_mod_left]
    have e2 : (x >>> (m + 1) <<< (m + 1)) / 2 = (x / 2) >>> m <<< m := by
      rw [Nat.shiftLeft_eq, Nat.shiftLeft_eq, Nat.shiftRight_eq_div_pow, Nat.shiftRight_eq_div_pow, Nat.pow_succ, Nat.div_div_eq_div_mul, Nat.mul_comm 2, ← Nat.mul_assoc, Nat.mul_div_cancel _ (by decide)]
    rw [ls, ls, if_neg (by omega), e2, ls_from m k (n + 1) (x / 2)]
    by_cases hx : x % 2 = 1
    · rw [if_pos hx, List.filter_cons_of_neg (by simp; omega)]
      congr 2; funext v; congr 2; omega
    · rw [if_neg hx]
      congr 2; funext v; congr 2; omega

theorem div_bit (x i : Nat) : x.testBit i = decide (x / 2 ^ i % 2 = 1) := by
  rw [Nat.testBit_eq_decide_div_mod_eq]
theorem or_pow : ∀ (i x : Nat), x ||| 2 ^ i = if x.testBit i then x else x + 2 ^ i
  | 0, x => by
    have h1 := or_half x 1
    have h2 := or_odd x 1
    rw [Nat.testBit_zero, Nat.pow_zero]
    have : x / 2 ||| 1 / 2 = x / 2 := by simp
    rw [this] at h1
    split
    · rename_i h; simp at h; omega
    · rename_i h; simp at h; omega
  | i + 1, x => by
    have h1 := or_half x (2 ^ (i + 1))
    have h2 := or_odd x (2 ^ (i + 1))
    have e : 2 ^ (i + 1) / 2 = 2 ^ i := by rw [Nat.pow_succ]; omega
    have e' : 2 ^ (i + 1) % 2 = 0 := by rw [Nat.pow_succ]; omega
    rw [e, or_pow i (x / 2)] at h1
    rw [e'] at h2
    rw [Nat.testBit_succ]
    rw [Nat.pow_succ] at *
    split
    · rename_i h; rw [if_pos h] at h1; omega
    · rename_i h; rw [if_neg h] at h1; omega
/-- A number without its i-th bit. -/
theorem wo_pow (i x : Nat) (hx : x < 2 ^ 64) (hi : i < 64) : x &&& (2 ^ 64 - 1 - 2 ^ i) = if x.testBit i then x - 2 ^ i else x := by
  have hm : ∀ j, (2 ^ 64 - 1 - 2 ^ i).testBit j = (decide (j < 64) && !decide (i = j)) := fun j => by
    have h : 2 ^ i < 2 ^ 64 := Nat.pow_lt_pow_right (by decide) hi
    have := Nat.testBit_two_pow_sub_succ h j
    rw [Nat.testBit_two_pow] at this
    rw [← this]
    congr 1
    omega
  split
  · rename_i h
    have hor := or_pow i (x &&& (2 ^ 64 - 1 - 2 ^ i))
    have hb : (x &&& (2 ^ 64 - 1 - 2 ^ i)).testBit i = false := by rw [Nat.testBit_and, hm]; simp
    rw [hb] at hor
    have : (x &&& (2 ^ 64 - 1 - 2 ^ i)) ||| 2 ^ i = x := by
      apply Nat.eq_of_testBit_eq
      intro j
      rw [Nat.testBit_or, Nat.testBit_and, hm, Nat.testBit_two_pow]
      by_cases hj : i = j
      · subst hj; simp [h]
      · by_cases h64 : j < 64
        · simp [hj, h64]
        · have : x.testBit j = false := Nat.testBit_lt_two_pow (Nat.lt_of_lt_of_le hx (Nat.pow_le_pow_right (by decide) (by omega)))
          simp [this, hj]
    rw [this, if_neg Bool.false_ne_true] at hor
    exact Nat.eq_sub_of_add_eq hor.symm
  · rename_i h
    apply Nat.eq_of_testBit_eq
    intro j
    rw [Nat.testBit_and, hm]
    by_cases hj : i = j
    · subst hj; simp [h]
    · by_cases h64 : j < 64
      · simp [hj, h64]
      · have : x.testBit j = false := Nat.testBit_lt_two_pow (Nat.lt_of_lt_of_le hx (Nat.pow_le_pow_right (by decide) (by omega)))
        simp [this]
/-- How many, by halves. -/
theorem pc_add : ∀ a b x, pc (a + b) x = pc a (x % 2 ^ a) + pc b (x / 2 ^ a)
  | 0, b, x => by simp [pc]
  | a + 1, b, x => by
    rw [show a + 1 + b = (a + b) + 1 by omega, pc, pc, pc_add a b (x / 2)]
    have e1 : x % 2 ^ (a + 1) % 2 = x % 2 := Nat.mod_mod_of_dvd _ ⟨2 ^ a, by rw [Nat.pow_succ, Nat.mul_comm]⟩
    have e2 : x % 2 ^ (a + 1) / 2 = x / 2 % 2 ^ a := by
      rw [Nat.pow_succ, Nat.mul_comm, Nat.mod_mul_right_div_self]
    have e3 : x / 2 ^ (a + 1) = x / 2 / 2 ^ a := by rw [Nat.pow_succ, Nat.mul_comm, Nat.div_div_eq_div_mul]
    rw [e1, e2, e3]
    omega
/-- A number turned round. -/
def rot (k x : Nat) : Nat := x / 2 ^ (64 - k) + 2 ^ k * (x % 2 ^ (64 - k))
theorem rot_lt {k x : Nat} (hk : k < 64) (hx : x < 2 ^ 64) : x / 2 ^ (64 - k) < 2 ^ k ∧ rot k x < 2 ^ 64 := by
  have e : 2 ^ 64 = 2 ^ (64 - k) * 2 ^ k := by rw [← Nat.pow_add]; congr 1; omega
  have h1 : x / 2 ^ (64 - k) < 2 ^ k := Nat.div_lt_of_lt_mul (by rw [← e]; exact hx)
  refine ⟨h1, ?_⟩
  have h2 : x % 2 ^ (64 - k) < 2 ^ (64 - k) := Nat.mod_lt _ (Nat.two_pow_pos _)
  unfold rot
  have h3 : 2 ^ k * (x % 2 ^ (64 - k) + 1) ≤ 2 ^ k * 2 ^ (64 - k) := Nat.mul_le_mul_left _ h2
  rw [Nat.mul_add, Nat.mul_one] at h3
  rw [e, Nat.mul_comm (2 ^ (64 - k))]
  omega
theorem rot_pc {k x : Nat} (hk : k < 64) (hx : x < 2 ^ 64) : pc 64 (rot k x) = pc 64 x := by
  have h1 := (rot_lt hk hx).1
  have a := pc_add k (64 - k) (rot k x)
  have b := pc_add (64 - k) k x
  have em : rot k x % 2 ^ k = x / 2 ^ (64 - k) := by unfold rot; rw [Nat.add_mul_mod_self_left, Nat.mod_eq_of_lt h1]
  have ed : rot k x / 2 ^ k = x % 2 ^ (64 - k) := by unfold rot; rw [Nat.add_mul_div_left _ _ (Nat.two_pow_pos k), Nat.div_eq_of_lt h1, Nat.zero_add]
  rw [em, ed, show k + (64 - k) = 64 by omega] at a
  rw [show 64 - k + k = 64 by omega] at b
  omega
theorem rot_bit {k x : Nat} (hk : k < 64) (hx : x < 2 ^ 64) (j : Nat) (hj : j < 64) : (rot k x).testBit j = x.testBit ((j + 64 - k) % 64) := by
  have h1 := (rot_lt hk hx).1
  have e : rot k x = 2 ^ k * (x % 2 ^ (64 - k)) + x / 2 ^ (64 - k) := Nat.add_comm _ _
  rw [e, Nat.testBit_two_pow_mul_add _ h1]
  split
  · rename_i h
    rw [Nat.testBit_div_two_pow]
    congr 1
    rw [Nat.mod_eq_of_lt (by omega)]
    omega
  · rename_i h
    rw [Nat.testBit_mod_two_pow, decide_eq_true (by omega), Bool.true_and]
    congr 1
    omega
end LJ
