/- What any operation makes of any two numbers, and its fault (WordDoes): proved for all numbers of Go's int, without conditions. -/
import Derived.Test.YthkmjhbiaolmkaaPWordDoesx3
namespace Go.Proofs.Ythkmjhbiaolmkaa.Pure
open Go.RowKit Go.Proofs.Ythkmjhbiaolmkaa.PWordDoes Go.Proofs.YthkmjhbiaolmkaaW.PrintWords Go.Proofs.YthkmjhbiaolmkaaW.PrintLast Go.Proofs.YthkmjhbiaolmkaaW.PrintMore

theorem wf64 {a : Int} (h : (Lit.int .i64 a).wf = true) : -9223372036854775808 ≤ a ∧ a ≤ 9223372036854775807 := by
  simpa [Lit.wf, IntKind.min, IntKind.max, IntKind.signed, IntKind.bits] using h

theorem lives_ok : logjamlaw03_lives.f 1 = some true := by kernel_rfl

theorem low_eq (a : Int) : word_Low.f a = some (wrap32 a) := by
  unfold word_Low.f wrap64 wrap32
  congr 1
  omega

def fitsB (a : Int) : Bool := decide (-2147483648 ≤ a ∧ a < 2147483648)

theorem fits_eq (a : Int) : word_Fits.f a = some (fitsB a) := by
  unfold word_Fits.f wrap64 wrap32 fitsB
  congr 1
  rw [Bool.eq_iff_iff]
  simp only [beq_iff_eq, decide_eq_true_eq]
  omega

theorem w32 (a : Int) : -2147483648 ≤ wrap32 a ∧ wrap32 a ≤ 2147483647 := by unfold wrap32; omega
theorem w32_id {a : Int} (h : -2147483648 ≤ a ∧ a ≤ 2147483647) : wrap32 a = a := by unfold wrap32; omega
theorem w64_id {a : Int} (h : -9223372036854775808 ≤ a ∧ a ≤ 9223372036854775807) : wrap64 a = a := by unfold wrap64; omega
theorem w64_w32 (a : Int) : wrap64 (wrap32 a) = wrap32 a := w64_id (by have := w32 a; omega)

/-- A number, or the fault that it is no word. -/
def ex (n : Int) : Int × Int := if fitsB n = true then (n, 0) else (0, 1)

theorem exact_eq (n : Int) : word_exact.f n = some (ex n) := by
  unfold word_exact.f ex
  rw [fits_eq, Option.bind_some]
  split <;> rfl

theorem mul_bound {x y : Int} (hx : -2147483648 ≤ x ∧ x ≤ 2147483648) (hy : -2147483648 ≤ y ∧ y ≤ 2147483648) : -4611686018427387904 ≤ x * y ∧ x * y ≤ 4611686018427387904 := by
  have h1 : (x * y).natAbs ≤ 2147483648 * 2147483648 := by
    rw [Int.natAbs_mul]
    exact Nat.mul_le_mul (by omega) (by omega)
  omega

theorem do_add (k : Nat) (a b : Int) : word_Do.f k 3 a b = some (ex (wrap32 a + wrap32 b)) := by
  have h1 := w32 a; have h2 := w32 b
  unfold word_Do.f
  rw [if_pos rfl, w64_w32, w64_w32, w64_id (by omega), exact_eq]
  rfl
theorem do_sub (k : Nat) (a b : Int) : word_Do.f k 4 a b = some (ex (wrap32 a - wrap32 b)) := by
  have h1 := w32 a; have h2 := w32 b
  unfold word_Do.f
  rw [if_neg (by decide), if_pos rfl, w64_w32, w64_w32, w64_id (by omega), exact_eq]
  rfl
theorem do_mul (k : Nat) (a b : Int) : word_Do.f k 5 a b = some (ex (wrap32 a * wrap32 b)) := by
  have h1 := w32 a; have h2 := w32 b
  have h3 := mul_bound (x := wrap32 a) (y := wrap32 b) (by omega) (by omega)
  unfold word_Do.f
  rw [if_neg (by decide), if_neg (by decide), if_pos rfl, w64_w32, w64_w32, w64_id (by omega), exact_eq]
  rfl
theorem do_neg (k : Nat) (a b : Int) : word_Do.f k 8 a b = some (ex (-wrap32 a)) := by
  have h1 := w32 a
  unfold word_Do.f
  rw [if_neg (by decide), if_neg (by decide), if_neg (by decide), if_pos rfl, w64_w32, w64_id (by omega), exact_eq]
  rfl
theorem tdiv_abs (x y : Int) : (Int.tdiv x y).natAbs ≤ x.natAbs := by
  rw [Int.natAbs_tdiv]
  exact Nat.div_le_self _ _
theorem do_div (k : Nat) (a b : Int) : word_Do.f (k + 1) 6 a b = some (if wrap32 b = 0 then (0, 2) else ex (Int.tdiv (wrap32 a) (wrap32 b))) := by
  have h1 := w32 a
  have h3 := tdiv_abs (wrap32 a) (wrap32 b)
  unfold word_Do.f
  rw [if_neg (by decide), if_neg (by decide), if_neg (by decide), if_neg (by decide), if_pos rfl]
  simp only [word_Do.j0, w64_w32]
  rw [if_pos (by decide), w64_id (by omega), exact_eq]
  split
  · rfl
  · rw [if_neg (by decide)]; rfl
theorem do_mod (k : Nat) (a b : Int) : word_Do.f (k + 1) 7 a b = some (if wrap32 b = 0 then (0, 2) else (Int.tmod (wrap32 a) (wrap32 b), 0)) := by
  unfold word_Do.f
  rw [if_neg (by decide), if_neg (by decide), if_neg (by decide), if_neg (by decide), if_neg (by decide)]
  simp only [word_Do.j0, w64_w32]
  rw [if_pos (by decide)]
  split
  · rfl
  · rw [if_pos trivial]

theorem two_pow_le {n : Nat} (h : n ≤ 31) : (2 : Int) ^ n ≤ 2147483648 := by
  have h1 : 2 ^ n ≤ 2 ^ 31 := Nat.pow_le_pow_right (by decide) h
  have h2 : (2 : Nat) ^ 31 = 2147483648 := by decide
  rw [h2] at h1
  have h3 : ((2 ^ n : Nat) : Int) = 2 ^ n := Int.natCast_pow 2 n
  omega
theorem shl_eq (x y : Int) (h0 : 0 ≤ y) (h1 : y ≤ 31) : shl .i32 x y = wrap32 (x * 2 ^ y.toNat) := by
  unfold shl
  rw [Nat.min_eq_left (by simp [IntKind.bits]; omega), IntKind.wrap_i32]
  unfold wrap32
  rfl
theorem shr_eq (x y : Int) (h0 : 0 ≤ y) (h1 : y ≤ 31) : shr .i32 x y = x / 2 ^ y.toNat := by
  unfold shr
  rw [Nat.min_eq_left (by simp [IntKind.bits]; omega)]
theorem wraps_u32 (n : Int) (h0 : 0 ≤ n) (h1 : n < 2 ^ 32) : IntKind.u32.wrap n = n := by rw [IntKind.wrap_u32]; omega
theorem mask31 (y : Int) : Go.bits .and .u32 (y % 4294967296) 31 = y % 32 := by
  have h := bits_mask .u32 32 (by decide) wraps_u32 5 (by decide) (y % 4294967296) (by omega) (by omega)
  have e : ((2 : Int) ^ 5 - 1) = 31 := by decide
  rw [e] at h
  rw [h]
  have e2 : ((2 : Int) ^ 5) = 32 := by decide
  rw [e2]
  omega
theorem w32_mod (y : Int) : wrap32 y % 32 = y % 32 := by unfold wrap32; omega
theorem do_shl (k : Nat) (a b : Int) : word_Do.f (k + 1) 14 a b = some (wrap32 (wrap32 a * 2 ^ (b % 32).toNat), 0) := by
  unfold word_Do.f
  rw [if_neg (by decide), if_neg (by decide), if_neg (by decide), if_neg (by decide), if_neg (by decide)]
  simp only [word_Do.j0, w64_w32, mask31, w32_mod]
  rw [if_neg (by decide), if_neg (by decide), if_neg (by decide), if_neg (by decide), if_neg (by decide), if_neg (by decide), if_pos trivial, if_pos (by omega), shl_eq _ _ (by omega) (by omega), w64_w32]
theorem do_shr (k : Nat) (a b : Int) : word_Do.f (k + 1) 15 a b = some (wrap32 a / 2 ^ (b % 32).toNat, 0) := by
  have h1 := w32 a
  have h2 : -2147483648 ≤ wrap32 a / 2 ^ (b % 32).toNat ∧ wrap32 a / 2 ^ (b % 32).toNat ≤ 2147483647 := by
    have hp : (0 : Int) < 2 ^ (b % 32).toNat := Int.pow_pos (by decide)
    have hp1 : (1 : Int) ≤ 2 ^ (b % 32).toNat := hp
    constructor
    · refine (Int.le_ediv_iff_mul_le hp).2 ?_
      have := Int.mul_le_mul_of_nonneg_left (c := 2147483648) hp1 (by decide)
      omega
    · refine Int.lt_add_one_iff.1 ((Int.ediv_lt_iff_lt_mul hp).2 ?_)
      have := Int.mul_le_mul_of_nonneg_left (c := 2147483648) hp1 (by decide)
      omega
  unfold word_Do.f
  rw [if_neg (by decide), if_neg (by decide), if_neg (by decide), if_neg (by decide), if_neg (by decide)]
  simp only [word_Do.j0, w64_w32, mask31, w32_mod]
  rw [if_neg (by decide), if_neg (by decide), if_neg (by decide), if_neg (by decide), if_neg (by decide), if_neg (by decide), if_neg (by decide), if_pos trivial, if_pos (by omega), shr_eq _ _ (by omega) (by omega), w64_id (by omega)]

theorem rfits_eq (a : Int) : logjamref03_Fits.f a = some (fitsB a) := by
  unfold logjamref03_Fits.f fitsB
  by_cases h : a ≥ -2147483648
  · rw [if_pos h]; congr 1; rw [Bool.eq_iff_iff]; simp only [decide_eq_true_eq]; omega
  · rw [if_neg h]; congr 1; rw [Bool.eq_iff_iff]; simp only [decide_eq_true_eq, Bool.false_eq_true, false_iff]; omega
theorem rexact_eq (n : Int) : logjamref03_exact.f n = some (ex n) := by
  unfold logjamref03_exact.f ex
  rw [rfits_eq, Option.bind_some]
  split <;> rfl
theorem rlow_eq (a : Int) : logjamref03_Low.f a = some (wrap32 a) := by
  unfold logjamref03_Low.f wrap64 wrap32
  have := Int.tmod_eq_emod (a := a) (b := 4294967296)
  split at this <;> split <;> (try split) <;> congr 1 <;> simp at * <;> omega

/-- Bit i of a word, as the reference reads it. -/
def bitI (n : Int) (i : Nat) : Int := (n % 4294967296) / 2 ^ i % 2

theorem div_pow (x : Int) (d : Nat) : x / 2 / 2 ^ d = x / 2 ^ (d + 1) := by
  rw [Int.ediv_ediv_of_nonneg (by decide), Int.pow_succ, Int.mul_comm]

theorem bit_l0 (d : Nat) : ∀ (k : Nat) (x n i : Int), 0 ≤ x → x ≤ 9223372036854775807 → 0 ≤ i → n - i = d → n ≤ 40 → d < k → logjamref03_bit.l0 k x n i = some (x / 2 ^ d % 2) := by
  induction d with
  | zero =>
    intro k x n i h0 h1 h2 h3 h4 h5
    obtain ⟨k, rfl⟩ : ∃ m, k = m + 1 := ⟨k - 1, by omega⟩
    unfold logjamref03_bit.l0
    rw [if_neg (by omega), Int.tmod_eq_emod_of_nonneg h0]
    simp
  | succ d ih =>
    intro k x n i h0 h1 h2 h3 h4 h5
    obtain ⟨k, rfl⟩ : ∃ m, k = m + 1 := ⟨k - 1, by omega⟩
    unfold logjamref03_bit.l0
    rw [if_pos (by omega), Int.tdiv_eq_ediv_of_nonneg h0, w64_id (a := x / 2) (by omega), w64_id (a := i + 1) (by omega)]
    rw [ih k (x / 2) n (i + 1) (by omega) (by omega) (by omega) (by omega) h4 (by omega), div_pow]

theorem bit_eq (k : Nat) (n : Int) (i : Nat) (hn : -2147483648 ≤ n ∧ n ≤ 2147483647) (hi : i ≤ 31) (hk : i + 1 < k) : logjamref03_bit.f k n i = some (bitI n i) := by
  obtain ⟨k, rfl⟩ : ∃ m, k = m + 1 := ⟨k - 1, by omega⟩
  unfold logjamref03_bit.f bitI
  split
  · rw [w64_id (by omega)]
    simp only [logjamref03_bit.j0]
    rw [bit_l0 i k _ i 0 (by omega) (by omega) (by omega) (by omega) (by omega) (by omega)]
    rw [show (n + 4294967296 : Int) = n % 4294967296 by omega]
  · simp only [logjamref03_bit.j0]
    rw [bit_l0 i k _ i 0 (by omega) (by omega) (by omega) (by omega) (by omega) (by omega)]
    rw [show n % 4294967296 = n by omega]

theorem bitI_01 (n : Int) (i : Nat) : bitI n i = 0 ∨ bitI n i = 1 := by unfold bitI; omega

/-- What a bit of the result is. -/
def comb (op p q : Int) : Int := if (op = 11 ∧ p + q = 2) ∨ (op = 12 ∧ p + q > 0) ∨ (op = 13 ∧ p + q = 1) then 1 else 0

set_option maxRecDepth 100000 in
theorem bits_step (k : Nat) (op a b n by_ i : Int) (hop : op = 11 ∨ op = 12 ∨ op = 13) (p q : Int) (hp : logjamref03_bit.f k a i = some p) (hq : logjamref03_bit.f k b i = some q) (p0 : p = 0 ∨ p = 1) (q0 : q = 0 ∨ q = 1) (hi : i < 32) :
    logjamref03_bits.l0 (k + 1) op a b n by_ i = logjamref03_bits.l0 k op a b (if comb op p q = 1 then wrap64 (n + by_) else n) (wrap64 (by_ * 2)) (wrap64 (i + 1)) := by
  conv => lhs; unfold logjamref03_bits.l0
  rw [if_pos hi, hp, hq]
  simp only [Option.bind_some]
  rw [w64_id (a := p + q) (by omega)]
  rcases hop with rfl | rfl | rfl <;> rcases p0 with rfl | rfl <;> rcases q0 with rfl | rfl <;> rfl

theorem bits_l0 (op a b : Int) (Z : Nat) (ha : -2147483648 ≤ a ∧ a ≤ 2147483647) (hb : -2147483648 ≤ b ∧ b ≤ 2147483647) (hop : op = 11 ∨ op = 12 ∨ op = 13)
    (hZ : ∀ i : Nat, i < 32 → ((Z / 2 ^ i % 2 : Nat) : Int) = comb op (bitI a i) (bitI b i)) (hZ2 : Z < 4294967296) (d : Nat) :
    ∀ (k i : Nat), i + d = 32 → d + 40 < k → logjamref03_bits.l0 k op a b ((Z % 2 ^ i : Nat) : Int) ((2 ^ i : Nat) : Int) i = some (wrap32 Z) := by
  induction d with
  | zero =>
    intro k i h0 h1
    obtain rfl : i = 32 := by omega
    obtain ⟨k, rfl⟩ : ∃ m, k = m + 1 := ⟨k - 1, by omega⟩
    unfold logjamref03_bits.l0
    rw [if_neg (by omega), rlow_eq, Option.bind_some]
    have e : Z % 2 ^ 32 = Z := Nat.mod_eq_of_lt (by simpa using hZ2)
    rw [e]
  | succ d ih =>
    intro k i h0 h1
    have hi32 : i < 32 := by omega
    have hi1 : i + 1 + d = 32 := by omega
    obtain ⟨k, rfl⟩ : ∃ m, k = m + 1 := ⟨k - 1, by omega⟩
    have hk1 : d + 40 < k := by omega
    rw [bits_step k op a b _ _ i hop _ _ (bit_eq k a i ha (by omega) (by omega)) (bit_eq k b i hb (by omega) (by omega)) (bitI_01 a i) (bitI_01 b i) (by omega)]
    have hp : 2 ^ i ≤ 2 ^ 31 := Nat.pow_le_pow_right (by decide) (by omega)
    have hp31 : (2 : Nat) ^ 31 = 2147483648 := by decide
    rw [hp31] at hp
    have hs := Nat.mod_pow_succ (x := Z) (b := 2) (k := i)
    have hm : Z % 2 ^ i ≤ Z := Nat.mod_le _ _
    have e1 : wrap64 (((2 ^ i : Nat) : Int) * 2) = ((2 ^ (i + 1) : Nat) : Int) := by
      rw [Nat.pow_succ, w64_id (by omega)]; omega
    have e2 : wrap64 ((i : Int) + 1) = ((i + 1 : Nat) : Int) := by rw [w64_id (by omega)]; omega
    have hz := hZ i hi32
    have wadd : wrap64 (((Z % 2 ^ i : Nat) : Int) + ((2 ^ i : Nat) : Int)) = ((Z % 2 ^ i : Nat) : Int) + ((2 ^ i : Nat) : Int) := w64_id (by clear hs hz ih hZ e1 e2; omega)
    have e3 : (if comb op (bitI a i) (bitI b i) = 1 then wrap64 (((Z % 2 ^ i : Nat) : Int) + ((2 ^ i : Nat) : Int)) else ((Z % 2 ^ i : Nat) : Int)) = ((Z % 2 ^ (i + 1) : Nat) : Int) := by
      rw [← hz, hs]
      have h01 : Z / 2 ^ i % 2 = 0 ∨ Z / 2 ^ i % 2 = 1 := Nat.mod_two_eq_zero_or_one _
      rcases h01 with h | h <;> rw [h]
      · simp
      · rw [if_pos (show ((1 : Nat) : Int) = 1 from rfl), wadd, Nat.mul_one, Int.natCast_add]
    rw [e1, e2, e3]
    exact ih k (i + 1) hi1 hk1

theorem toNat_ofInt32 (x : Int) : (((BitVec.ofInt 32 x).toNat : Nat) : Int) = x % 4294967296 := by
  rw [BitVec.toNat_ofInt]
  have e : ((2 ^ 32 : Nat) : Int) = 4294967296 := by decide
  rw [e]
  omega
theorem bitI_nat (x : Int) (i : Nat) : bitI x i = ((((BitVec.ofInt 32 x).toNat / 2 ^ i % 2 : Nat)) : Int) := by
  unfold bitI
  rw [← toNat_ofInt32]
  simp
theorem tb (x i : Nat) : x / 2 ^ i % 2 = (x.testBit i).toNat := by
  rw [Nat.testBit_eq_decide_div_mod_eq]
  have : x / 2 ^ i % 2 = 0 ∨ x / 2 ^ i % 2 = 1 := by omega
  rcases this with h | h <;> simp [h]

theorem i32w (n : Int) : IntKind.i32.wrap n = wrap32 n := by rw [IntKind.wrap_i32]; unfold wrap32; rfl

theorem wbits (op : Int) (x y : Int) (hx : -2147483648 ≤ x ∧ x ≤ 2147483647) (hy : -2147483648 ≤ y ∧ y ≤ 2147483647) (hop : op = 11 ∨ op = 12 ∨ op = 13) (Z : BitVec 32)
    (hZ : ∀ i : Nat, Z.toNat.testBit i = if op = 11 then (BitVec.ofInt 32 x).toNat.testBit i && (BitVec.ofInt 32 y).toNat.testBit i else if op = 12 then (BitVec.ofInt 32 x).toNat.testBit i || (BitVec.ofInt 32 y).toNat.testBit i else ((BitVec.ofInt 32 x).toNat.testBit i ^^ (BitVec.ofInt 32 y).toNat.testBit i)) :
    logjamref03_bits.f 100 op x y = some (wrap32 Z.toNat) := by
  unfold logjamref03_bits.f
  have h := bits_l0 op x y Z.toNat hx hy hop (fun i _ => by
    rw [bitI_nat, bitI_nat, tb, tb, tb, hZ i]
    cases (BitVec.ofInt 32 x).toNat.testBit i <;> cases (BitVec.ofInt 32 y).toNat.testBit i <;> rcases hop with rfl | rfl | rfl <;> rfl) (by have := Z.isLt; simpa using this) 32 100 0 (by omega) (by omega)
  simpa [Nat.mod_one] using h

theorem shift_l0 (op : Int) (x : Int) (hx : -2147483648 ≤ x ∧ x ≤ 2147483647) (hop : op = 14 ∨ op = 15) (d : Nat) :
    ∀ (k : Nat) (y n i : Int), 0 ≤ i → n - i = d → n ≤ 31 → d < k → y = (if op = 14 then wrap32 (x * 2 ^ i.toNat) else x / 2 ^ i.toNat) → logjamref03_shift.l0 k op y n i = some (if op = 14 then wrap32 (x * 2 ^ n.toNat) else x / 2 ^ n.toNat) := by
  induction d with
  | zero =>
    intro k y n i h0 h1 h2 h3 h4
    obtain rfl : i = n := by omega
    obtain ⟨k, rfl⟩ : ∃ m, k = m + 1 := ⟨k - 1, by omega⟩
    unfold logjamref03_shift.l0
    rw [if_neg (by omega), h4]
  | succ d ih =>
    intro k y n i h0 h1 h2 h3 h4
    obtain ⟨k, rfl⟩ : ∃ m, k = m + 1 := ⟨k - 1, by omega⟩
    have e : (i + 1).toNat = i.toNat + 1 := by omega
    unfold logjamref03_shift.l0
    rw [if_pos (by omega), w64_id (a := i + 1) (by omega)]
    rcases hop with rfl | rfl
    · rw [if_pos rfl] at h4
      have hy := w32 (x * 2 ^ i.toNat)
      rw [← h4] at hy
      rw [if_pos rfl, w64_id (a := 2 * y) (by omega), rlow_eq, Option.bind_some]
      refine ih k _ n (i + 1) (by omega) (by omega) h2 (by omega) ?_
      rw [if_pos rfl, h4, e, Int.pow_succ, ← Int.mul_assoc]
      generalize x * 2 ^ i.toNat = z
      unfold wrap32
      omega
    · rw [if_neg (by decide)] at h4
      have hy : -2147483648 ≤ y ∧ y ≤ 2147483647 := by
        have hp : (0 : Int) < 2 ^ i.toNat := Int.pow_pos (by decide)
        have hp1 : (1 : Int) ≤ 2 ^ i.toNat := hp
        have h5 := Int.mul_le_mul_of_nonneg_left (c := 2147483648) hp1 (by decide)
        rw [h4]
        constructor
        · exact (Int.le_ediv_iff_mul_le hp).2 (by omega)
        · exact Int.lt_add_one_iff.1 ((Int.ediv_lt_iff_lt_mul hp).2 (by omega))
      have e2 : y / 2 = x / 2 ^ (i + 1).toNat := by
        rw [h4, e, Int.pow_succ, Int.ediv_ediv_of_nonneg (Int.le_of_lt (Int.pow_pos (by decide)))]
      rw [if_neg (by decide)]
      split
      · rename_i hneg
        rw [w64_id (a := y - 1) (by omega)]
        have e3 : Int.tdiv (y - 1) 2 = y / 2 := by
          have h6 : Int.tdiv (y - 1) 2 = -(Int.tdiv (-(y - 1)) 2) := by rw [Int.neg_tdiv]; omega
          rw [h6, Int.tdiv_eq_ediv_of_nonneg (by omega)]
          omega
        rw [e3, w64_id (a := y / 2) (by omega)]
        exact ih k _ n (i + 1) (by omega) (by omega) h2 (by omega) (by rw [if_neg (by decide)]; exact e2)
      · rw [Int.tdiv_eq_ediv_of_nonneg (by omega), w64_id (a := y / 2) (by omega)]
        exact ih k _ n (i + 1) (by omega) (by omega) h2 (by omega) (by rw [if_neg (by decide)]; exact e2)

theorem rshift (op x b : Int) (hx : -2147483648 ≤ x ∧ x ≤ 2147483647) (hb : -2147483648 ≤ b ∧ b ≤ 2147483647) (hop : op = 14 ∨ op = 15) :
    logjamref03_shift.f 100 op x b = some (if op = 14 then wrap32 (x * 2 ^ (b % 32).toNat) else x / 2 ^ (b % 32).toNat) := by
  have J : ∀ n : Int, n = b % 32 → logjamref03_shift.j0 100 op x n = some (if op = 14 then wrap32 (x * 2 ^ (b % 32).toNat) else x / 2 ^ (b % 32).toNat) := by
    intro n hn
    rw [show (100 : Nat) = 99 + 1 from rfl]
    simp only [logjamref03_shift.j0]
    rw [← hn]
    refine shift_l0 op x hx hop n.toNat 99 x n 0 (by omega) (by omega) (by omega) (by omega) ?_
    rcases hop with rfl | rfl
    · rw [if_pos rfl]; simp [w32_id hx]
    · rw [if_neg (by decide)]; simp
  unfold logjamref03_shift.f
  have ht : Int.tmod b 32 = if 0 ≤ b then b % 32 else -((-b) % 32) := by
    split
    · exact Int.tmod_eq_emod_of_nonneg (by omega)
    · have h2 : Int.tmod b 32 = -(Int.tmod (-b) 32) := by rw [Int.neg_tmod]; omega
      rw [h2, Int.tmod_eq_emod_of_nonneg (by omega)]
  split
  · rw [w64_id (by omega)]
    exact J _ (by split at ht <;> omega)
  · exact J _ (by split at ht <;> omega)

/-- What both come to. -/
def doS (op x y : Int) : Int × Int :=
  if op = 3 then ex (x + y) else if op = 4 then ex (x - y) else if op = 5 then ex (x * y)
  else if op = 6 then (if y = 0 then (0, 2) else ex (Int.tdiv x y)) else if op = 7 then (if y = 0 then (0, 2) else (Int.tmod x y, 0))
  else if op = 8 then ex (-x) else if op = 9 then (if x < y then (1, 0) else (0, 0)) else if op = 10 then (if x = y then (1, 0) else (0, 0))
  else if op = 11 then (wrap32 (BitVec.ofInt 32 x &&& BitVec.ofInt 32 y).toNat, 0) else if op = 12 then (wrap32 (BitVec.ofInt 32 x ||| BitVec.ofInt 32 y).toNat, 0)
  else if op = 13 then (wrap32 (BitVec.ofInt 32 x ^^^ BitVec.ofInt 32 y).toNat, 0)
  else if op = 14 then (wrap32 (x * 2 ^ (y % 32).toNat), 0) else if op = 15 then (x / 2 ^ (y % 32).toNat, 0) else (0, 0)

theorem bits_def (o : BinOp) (x y : Int) : Go.bits o .i32 x y = wrap32 (((match o with
    | .and => BitVec.ofInt 32 x &&& BitVec.ofInt 32 y
    | .or => BitVec.ofInt 32 x ||| BitVec.ofInt 32 y
    | .xor => BitVec.ofInt 32 x ^^^ BitVec.ofInt 32 y
    | _ => BitVec.ofInt 32 x &&& ~~~BitVec.ofInt 32 y)).toNat : Int) := by
  unfold Go.bits
  rw [i32w]
  rfl

theorem flag_eq (b : Bool) : word_flag.f b = some (if b = true then 1 else 0) := by
  unfold word_flag.f; cases b <;> rfl

theorem do_word (op a b : Int) : word_Do.f 200 op a b = some (doS op (wrap32 a) (wrap32 b)) := by
  rw [show (200 : Nat) = 199 + 1 from rfl]
  unfold doS
  by_cases h3 : op = 3
  · rw [h3, if_pos rfl]; exact do_add _ a b
  rw [if_neg h3]
  by_cases h4 : op = 4
  · rw [h4, if_pos rfl]; exact do_sub _ a b
  rw [if_neg h4]
  by_cases h5 : op = 5
  · rw [h5, if_pos rfl]; exact do_mul _ a b
  rw [if_neg h5]
  by_cases h6 : op = 6
  · rw [h6, if_pos rfl]; exact do_div _ a b
  rw [if_neg h6]
  by_cases h7 : op = 7
  · rw [h7, if_pos rfl]; exact do_mod _ a b
  rw [if_neg h7]
  by_cases h8 : op = 8
  · rw [h8, if_pos rfl]; exact do_neg _ a b
  rw [if_neg h8]
  by_cases h14 : op = 14
  · rw [h14, do_shl, if_neg (by decide), if_neg (by decide), if_neg (by decide), if_neg (by decide), if_neg (by decide), if_pos rfl, w32_mod]
  by_cases h15 : op = 15
  · rw [h15, do_shr, if_neg (by decide), if_neg (by decide), if_neg (by decide), if_neg (by decide), if_neg (by decide), if_neg (by decide), if_pos rfl, w32_mod]
  unfold word_Do.f
  rw [if_neg h3, if_neg h4, if_neg h5, if_neg h8, if_neg h6]
  simp only [word_Do.j0]
  have hb7 : (op == 7) = false := by simpa using h7
  simp only [hb7, Bool.false_eq_true, if_false, w64_w32, h14, h15]
  by_cases h9 : op = 9
  · rw [h9, if_pos rfl, if_pos rfl, flag_eq, Option.bind_some]
    by_cases hc : wrap32 a < wrap32 b
    · simp [hc]
    · simp [hc]
  rw [if_neg h9, if_neg h9]
  by_cases h10 : op = 10
  · rw [h10, if_pos rfl, if_pos rfl, flag_eq, Option.bind_some]
    by_cases hc : wrap32 a = wrap32 b
    · simp [hc]
    · simp [hc]
  rw [if_neg h10, if_neg h10]
  by_cases h11 : op = 11
  · rw [h11, if_pos rfl, if_pos rfl, bits_def, w64_w32]
  rw [if_neg h11, if_neg h11]
  by_cases h12 : op = 12
  · rw [h12, if_pos rfl, if_pos rfl, bits_def, w64_w32]
  rw [if_neg h12, if_neg h12]
  by_cases h13 : op = 13
  · rw [h13, if_pos rfl, if_pos rfl, bits_def, w64_w32]
  rw [if_neg h13, if_neg h13]

theorem do_ref (op a b : Int) : logjamref03_Do.f 102 op a b = some (doS op (wrap32 a) (wrap32 b)) := by
  unfold logjamref03_Do.f doS
  rw [rlow_eq, rlow_eq, Option.bind_some, Option.bind_some]
  have hx := w32 a
  have hy := w32 b
  generalize wrap32 a = x at *
  generalize wrap32 b = y at *
  by_cases h3 : op = 3
  · rw [if_pos h3, if_pos h3, w64_id (by omega), rexact_eq]; rfl
  rw [if_neg h3, if_neg h3]
  by_cases h4 : op = 4
  · rw [if_pos h4, if_pos h4, w64_id (by omega), rexact_eq]; rfl
  rw [if_neg h4, if_neg h4]
  by_cases h5 : op = 5
  · have h := mul_bound (x := x) (y := y) (by omega) (by omega)
    rw [if_pos h5, if_pos h5, w64_id (by omega), rexact_eq]; rfl
  rw [if_neg h5, if_neg h5]
  have hd := tdiv_abs x y
  by_cases h6 : op = 6
  · rw [if_pos h6, if_pos h6]
    rw [show (102 : Nat) = 101 + 1 from rfl]
    simp only [logjamref03_Do.j0]
    rw [if_pos (by simpa using h6)]
    split
    · rfl
    · rw [if_neg (by omega), w64_id (by omega), rexact_eq]; rfl
  rw [if_neg h6, if_neg h6]
  rw [show (102 : Nat) = 101 + 1 from rfl]
  simp only [logjamref03_Do.j0]
  by_cases h7 : op = 7
  · rw [if_pos (by simpa using h7), if_pos h7]
    split
    · rfl
    · rename_i hy0
      have h1 := Int.mul_tdiv_add_tmod x y
      have h2 : (Int.tmod x y).natAbs ≤ x.natAbs := by rw [Int.natAbs_tmod]; exact Nat.mod_le _ _
      rw [Int.mul_comm] at h1
      have e : Int.tdiv x y * y = x - Int.tmod x y := by omega
      rw [w64_id (a := Int.tdiv x y) (by omega), e, w64_id (a := x - Int.tmod x y) (by omega), w64_id (by omega)]
      congr 2
      omega
  rw [if_neg (by simpa using h7), if_neg h7]
  by_cases h8 : op = 8
  · rw [if_pos h8, if_pos h8, w64_id (by omega), rexact_eq]; rfl
  rw [if_neg h8, if_neg h8]
  by_cases h9 : op = 9
  · rw [if_pos h9, if_pos h9]; split <;> rfl
  rw [if_neg h9, if_neg h9]
  by_cases h10 : op = 10
  · rw [if_pos h10, if_pos h10]; split <;> rfl
  rw [if_neg h10, if_neg h10]
  rw [show (101 : Nat) = 100 + 1 from rfl]
  by_cases h11 : op = 11
  · rw [if_pos h11, if_pos h11]
    simp only [logjamref03_Do.j1]
    rw [if_pos (by simpa using h11), wbits op x y hx hy (.inl h11) (BitVec.ofInt 32 x &&& BitVec.ofInt 32 y) (fun i => by rw [if_pos h11, BitVec.toNat_and, Nat.testBit_and]), Option.bind_some]
  rw [if_neg h11, if_neg h11]
  by_cases h12 : op = 12
  · rw [if_pos h12, if_pos h12]
    simp only [logjamref03_Do.j1]
    rw [if_pos (by simpa using h12), wbits op x y hx hy (.inr (.inl h12)) (BitVec.ofInt 32 x ||| BitVec.ofInt 32 y) (fun i => by rw [if_neg h11, if_pos h12, BitVec.toNat_or, Nat.testBit_or]), Option.bind_some]
  rw [if_neg h12, if_neg h12]
  simp only [logjamref03_Do.j1]
  by_cases h13 : op = 13
  · rw [if_pos h13, if_pos (by simpa using h13), wbits op x y hx hy (.inr (.inr h13)) (BitVec.ofInt 32 x ^^^ BitVec.ofInt 32 y) (fun i => by rw [if_neg h11, if_neg h12, BitVec.toNat_xor, Nat.testBit_xor]), Option.bind_some]
  rw [if_neg h13, if_neg (by simpa using h13)]
  by_cases h14 : op = 14
  · rw [if_pos h14, if_pos h14, rshift op x y hx hy (.inl h14), if_pos h14, Option.bind_some]
  rw [if_neg h14, if_neg h14]
  by_cases h15 : op = 15
  · rw [if_pos h15, if_pos h15, rshift op x y hx hy (.inr h15), if_neg h14, Option.bind_some]
  rw [if_neg h15, if_neg h15]

theorem doS_fits (op x y : Int) (hx : -2147483648 ≤ x ∧ x ≤ 2147483647) : fitsB (doS op x y).1 = true := by
  have he : ∀ n, fitsB (ex n).1 = true := by
    intro n
    unfold ex
    split
    · assumption
    · rfl
  have hw : ∀ n, fitsB (wrap32 n) = true := fun n => by have := w32 n; simp [fitsB]; omega
  have h2 : (Int.tmod x y).natAbs ≤ x.natAbs := by rw [Int.natAbs_tmod]; exact Nat.mod_le _ _
  have hp : (0 : Int) < 2 ^ (y % 32).toNat := Int.pow_pos (by decide)
  have hp1 : (1 : Int) ≤ 2 ^ (y % 32).toNat := hp
  have h5 := Int.mul_le_mul_of_nonneg_left (c := 2147483648) hp1 (by decide)
  have h6 : -2147483648 ≤ x / 2 ^ (y % 32).toNat := (Int.le_ediv_iff_mul_le hp).2 (by omega)
  have h7 : x / 2 ^ (y % 32).toNat < 2147483648 := (Int.ediv_lt_iff_lt_mul hp).2 (by omega)
  unfold doS
  by_cases c3 : op = 3
  · rw [if_pos c3]
    exact he _
  rw [if_neg c3]
  by_cases c4 : op = 4
  · rw [if_pos c4]
    exact he _
  rw [if_neg c4]
  by_cases c5 : op = 5
  · rw [if_pos c5]
    exact he _
  rw [if_neg c5]
  by_cases c6 : op = 6
  · rw [if_pos c6]
    by_cases hy0 : y = 0
    · rw [if_pos hy0]; rfl
    · rw [if_neg hy0]; exact he _
  rw [if_neg c6]
  by_cases c7 : op = 7
  · rw [if_pos c7]
    by_cases hy0 : y = 0
    · rw [if_pos hy0]; rfl
    · rw [if_neg hy0]
      have h8 : 0 ≤ x → 0 ≤ Int.tmod x y := fun hx0 => by rw [Int.tmod_eq_emod_of_nonneg hx0]; exact Int.emod_nonneg _ hy0
      have h9 : x ≤ 0 → Int.tmod x y ≤ 0 := fun hx0 => by
        have h2 : Int.tmod x y = -(Int.tmod (-x) y) := by rw [Int.neg_tmod]; omega
        rw [h2, Int.tmod_eq_emod_of_nonneg (by omega)]
        have := Int.emod_nonneg (-x) hy0
        omega
      unfold fitsB
      rw [decide_eq_true_eq]
      show -2147483648 ≤ Int.tmod x y ∧ Int.tmod x y < 2147483648
      rcases Int.le_total 0 x with hx0 | hx0
      · have := h8 hx0; omega
      · have := h9 hx0; omega
  rw [if_neg c7]
  by_cases c8 : op = 8
  · rw [if_pos c8]
    exact he _
  rw [if_neg c8]
  by_cases c9 : op = 9
  · rw [if_pos c9]
    by_cases hc : x < y
    · rw [if_pos hc]; rfl
    · rw [if_neg hc]; rfl
  rw [if_neg c9]
  by_cases c10 : op = 10
  · rw [if_pos c10]
    by_cases hc : x = y
    · rw [if_pos hc]; rfl
    · rw [if_neg hc]; rfl
  rw [if_neg c10]
  by_cases c11 : op = 11
  · rw [if_pos c11]
    exact hw _
  rw [if_neg c11]
  by_cases c12 : op = 12
  · rw [if_pos c12]
    exact hw _
  rw [if_neg c12]
  by_cases c13 : op = 13
  · rw [if_pos c13]
    exact hw _
  rw [if_neg c13]
  by_cases c14 : op = 14
  · rw [if_pos c14]
    exact hw _
  rw [if_neg c14]
  by_cases c15 : op = 15
  · rw [if_pos c15]
    unfold fitsB
    rw [decide_eq_true_eq]
    exact ⟨h6, h7⟩
  rw [if_neg c15]
  rfl

theorem WordDoes : logjamlaw03_WordDoes.Pure := by
  intro op a b _ _ _
  refine ⟨200, ?_⟩
  unfold logjamlaw03_WordDoes.f
  rw [do_word, Option.bind_some, at_rounds (logjamref03_Do.mono op a b) (by omega : 102 ≤ 200) (do_ref op a b), Option.bind_some, if_pos rfl, if_pos rfl, rfits_eq, Option.bind_some, doS_fits op _ _ (w32 a), if_pos rfl, at_rounds logjamlaw03_lives.mono (by omega : 1 ≤ 200) lives_ok, Option.bind_some]

end Go.Proofs.Ythkmjhbiaolmkaa.Pure
