/- Words: what the program makes of two is what the document makes of them. -/
import Derived.Test.YtcnfbifekdmacaaE15A
namespace LJ
open Go Go.RowKit
set_option linter.unusedVariables false
set_option linter.unusedSimpArgs false

theorem lowW_rng (a : Int) : -2147483648 ≤ lowW a ∧ lowW a ≤ 2147483647 := by unfold lowW; omega
theorem lowW_id {a : Int} (h : -2147483648 ≤ a ∧ a ≤ 2147483647) : lowW a = a := by unfold lowW; omega
theorem i32_low (a : Int) : IntKind.i32.wrap a = lowW a := by rw [IntKind.wrap_i32]; unfold lowW; omega
theorem i64_low (a : Int) : IntKind.i64.wrap (lowW a) = lowW a := w64 (by have := lowW_rng a; omega)
theorem exact_same (z : Int) : word_exact z = ref03_exact z := by
  unfold word_exact ref03_exact word_Fits ref03_Fits
  rw [bind_some', bind_some']
  congr 2
  rw [i32_low, i64_low, Bool.eq_iff_iff, iEq_iff, Bool.and_eq_true, iLe_iff, iLt_iff]
  unfold lowW
  omega
/-! ### Bit by bit -/
def bitI (n : Int) (i : Nat) : Int := (n % 4294967296) / 2 ^ i % 2
theorem div_pow (x : Int) (d : Nat) : x / 2 / 2 ^ d = x / 2 ^ (d + 1) := by
  rw [Int.ediv_ediv_of_nonneg (by decide), Int.pow_succ, Int.mul_comm]
theorem bit_l3 (n : Nat) (hn : n ≤ 40) : ∀ (d i f : Nat) (x : Int), i + d = n → d < f → 0 ≤ x → x ≤ 9223372036854775807 → ref03_bit_l3 (n : Int) f (x, (i : Int)) = some (x / 2 ^ d % 2)
  | d, i, 0, x, hi, hf, h0, h1 => by omega
  | 0, i, f + 1, x, hi, hf, h0, h1 => by
    rw [ref03_bit_l3]
    dsimp only
    rw [iLt_f (by omega), cond_false, Int.tmod_eq_emod_of_nonneg h0, Int.pow_zero, Int.ediv_one]
  | d + 1, i, f + 1, x, hi, hf, h0, h1 => by
    rw [ref03_bit_l3]
    dsimp only
    rw [iLt_t (by omega), cond_true, Int.tdiv_eq_ediv_of_nonneg h0, w64 (a := x / 2) (by omega), w64 (by omega), show (i : Int) + 1 = ((i + 1 : Nat) : Int) by omega, bit_l3 n hn d (i + 1) f (x / 2) (by omega) (by omega) (by omega) (by omega), div_pow]
theorem bit_l6 (n : Nat) (hn : n ≤ 40) : ∀ (d i f : Nat) (x : Int), i + d = n → d < f → 0 ≤ x → x ≤ 9223372036854775807 → ref03_bit_l6 (n : Int) f (x, (i : Int)) = some (x / 2 ^ d % 2)
  | d, i, 0, x, hi, hf, h0, h1 => by omega
  | 0, i, f + 1, x, hi, hf, h0, h1 => by
    rw [ref03_bit_l6]
    dsimp only
    rw [iLt_f (by omega), cond_false, Int.tmod_eq_emod_of_nonneg h0, Int.pow_zero, Int.ediv_one]
  | d + 1, i, f + 1, x, hi, hf, h0, h1 => by
    rw [ref03_bit_l6]
    dsimp only
    rw [iLt_t (by omega), cond_true, Int.tdiv_eq_ediv_of_nonneg h0, w64 (a := x / 2) (by omega), w64 (by omega), show (i : Int) + 1 = ((i + 1 : Nat) : Int) by omega, bit_l6 n hn d (i + 1) f (x / 2) (by omega) (by omega) (by omega) (by omega), div_pow]
theorem bit_ref {x : Int} (hx : -2147483648 ≤ x ∧ x ≤ 2147483647) {i : Nat} (hi : i ≤ 31) : ref03_bit x (i : Int) = some (bitI x i) := by
  unfold ref03_bit bitI
  by_cases h : x < 0
  · rw [iLt_t h, cond_true, w64 (by omega), show (0 : Int) = ((0 : Nat) : Int) from rfl, bit_l3 i (by omega) i 0 fuel _ (by omega) (by have := fuel_big; omega) (by omega) (by omega), show x + 4294967296 = x % 4294967296 by omega]
  · rw [iLt_f (by omega), cond_false, show (0 : Int) = ((0 : Nat) : Int) from rfl, bit_l6 i (by omega) i 0 fuel _ (by omega) (by have := fuel_big; omega) (by omega) (by omega), show x % 4294967296 = x by omega]
theorem bitI_01 (n : Int) (i : Nat) : bitI n i = 0 ∨ bitI n i = 1 := by unfold bitI; omega
def combB (op p q : Int) : Bool := ((iEq op 11 && iEq (p + q) 2) || (iEq op 12 && iLt 0 (p + q))) || (iEq op 13 && iEq (p + q) 1)
theorem bits_l2_ref (op a b : Int) (Z : Nat) (ha : -2147483648 ≤ a ∧ a ≤ 2147483647) (hb : -2147483648 ≤ b ∧ b ≤ 2147483647) (hZ : ∀ i : Nat, i < 32 → Z / 2 ^ i % 2 = cond (combB op (bitI a i) (bitI b i)) 1 0) (hZ2 : Z < 4294967296) : ∀ (d i f : Nat), i + d = 32 → d < f → ref03_bits_l2 op a b f (((Z % 2 ^ i : Nat) : Int), ((2 ^ i : Nat) : Int), (i : Int)) = some (lowW Z)
  | d, i, 0, hi, hf => by omega
  | 0, i, f + 1, hi, hf => by
    rw [ref03_bits_l2]
    dsimp only
    rw [iLt_f (by omega), cond_false, ref03_Low_eq, bind_some', show i = 32 by omega, Nat.mod_eq_of_lt (by simpa using hZ2)]
  | d + 1, i, f + 1, hi, hf => by
    have hp : 2 ^ i ≤ 2 ^ 31 := Nat.pow_le_pow_right (by decide) (by omega)
    have hp31 : (2 : Nat) ^ 31 = 2147483648 := by decide
    rw [hp31] at hp
    have hs := Nat.mod_pow_succ (x := Z) (b := 2) (k := i)
    have hm : Z % 2 ^ i ≤ Z := Nat.mod_le _ _
    have h1 := bitI_01 a i
    have h2 := bitI_01 b i
    have hz := hZ i (by omega)
    have ih := bits_l2_ref op a b Z ha hb hZ hZ2 d (i + 1) f (by omega) (by omega)
    rw [ref03_bits_l2]
    dsimp only
    rw [iLt_t (by omega), cond_true, bit_ref ha (by omega), bind_some', bit_ref hb (by omega), bind_some', w64 (a := bitI a i + bitI b i) (by omega), w64 (a := ((2 ^ i : Nat) : Int) * 2) (by omega), w64 (a := (i : Int) + 1) (by omega)]
    rw [show ((2 ^ i : Nat) : Int) * 2 = ((2 ^ (i + 1) : Nat) : Int) by rw [Nat.pow_succ]; omega, show (i : Int) + 1 = ((i + 1 : Nat) : Int) by omega]
    rw [show (((iEq op 11 && iEq (bitI a i + bitI b i) 2) || (iEq op 12 && iLt 0 (bitI a i + bitI b i))) || (iEq op 13 && iEq (bitI a i + bitI b i) 1)) = combB op (bitI a i) (bitI b i) from rfl]
    cases hcb : combB op (bitI a i) (bitI b i) with
    | true =>
      rw [hcb, cond_true] at hz
      have e : Z % 2 ^ (i + 1) = Z % 2 ^ i + 2 ^ i := by rw [hs, hz, Nat.mul_one]
      rw [cond_true, w64 (by clear hs ih hZ hz; omega), show ((Z % 2 ^ i : Nat) : Int) + ((2 ^ i : Nat) : Int) = ((Z % 2 ^ (i + 1) : Nat) : Int) by rw [e, Int.natCast_add]]
      exact ih
    | false =>
      rw [hcb, cond_false] at hz
      have e : Z % 2 ^ (i + 1) = Z % 2 ^ i := by rw [hs, hz, Nat.mul_zero, Nat.add_zero]
      rw [cond_false, ← e]
      exact ih
theorem toNat_ofInt32 (x : Int) : (((BitVec.ofInt 32 x).toNat : Nat) : Int) = x % 4294967296 := by
  rw [BitVec.toNat_ofInt]
  have e : ((2 ^ 32 : Nat) : Int) = 4294967296 := by decide
  rw [e]
  omega
theorem bitI_nat (x : Int) (i : Nat) : bitI x i = ((((BitVec.ofInt 32 x).toNat / 2 ^ i % 2 : Nat)) : Int) := by
  unfold bitI
  rw [← toNat_ofInt32]
  simp
theorem tbit (x i : Nat) : x / 2 ^ i % 2 = (x.testBit i).toNat := by
  rw [Nat.testBit_eq_decide_div_mod_eq]
  have : x / 2 ^ i % 2 = 0 ∨ x / 2 ^ i % 2 = 1 := by omega
  rcases this with h | h <;> simp [h]
theorem bits_ref (op x y : Int) (hx : -2147483648 ≤ x ∧ x ≤ 2147483647) (hy : -2147483648 ≤ y ∧ y ≤ 2147483647) (Z : BitVec 32)
    (hZ : ∀ i : Nat, ((Z.toNat.testBit i).toNat = cond (combB op (((BitVec.ofInt 32 x).toNat.testBit i).toNat : Int) (((BitVec.ofInt 32 y).toNat.testBit i).toNat : Int)) 1 0)) : ref03_bits op x y = some (lowW Z.toNat) := by
  unfold ref03_bits
  have h := bits_l2_ref op x y Z.toNat hx hy (fun i _ => by rw [bitI_nat, bitI_nat, tbit, tbit, tbit, hZ i]) (by have := Z.isLt; simpa using this) 32 0 fuel rfl (by have := fuel_big; omega)
  simpa [Nat.mod_one] using h
theorem bits_def (o : BinOp) (x y : Int) : Go.bits o .i32 x y = lowW (((match o with
    | .and => BitVec.ofInt 32 x &&& BitVec.ofInt 32 y
    | .or => BitVec.ofInt 32 x ||| BitVec.ofInt 32 y
    | .xor => BitVec.ofInt 32 x ^^^ BitVec.ofInt 32 y
    | _ => BitVec.ofInt 32 x &&& ~~~BitVec.ofInt 32 y)).toNat : Int) := by
  unfold Go.bits
  rw [i32_low]
  rfl
/-! ### Moved -/
theorem wraps_u32 (n : Int) (h0 : 0 ≤ n) (h1 : n < 2 ^ 32) : IntKind.u32.wrap n = n := by rw [IntKind.wrap_u32]; omega
theorem mask31 (y : Int) : Go.bits .and .u32 (y % 4294967296) 31 = y % 32 := by
  have h := bits_mask .u32 32 (by decide) wraps_u32 5 (by decide) (y % 4294967296) (by omega) (by omega)
  have e : ((2 : Int) ^ 5 - 1) = 31 := by decide
  rw [e] at h
  rw [h]
  have e2 : ((2 : Int) ^ 5) = 32 := by decide
  rw [e2]
  omega
def shW (op x : Int) (n : Nat) : Int := cond (iEq op 14) (lowW (x * 2 ^ n)) (x / 2 ^ n)
theorem shW_step {op x : Int} (hx : -2147483648 ≤ x ∧ x ≤ 2147483647) (hop : op = 14 ∨ op = 15) (i : Nat) {K : Int → Option Int} : (cond (iEq op 14) ((ref03_Low (IntKind.i64.wrap ((2 : Int) * shW op x i))).bind fun (x6 : Int) => K x6) (cond (iLt (shW op x i) 0) (K (IntKind.i64.wrap (Int.tdiv (IntKind.i64.wrap (shW op x i - 1)) 2))) (K (IntKind.i64.wrap (Int.tdiv (shW op x i) 2))))) = K (shW op x (i + 1)) := by
  rcases hop with rfl | rfl
  · have e : ∀ n, shW 14 x n = lowW (x * 2 ^ n) := fun n => rfl
    have hy := lowW_rng (x * 2 ^ i)
    rw [iEq_t rfl, cond_true, e, e, w64 (by omega), ref03_Low_eq, bind_some', Int.pow_succ, ← Int.mul_assoc]
    congr 1
    generalize x * 2 ^ i = z
    unfold lowW
    omega
  · have e : ∀ n, shW 15 x n = x / 2 ^ n := fun n => rfl
    have hy : -2147483648 ≤ x / 2 ^ i ∧ x / 2 ^ i ≤ 2147483647 := by
      have hp : (0 : Int) < 2 ^ i := Int.pow_pos (by decide)
      have hp1 : (1 : Int) ≤ 2 ^ i := hp
      have h5 := Int.mul_le_mul_of_nonneg_left (c := 2147483648) hp1 (by decide)
      constructor
      · exact (Int.le_ediv_iff_mul_le hp).2 (by omega)
      · exact Int.lt_add_one_iff.1 ((Int.ediv_lt_iff_lt_mul hp).2 (by omega))
    have e2 : x / 2 ^ i / 2 = x / 2 ^ (i + 1) := by
      rw [Int.pow_succ, Int.ediv_ediv_of_nonneg (Int.le_of_lt (Int.pow_pos (by decide)))]
    rw [iEq_f (by decide), cond_false, e, e, ← e2]
    generalize x / 2 ^ i = y at hy
    by_cases h : y < 0
    · have e3 : Int.tdiv (y - 1) 2 = y / 2 := by
        have h6 : Int.tdiv (y - 1) 2 = -(Int.tdiv (-(y - 1)) 2) := by rw [Int.neg_tdiv]; omega
        rw [h6, Int.tdiv_eq_ediv_of_nonneg (by omega)]
        omega
      rw [iLt_t h, cond_true, w64 (a := y - 1) (by omega), e3, w64 (by omega)]
    · rw [iLt_f (by omega), cond_false, Int.tdiv_eq_ediv_of_nonneg (by omega), w64 (by omega)]
theorem shift_l3 {op x : Int} (hx : -2147483648 ≤ x ∧ x ≤ 2147483647) (hop : op = 14 ∨ op = 15) (b : Int) (n : Nat) (hn : n ≤ 31) (hb : Int.tmod b 32 + 32 = (n : Int)) : ∀ (d i f : Nat), i + d = n → d < f → ref03_shift_l3 op b f (shW op x i, (i : Int)) = some (shW op x n)
  | d, i, 0, hi, hf => by omega
  | 0, i, f + 1, hi, hf => by
    rw [ref03_shift_l3]
    dsimp only
    rw [w64 (a := Int.tmod b 32 + 32) (by omega), hb, iLt_f (by omega), cond_false, show i = n by omega]
  | d + 1, i, f + 1, hi, hf => by
    rw [ref03_shift_l3]
    dsimp only
    rw [w64 (a := Int.tmod b 32 + 32) (by omega), hb, iLt_t (by omega), cond_true, w64 (a := (i : Int) + 1) (by omega), show (i : Int) + 1 = ((i + 1 : Nat) : Int) by omega]
    rw [shW_step hx hop i (K := fun z => ref03_shift_l3 op b f (z, ((i + 1 : Nat) : Int)))]
    exact shift_l3 hx hop b n hn hb d (i + 1) f (by omega) (by omega)
theorem shift_l9 {op x : Int} (hx : -2147483648 ≤ x ∧ x ≤ 2147483647) (hop : op = 14 ∨ op = 15) (b : Int) (n : Nat) (hn : n ≤ 31) (hb : Int.tmod b 32 = (n : Int)) : ∀ (d i f : Nat), i + d = n → d < f → ref03_shift_l9 op b f (shW op x i, (i : Int)) = some (shW op x n)
  | d, i, 0, hi, hf => by omega
  | 0, i, f + 1, hi, hf => by
    rw [ref03_shift_l9]
    dsimp only
    rw [hb, iLt_f (by omega), cond_false, show i = n by omega]
  | d + 1, i, f + 1, hi, hf => by
    rw [ref03_shift_l9]
    dsimp only
    rw [hb, iLt_t (by omega), cond_true, w64 (a := (i : Int) + 1) (by omega), show (i : Int) + 1 = ((i + 1 : Nat) : Int) by omega]
    rw [shW_step hx hop i (K := fun z => ref03_shift_l9 op b f (z, ((i + 1 : Nat) : Int)))]
    exact shift_l9 hx hop b n hn hb d (i + 1) f (by omega) (by omega)
theorem tmod32 (b : Int) : Int.tmod b 32 = if 0 ≤ b then b % 32 else -((-b) % 32) := by
  split
  · exact Int.tmod_eq_emod_of_nonneg (by omega)
  · have h2 : Int.tmod b 32 = -(Int.tmod (-b) 32) := by rw [Int.neg_tmod]; omega
    rw [h2, Int.tmod_eq_emod_of_nonneg (by omega)]
theorem shift_ref {op x : Int} (hx : -2147483648 ≤ x ∧ x ≤ 2147483647) (hop : op = 14 ∨ op = 15) (b : Int) : ref03_shift op x b = some (shW op x (b % 32).toNat) := by
  have ht := tmod32 b
  have h0 : shW op x 0 = x := by
    rcases hop with rfl | rfl
    · show lowW (x * 2 ^ 0) = x
      rw [Int.pow_zero, Int.mul_one, lowW_id hx]
    · show x / 2 ^ 0 = x
      rw [Int.pow_zero, Int.ediv_one]
  unfold ref03_shift
  by_cases h : Int.tmod b 32 < 0
  · rw [iLt_t h, cond_true]
    have := shift_l3 hx hop b (b % 32).toNat (by omega) (by split at ht <;> omega) (b % 32).toNat 0 fuel (by omega) (by have := fuel_big; omega)
    rw [h0] at this
    exact this
  · rw [iLt_f (by omega), cond_false]
    have := shift_l9 hx hop b (b % 32).toNat (by omega) (by split at ht <;> omega) (b % 32).toNat 0 fuel (by omega) (by have := fuel_big; omega)
    rw [h0] at this
    exact this
theorem flag_bind (b : Bool) : ((word_flag b).bind fun x : Int => some (x, (0 : Int))) = cond b (some (1, 0)) (some (0, 0)) := by cases b <;> rfl
theorem rem_facts {x y : Int} (hx : -2147483648 ≤ x ∧ x ≤ 2147483647) (hy : -2147483648 ≤ y ∧ y ≤ 2147483647) (h0 : y ≠ 0) : IntKind.i64.wrap (x - IntKind.i64.wrap (IntKind.i64.wrap (Int.tdiv x y) * y)) = Int.tmod x y := by
  have e := Int.mul_tdiv_add_tmod x y
  have h1 : (Int.tdiv x y).natAbs ≤ x.natAbs := Int.natAbs_tdiv_le_natAbs x y
  have h2 : (Int.tmod x y).natAbs < y.natAbs := by
    rw [Int.natAbs_tmod]
    exact Nat.mod_lt _ (by omega)
  rw [Int.mul_comm] at e
  generalize Int.tdiv x y = d at *
  generalize Int.tmod x y = m at *
  rw [w64 (a := d) (by omega), w64 (a := d * y) (by omega), w64 (by omega)]
  omega
theorem Do_same {k : Int} (hk : 3 ≤ k ∧ k ≤ 15) (a b : Int) : word_Do k a b = ref03_Do k a b := by
  have hx := lowW_rng a
  have hy := lowW_rng b
  unfold word_Do ref03_Do
  rw [ref03_Low_eq, bind_some', ref03_Low_eq, bind_some']
  simp only [i32_low, i64_low, exact_same]
  generalize hxe : lowW a = x at *
  generalize hye : lowW b = y at *
  have hu : IntKind.u32.wrap y = y % 4294967296 := by rw [IntKind.wrap_u32]
  rw [hu, mask31]
  have : k = 3 ∨ k = 4 ∨ k = 5 ∨ k = 6 ∨ k = 7 ∨ k = 8 ∨ k = 9 ∨ k = 10 ∨ k = 11 ∨ k = 12 ∨ k = 13 ∨ k = 14 ∨ k = 15 := by omega
  have hsh : nNn (y % 32) = true := nNn_of (by omega)
  obtain ⟨n, hn⟩ : ∃ n : Nat, y % 32 = (n : Int) := ⟨(y % 32).toNat, by omega⟩
  have hn31 : n ≤ 31 := by omega
  rcases this with rfl | rfl | rfl | rfl | rfl | rfl | rfl | rfl | rfl | rfl | rfl | rfl | rfl
  · rfl
  · rfl
  · rfl
  · rfl
  · show cond (iEq y 0) (some ((0 : Int), (2 : Int))) (need (nNz y) (some (Int.tmod x y, (0 : Int)))) = cond (iEq y 0) (some ((0 : Int), (2 : Int))) (need (nNz y) (some (IntKind.i64.wrap (x - (IntKind.i64.wrap ((IntKind.i64.wrap (Int.tdiv x y)) * y))), (0 : Int))))
    by_cases h0 : y = 0
    · simp only [iEq_t h0, cond_true]
    · rw [rem_facts hx hy h0]
  · rfl
  · exact flag_bind _
  · exact flag_bind _
  · have h := bits_ref 11 x y hx hy (BitVec.ofInt 32 x &&& BitVec.ofInt 32 y) (fun i => by rw [BitVec.toNat_and, Nat.testBit_and]; cases (BitVec.ofInt 32 x).toNat.testBit i <;> cases (BitVec.ofInt 32 y).toNat.testBit i <;> rfl)
    show some (IntKind.i64.wrap (Go.bits .and .i32 x y), (0 : Int)) = (ref03_bits 11 x y).bind fun z : Int => some (z, (0 : Int))
    rw [h, bits_def, i64_low]; rfl
  · have h := bits_ref 12 x y hx hy (BitVec.ofInt 32 x ||| BitVec.ofInt 32 y) (fun i => by rw [BitVec.toNat_or, Nat.testBit_or]; cases (BitVec.ofInt 32 x).toNat.testBit i <;> cases (BitVec.ofInt 32 y).toNat.testBit i <;> rfl)
    show some (IntKind.i64.wrap (Go.bits .or .i32 x y), (0 : Int)) = (ref03_bits 12 x y).bind fun z : Int => some (z, (0 : Int))
    rw [h, bits_def, i64_low]; rfl
  · have h := bits_ref 13 x y hx hy (BitVec.ofInt 32 x ^^^ BitVec.ofInt 32 y) (fun i => by rw [BitVec.toNat_xor, Nat.testBit_xor]; cases (BitVec.ofInt 32 x).toNat.testBit i <;> cases (BitVec.ofInt 32 y).toNat.testBit i <;> rfl)
    show some (IntKind.i64.wrap (Go.bits .xor .i32 x y), (0 : Int)) = (ref03_bits 13 x y).bind fun z : Int => some (z, (0 : Int))
    rw [h, bits_def, i64_low]; rfl
  · have h := shift_ref hx (.inl (rfl : (14 : Int) = 14)) y
    show need (nNn (y % 32)) (some (lowW (x * 2 ^ min (y % 32).toNat IntKind.i32.bits), (0 : Int))) = (ref03_shift 14 x y).bind fun z : Int => some (z, (0 : Int))
    rw [h, need_of hsh, bind_some', hn, Int.toNat_natCast, Nat.min_eq_left (show n ≤ IntKind.i32.bits by show n ≤ 32; omega)]
    rfl
  · have h := shift_ref hx (.inr (rfl : (15 : Int) = 15)) y
    show need (nNn (y % 32)) (some (IntKind.i64.wrap (x / 2 ^ min (y % 32).toNat IntKind.i32.bits), (0 : Int))) = (ref03_shift 15 x y).bind fun z : Int => some (z, (0 : Int))
    have hb : -2147483648 ≤ x / 2 ^ n ∧ x / 2 ^ n ≤ 2147483647 := by
      have hp : (0 : Int) < 2 ^ n := Int.pow_pos (by decide)
      have hp1 : (1 : Int) ≤ 2 ^ n := hp
      have h5 := Int.mul_le_mul_of_nonneg_left (c := 2147483648) hp1 (by decide)
      constructor
      · exact (Int.le_ediv_iff_mul_le hp).2 (by omega)
      · exact Int.lt_add_one_iff.1 ((Int.ediv_lt_iff_lt_mul hp).2 (by omega))
    rw [h, need_of hsh, bind_some', hn, Int.toNat_natCast, Nat.min_eq_left (show n ≤ IntKind.i32.bits by show n ≤ 32; omega), w64 (by omega)]
    rfl
end LJ
