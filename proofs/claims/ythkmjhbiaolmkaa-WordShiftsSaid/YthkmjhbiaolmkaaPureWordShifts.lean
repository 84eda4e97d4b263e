/- What is moved up and down again is as it was, where no bit went, and moving down by one is half, rounded down (WordShifts): proved for all numbers of Go's int, without conditions. -/
import Derived.Test.YthkmjhbiaolmkaaPWordShiftsx1
namespace Go.Proofs.Ythkmjhbiaolmkaa.Pure
open Go.RowKit Go.Proofs.Ythkmjhbiaolmkaa.PWordShifts Go.Proofs.YthkmjhbiaolmkaaW.PrintWords Go.Proofs.YthkmjhbiaolmkaaW.PrintLast Go.Proofs.YthkmjhbiaolmkaaW.PrintMore

theorem wf64 {a : Int} (h : (Lit.int .i64 a).wf = true) : -9223372036854775808 ≤ a ∧ a ≤ 9223372036854775807 := by
  simpa [Lit.wf, IntKind.min, IntKind.max, IntKind.signed, IntKind.bits] using h

theorem lives_ok : logjamlaw03_lives.f 1 = some true := by kernel_rfl

theorem low_eq (a : Int) : word_Low.f a = some (wrap32 a) := by
  unfold word_Low.f wrap64 wrap32
  congr 1
  omega

def fitsB (a : Int) : Bool := decide (-2147483648 ≤ a ∧ a < 2147483648)

theorem fits_eq (a : Int) : word_Fits.f a = some (fitsB a) := by
  unfold word_Fits.f wrap64 wrap32 fitsB
  congr 1
  rw [Bool.eq_iff_iff]
  simp only [beq_iff_eq, decide_eq_true_eq]
  omega

theorem w32 (a : Int) : -2147483648 ≤ wrap32 a ∧ wrap32 a ≤ 2147483647 := by unfold wrap32; omega
theorem w32_id {a : Int} (h : -2147483648 ≤ a ∧ a ≤ 2147483647) : wrap32 a = a := by unfold wrap32; omega
theorem w64_id {a : Int} (h : -9223372036854775808 ≤ a ∧ a ≤ 9223372036854775807) : wrap64 a = a := by unfold wrap64; omega
theorem w64_w32 (a : Int) : wrap64 (wrap32 a) = wrap32 a := w64_id (by have := w32 a; omega)

/-- A number, or the fault that it is no word. -/
def ex (n : Int) : Int × Int := if fitsB n = true then (n, 0) else (0, 1)

theorem exact_eq (n : Int) : word_exact.f n = some (ex n) := by
  unfold word_exact.f ex
  rw [fits_eq, Option.bind_some]
  split <;> rfl

theorem mul_bound {x y : Int} (hx : -2147483648 ≤ x ∧ x ≤ 2147483648) (hy : -2147483648 ≤ y ∧ y ≤ 2147483648) : -4611686018427387904 ≤ x * y ∧ x * y ≤ 4611686018427387904 := by
  have h1 : (x * y).natAbs ≤ 2147483648 * 2147483648 := by
    rw [Int.natAbs_mul]
    exact Nat.mul_le_mul (by omega) (by omega)
  omega

theorem do_add (k : Nat) (a b : Int) : word_Do.f k 3 a b = some (ex (wrap32 a + wrap32 b)) := by
  have h1 := w32 a; have h2 := w32 b
  unfold word_Do.f
  rw [if_pos rfl, w64_w32, w64_w32, w64_id (by omega), exact_eq]
  rfl
theorem do_sub (k : Nat) (a b : Int) : word_Do.f k 4 a b = some (ex (wrap32 a - wrap32 b)) := by
  have h1 := w32 a; have h2 := w32 b
  unfold word_Do.f
  rw [if_neg (by decide), if_pos rfl, w64_w32, w64_w32, w64_id (by omega), exact_eq]
  rfl
theorem do_mul (k : Nat) (a b : Int) : word_Do.f k 5 a b = some (ex (wrap32 a * wrap32 b)) := by
  have h1 := w32 a; have h2 := w32 b
  have h3 := mul_bound (x := wrap32 a) (y := wrap32 b) (by omega) (by omega)
  unfold word_Do.f
  rw [if_neg (by decide), if_neg (by decide), if_pos rfl, w64_w32, w64_w32, w64_id (by omega), exact_eq]
  rfl
theorem do_neg (k : Nat) (a b : Int) : word_Do.f k 8 a b = some (ex (-wrap32 a)) := by
  have h1 := w32 a
  unfold word_Do.f
  rw [if_neg (by decide), if_neg (by decide), if_neg (by decide), if_pos rfl, w64_w32, w64_id (by omega), exact_eq]
  rfl
theorem tdiv_abs (x y : Int) : (Int.tdiv x y).natAbs ≤ x.natAbs := by
  rw [Int.natAbs_tdiv]
  exact Nat.div_le_self _ _
theorem do_div (k : Nat) (a b : Int) : word_Do.f (k + 1) 6 a b = some (if wrap32 b = 0 then (0, 2) else ex (Int.tdiv (wrap32 a) (wrap32 b))) := by
  have h1 := w32 a
  have h3 := tdiv_abs (wrap32 a) (wrap32 b)
  unfold word_Do.f
  rw [if_neg (by decide), if_neg (by decide), if_neg (by decide), if_neg (by decide), if_pos rfl]
  simp only [word_Do.j0, w64_w32]
  rw [if_pos (by decide), w64_id (by omega), exact_eq]
  split
  · rfl
  · rw [if_neg (by decide)]; rfl
theorem do_mod (k : Nat) (a b : Int) : word_Do.f (k + 1) 7 a b = some (if wrap32 b = 0 then (0, 2) else (Int.tmod (wrap32 a) (wrap32 b), 0)) := by
  unfold word_Do.f
  rw [if_neg (by decide), if_neg (by decide), if_neg (by decide), if_neg (by decide), if_neg (by decide)]
  simp only [word_Do.j0, w64_w32]
  rw [if_pos (by decide)]
  split
  · rfl
  · rw [if_pos trivial]

theorem two_pow_le {n : Nat} (h : n ≤ 31) : (2 : Int) ^ n ≤ 2147483648 := by
  have h1 : 2 ^ n ≤ 2 ^ 31 := Nat.pow_le_pow_right (by decide) h
  have h2 : (2 : Nat) ^ 31 = 2147483648 := by decide
  rw [h2] at h1
  have h3 : ((2 ^ n : Nat) : Int) = 2 ^ n := Int.natCast_pow 2 n
  omega
theorem shl_eq (x y : Int) (h0 : 0 ≤ y) (h1 : y ≤ 31) : shl .i32 x y = wrap32 (x * 2 ^ y.toNat) := by
  unfold shl
  rw [Nat.min_eq_left (by simp [IntKind.bits]; omega), IntKind.wrap_i32]
  unfold wrap32
  rfl
theorem shr_eq (x y : Int) (h0 : 0 ≤ y) (h1 : y ≤ 31) : shr .i32 x y = x / 2 ^ y.toNat := by
  unfold shr
  rw [Nat.min_eq_left (by simp [IntKind.bits]; omega)]
theorem wraps_u32 (n : Int) (h0 : 0 ≤ n) (h1 : n < 2 ^ 32) : IntKind.u32.wrap n = n := by rw [IntKind.wrap_u32]; omega
theorem mask31 (y : Int) : Go.bits .and .u32 (y % 4294967296) 31 = y % 32 := by
  have h := bits_mask .u32 32 (by decide) wraps_u32 5 (by decide) (y % 4294967296) (by omega) (by omega)
  have e : ((2 : Int) ^ 5 - 1) = 31 := by decide
  rw [e] at h
  rw [h]
  have e2 : ((2 : Int) ^ 5) = 32 := by decide
  rw [e2]
  omega
theorem w32_mod (y : Int) : wrap32 y % 32 = y % 32 := by unfold wrap32; omega
theorem do_shl (k : Nat) (a b : Int) : word_Do.f (k + 1) 14 a b = some (wrap32 (wrap32 a * 2 ^ (b % 32).toNat), 0) := by
  unfold word_Do.f
  rw [if_neg (by decide), if_neg (by decide), if_neg (by decide), if_neg (by decide), if_neg (by decide)]
  simp only [word_Do.j0, w64_w32, mask31, w32_mod]
  rw [if_neg (by decide), if_neg (by decide), if_neg (by decide), if_neg (by decide), if_neg (by decide), if_neg (by decide), if_pos trivial, if_pos (by omega), shl_eq _ _ (by omega) (by omega), w64_w32]
theorem do_shr (k : Nat) (a b : Int) : word_Do.f (k + 1) 15 a b = some (wrap32 a / 2 ^ (b % 32).toNat, 0) := by
  have h1 := w32 a
  have h2 : -2147483648 ≤ wrap32 a / 2 ^ (b % 32).toNat ∧ wrap32 a / 2 ^ (b % 32).toNat ≤ 2147483647 := by
    have hp : (0 : Int) < 2 ^ (b % 32).toNat := Int.pow_pos (by decide)
    have hp1 : (1 : Int) ≤ 2 ^ (b % 32).toNat := hp
    constructor
    · refine (Int.le_ediv_iff_mul_le hp).2 ?_
      have := Int.mul_le_mul_of_nonneg_left (c := 2147483648) hp1 (by decide)
      omega
    · refine Int.lt_add_one_iff.1 ((Int.ediv_lt_iff_lt_mul hp).2 ?_)
      have := Int.mul_le_mul_of_nonneg_left (c := 2147483648) hp1 (by decide)
      omega
  unfold word_Do.f
  rw [if_neg (by decide), if_neg (by decide), if_neg (by decide), if_neg (by decide), if_neg (by decide)]
  simp only [word_Do.j0, w64_w32, mask31, w32_mod]
  rw [if_neg (by decide), if_neg (by decide), if_neg (by decide), if_neg (by decide), if_neg (by decide), if_neg (by decide), if_neg (by decide), if_pos trivial, if_pos (by omega), shr_eq _ _ (by omega) (by omega), w64_id (by omega)]

set_option maxRecDepth 100000 in
theorem l0_ev (x n up back down : Int) (hn : 0 ≤ n ∧ n ≤ 31) (hx : -2147483648 ≤ x ∧ x ≤ 2147483647) (hd : wrap64 (2 * down) ≤ x ∧ wrap64 (wrap64 (2 * down) + 1) ≥ x)
    (hu : fitsB (x * 2 ^ n.toNat) = true → up = x * 2 ^ n.toNat ∧ back = x) (d : Nat) : ∀ (k : Nat) (i : Int), 0 ≤ i → i ≤ n → n - i = d → d < k →
    logjamlaw03_WordShifts.l0 (k + 1) x n up 0 back 0 down 0 (2 ^ i.toNat) i = some true := by
  induction d with
  | zero =>
    intro k i h0 h1 h2 h3
    obtain rfl : i = n := by omega
    unfold logjamlaw03_WordShifts.l0
    rw [if_neg (by omega)]
    have hp : (2 : Int) ^ i.toNat ≤ 2147483648 := two_pow_le (by omega)
    have hp0 : (0 : Int) < 2 ^ i.toNat := Int.pow_pos (by decide)
    have hm := mul_bound (x := x) (y := 2 ^ i.toNat) (by omega) (by omega)
    have hz : wrap64 (wrap64 ((0 : Int) + 0) + 0) = 0 := by unfold wrap64; rfl
    obtain ⟨k, rfl⟩ : ∃ m, k = m + 1 := ⟨k - 1, by omega⟩
    have hl : logjamlaw03_lives.f (k + 1) = some true := at_rounds logjamlaw03_lives.mono (by omega) lives_ok
    rw [fits_eq, Option.bind_some, w64_id (a := x * 2 ^ i.toNat) (by omega), hz, if_pos rfl, hl]
    simp only [hd, if_true, Option.bind_some]
    by_cases hf : fitsB (x * 2 ^ i.toNat) = true
    · obtain ⟨e1, e2⟩ := hu hf
      simp only [hf, if_true, e1, e2]
    · simp only [hf]; rfl
  | succ d ih =>
    intro k i h0 h1 h2 h3
    obtain ⟨k, rfl⟩ : ∃ m, k = m + 1 := ⟨k - 1, by omega⟩
    unfold logjamlaw03_WordShifts.l0
    rw [if_pos (by omega)]
    have hp : (2 : Int) ^ i.toNat ≤ 2147483648 := two_pow_le (by omega)
    have hp0 : (0 : Int) < 2 ^ i.toNat := Int.pow_pos (by decide)
    rw [w64_id (a := 2 ^ i.toNat * 2) (by omega), w64_id (by omega)]
    have e : (2 : Int) ^ i.toNat * 2 = 2 ^ (i + 1).toNat := by
      rw [show (i + 1).toNat = i.toNat + 1 by omega, Int.pow_succ]
    rw [e]
    exact ih k (i + 1) (by omega) (by omega) (by omega) (by omega)

theorem WordShifts : logjamlaw03_WordShifts.Pure := by
  intro a b ha hb
  have hb := wf64 hb
  have hx := w32 a
  have J : ∀ n : Int, n = b % 32 → logjamlaw03_WordShifts.j0 50 a b (wrap32 a) n = some true := by
    intro n hn
    rw [show (50 : Nat) = 49 + 1 from rfl]
    simp only [logjamlaw03_WordShifts.j0]
    rw [show (49 : Nat) = 48 + 1 from rfl, do_shl]
    simp only [Option.bind_some]
    rw [do_shr, do_shr]
    simp only [Option.bind_some]
    have e1 : ((1 : Int) % 32).toNat = 1 := by decide
    have e2 : (2 : Int) ^ 1 = 2 := by decide
    rw [e1, e2, ← hn]
    have e3 : (1 : Int) = 2 ^ (0 : Int).toNat := by decide
    have H := l0_ev (wrap32 a) n (wrap32 (wrap32 a * 2 ^ n.toNat)) (wrap32 (wrap32 (wrap32 a * 2 ^ n.toNat)) / 2 ^ n.toNat) (wrap32 a / 2) (by omega) hx
      (by rw [w64_id (a := 2 * (wrap32 a / 2)) (by omega), w64_id (by omega)]; omega)
      (by
        intro hf
        have hf' : -2147483648 ≤ wrap32 a * 2 ^ n.toNat ∧ wrap32 a * 2 ^ n.toNat < 2147483648 := by simpa [fitsB] using hf
        rw [w32_id (a := wrap32 a * 2 ^ n.toNat) (by omega), w32_id (a := wrap32 a * 2 ^ n.toNat) (by omega)]
        refine ⟨rfl, ?_⟩
        exact Int.mul_ediv_cancel _ (by have : (0 : Int) < 2 ^ n.toNat := Int.pow_pos (by decide); omega))
      n.toNat 48 0 (by omega) (by omega) (by omega) (by omega)
    exact H
  refine ⟨50, ?_⟩
  unfold logjamlaw03_WordShifts.f
  rw [low_eq, Option.bind_some]
  have ht : Int.tmod b 32 = if 0 ≤ b then b % 32 else -((-b) % 32) := by
    split
    · exact Int.tmod_eq_emod_of_nonneg (by omega)
    · have h2 : Int.tmod b 32 = -(Int.tmod (-b) 32) := by rw [Int.neg_tmod]; omega
      rw [h2, Int.tmod_eq_emod_of_nonneg (by omega)]
  split
  · rename_i h
    rw [w64_id (by omega)]
    exact J _ (by split at ht <;> omega)
  · rename_i h
    exact J _ (by split at ht <;> omega)

end Go.Proofs.Ythkmjhbiaolmkaa.Pure
