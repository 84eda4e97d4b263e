/- What was added is taken away again; and a quotient times the divisor, and the rest, are the dividend (WordBack): proved for all numbers of Go's int, without conditions. -/
import Derived.Test.YthkmjhbiaolmkaaPWordBackx2
namespace Go.Proofs.Ythkmjhbiaolmkaa.Pure
open Go.RowKit Go.Proofs.Ythkmjhbiaolmkaa.PWordBack Go.Proofs.YthkmjhbiaolmkaaW.PrintWords Go.Proofs.YthkmjhbiaolmkaaW.PrintLast Go.Proofs.YthkmjhbiaolmkaaW.PrintMore

theorem wf64 {a : Int} (h : (Lit.int .i64 a).wf = true) : -9223372036854775808 ≤ a ∧ a ≤ 9223372036854775807 := by
  simpa [Lit.wf, IntKind.min, IntKind.max, IntKind.signed, IntKind.bits] using h

theorem lives_ok : logjamlaw03_lives.f 1 = some true := by kernel_rfl

theorem low_eq (a : Int) : word_Low.f a = some (wrap32 a) := by
  unfold word_Low.f wrap64 wrap32
  congr 1
  omega

def fitsB (a : Int) : Bool := decide (-2147483648 ≤ a ∧ a < 2147483648)

theorem fits_eq (a : Int) : word_Fits.f a = some (fitsB a) := by
  unfold word_Fits.f wrap64 wrap32 fitsB
  congr 1
  rw [Bool.eq_iff_iff]
  simp only [beq_iff_eq, decide_eq_true_eq]
  omega

theorem w32 (a : Int) : -2147483648 ≤ wrap32 a ∧ wrap32 a ≤ 2147483647 := by unfold wrap32; omega
theorem w32_id {a : Int} (h : -2147483648 ≤ a ∧ a ≤ 2147483647) : wrap32 a = a := by unfold wrap32; omega
theorem w64_id {a : Int} (h : -9223372036854775808 ≤ a ∧ a ≤ 9223372036854775807) : wrap64 a = a := by unfold wrap64; omega
theorem w64_w32 (a : Int) : wrap64 (wrap32 a) = wrap32 a := w64_id (by have := w32 a; omega)

/-- A number, or the fault that it is no word. -/
def ex (n : Int) : Int × Int := if fitsB n = true then (n, 0) else (0, 1)

theorem exact_eq (n : Int) : word_exact.f n = some (ex n) := by
  unfold word_exact.f ex
  rw [fits_eq, Option.bind_some]
  split <;> rfl

theorem mul_bound {x y : Int} (hx : -2147483648 ≤ x ∧ x ≤ 2147483648) (hy : -2147483648 ≤ y ∧ y ≤ 2147483648) : -4611686018427387904 ≤ x * y ∧ x * y ≤ 4611686018427387904 := by
  have h1 : (x * y).natAbs ≤ 2147483648 * 2147483648 := by
    rw [Int.natAbs_mul]
    exact Nat.mul_le_mul (by omega) (by omega)
  omega

theorem do_add (k : Nat) (a b : Int) : word_Do.f k 3 a b = some (ex (wrap32 a + wrap32 b)) := by
  have h1 := w32 a; have h2 := w32 b
  unfold word_Do.f
  rw [if_pos rfl, w64_w32, w64_w32, w64_id (by omega), exact_eq]
  rfl
theorem do_sub (k : Nat) (a b : Int) : word_Do.f k 4 a b = some (ex (wrap32 a - wrap32 b)) := by
  have h1 := w32 a; have h2 := w32 b
  unfold word_Do.f
  rw [if_neg (by decide), if_pos rfl, w64_w32, w64_w32, w64_id (by omega), exact_eq]
  rfl
theorem do_mul (k : Nat) (a b : Int) : word_Do.f k 5 a b = some (ex (wrap32 a * wrap32 b)) := by
  have h1 := w32 a; have h2 := w32 b
  have h3 := mul_bound (x := wrap32 a) (y := wrap32 b) (by omega) (by omega)
  unfold word_Do.f
  rw [if_neg (by decide), if_neg (by decide), if_pos rfl, w64_w32, w64_w32, w64_id (by omega), exact_eq]
  rfl
theorem do_neg (k : Nat) (a b : Int) : word_Do.f k 8 a b = some (ex (-wrap32 a)) := by
  have h1 := w32 a
  unfold word_Do.f
  rw [if_neg (by decide), if_neg (by decide), if_neg (by decide), if_pos rfl, w64_w32, w64_id (by omega), exact_eq]
  rfl
theorem tdiv_abs (x y : Int) : (Int.tdiv x y).natAbs ≤ x.natAbs := by
  rw [Int.natAbs_tdiv]
  exact Nat.div_le_self _ _
theorem do_div (k : Nat) (a b : Int) : word_Do.f (k + 1) 6 a b = some (if wrap32 b = 0 then (0, 2) else ex (Int.tdiv (wrap32 a) (wrap32 b))) := by
  have h1 := w32 a
  have h3 := tdiv_abs (wrap32 a) (wrap32 b)
  unfold word_Do.f
  rw [if_neg (by decide), if_neg (by decide), if_neg (by decide), if_neg (by decide), if_pos rfl]
  simp only [word_Do.j0, w64_w32]
  rw [if_pos (by decide), w64_id (by omega), exact_eq]
  split
  · rfl
  · rw [if_neg (by decide)]; rfl
theorem do_mod (k : Nat) (a b : Int) : word_Do.f (k + 1) 7 a b = some (if wrap32 b = 0 then (0, 2) else (Int.tmod (wrap32 a) (wrap32 b), 0)) := by
  unfold word_Do.f
  rw [if_neg (by decide), if_neg (by decide), if_neg (by decide), if_neg (by decide), if_neg (by decide)]
  simp only [word_Do.j0, w64_w32]
  rw [if_pos (by decide)]
  split
  · rfl
  · rw [if_pos trivial]

theorem tmod_facts (x y : Int) (hy : y ≠ 0) : (Int.tmod x y).natAbs < y.natAbs ∧ (0 ≤ x → 0 ≤ Int.tmod x y) ∧ (x ≤ 0 → Int.tmod x y ≤ 0) := by
  refine ⟨?_, fun h => ?_, fun h => ?_⟩
  · rw [Int.natAbs_tmod]
    exact Nat.mod_lt _ (by omega)
  · rw [Int.tmod_eq_emod_of_nonneg h]
    exact Int.emod_nonneg _ hy
  · have h2 : Int.tmod x y = -(Int.tmod (-x) y) := by rw [Int.neg_tmod]; omega
    rw [h2, Int.tmod_eq_emod_of_nonneg (by omega)]
    have := Int.emod_nonneg (-x) hy
    omega

theorem div_over (x y : Int) (hx : -2147483648 ≤ x ∧ x ≤ 2147483647) (hy : y ≠ 0) (h : fitsB (Int.tdiv x y) = false) : x = -2147483648 ∧ y = -1 := by
  have h1 := tdiv_abs x y
  have h2 : (Int.tdiv x y).natAbs = x.natAbs / y.natAbs := Int.natAbs_tdiv x y
  have h3 : ¬ (-2147483648 ≤ Int.tdiv x y ∧ Int.tdiv x y < 2147483648) := by simpa [fitsB] using h
  have h4 : Int.tdiv x y = 2147483648 := by omega
  have h5 : x = -2147483648 := by omega
  subst h5
  refine ⟨rfl, ?_⟩
  have h6 := Int.mul_tdiv_add_tmod (-2147483648) y
  obtain ⟨h7, h8, h9⟩ := tmod_facts (-2147483648) y hy
  have h9 := h9 (by decide)
  rw [h4] at h6
  omega

theorem WordBack : logjamlaw03_WordBack.Pure := by
  intro a b ha hb
  refine ⟨2, ?_⟩
  have hx := w32 a
  have hy := w32 b
  have J : ∀ (a b : Int), logjamlaw03_WordBack.j0 2 a b (wrap32 a) (wrap32 b) = some true := by
    intro a b
    have hx := w32 a
    have hy := w32 b
    simp only [logjamlaw03_WordBack.j0]
    rw [show (1 : Nat) = 0 + 1 from rfl, do_div, Option.bind_some, do_mod, Option.bind_some]
    have hl : logjamlaw03_lives.f (0 + 1) = some true := lives_ok
    generalize wrap32 a = x at *
    generalize wrap32 b = y at *
    by_cases h0 : y = 0
    · simp only [h0, if_true, hl, Option.bind_some]
    · simp only [if_neg h0]
      obtain ⟨m1, m2, m3⟩ := tmod_facts x y h0
      have m4 := Int.mul_tdiv_add_tmod x y
      have hmx : ∀ z : Int, -2147483648 ≤ z → z ≤ 2147483648 → mx z (wrap64 (-z)) = z.natAbs := by
        intro z h1 h2
        rw [w64_id (by omega)]
        unfold mx
        split <;> omega
      have hlt : mx (Int.tmod x y) (wrap64 (-(Int.tmod x y))) < mx y (wrap64 (-y)) := by
        rw [hmx _ (by omega) (by omega), hmx _ (by omega) (by omega)]
        omega
      by_cases hf : fitsB (Int.tdiv x y) = true
      · have hq : wrap64 (wrap64 (Int.tdiv x y * y) + Int.tmod x y) = x := by
          rw [Int.mul_comm] at m4
          have e1 : Int.tdiv x y * y = x - Int.tmod x y := by omega
          rw [e1, w64_id (a := x - Int.tmod x y) (by omega), w64_id (by omega)]
          omega
        simp only [ex, hf, if_true, hq, hlt, hl, Option.bind_some]
        by_cases hr : Int.tmod x y = 0
        · simp only [hr, if_true]
        · have hs : ((decide (Int.tmod x y < 0)) == (decide (x < 0))) = true := by
            rw [beq_iff_eq, decide_eq_decide]
            omega
          simp only [hr, if_false, hs, if_true]
      · have hf' : fitsB (Int.tdiv x y) = false := by simpa using hf
        obtain ⟨e1, e2⟩ := div_over x y hx h0 hf'
        subst e1; subst e2
        have hr : Int.tmod (-2147483648) (-1) = 0 := by decide
        simp only [ex, hf', hr, hl, Option.bind_some]
        decide
  unfold logjamlaw03_WordBack.f
  simp only [low_eq, Option.bind_some, do_add, do_sub]
  have e : ∀ s, (ex s).2 = 0 → (ex s).1 = s ∧ fitsB s = true := by
    intro s h
    unfold ex at *
    split at h <;> simp_all
  by_cases h : (ex (wrap32 a + wrap32 b)).2 = 0
  · obtain ⟨e1, e2⟩ := e _ h
    have e3 : -2147483648 ≤ wrap32 a + wrap32 b ∧ wrap32 a + wrap32 b < 2147483648 := by simpa [fitsB] using e2
    rw [if_pos h, e1, w32_id (by omega)]
    have e4 : wrap32 a + wrap32 b - wrap32 b = wrap32 a := by omega
    have e5 : fitsB (wrap32 a) = true := by simp [fitsB]; omega
    rw [e4]
    simp only [ex, e5, if_true]
    exact J a b
  · rw [if_neg h]
    exact J a b

end Go.Proofs.Ythkmjhbiaolmkaa.Pure
