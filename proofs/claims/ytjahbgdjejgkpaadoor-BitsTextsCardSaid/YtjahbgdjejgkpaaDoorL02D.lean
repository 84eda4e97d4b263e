/- The laws BitsTells, BitsWalk, BitsMoves, plainly. -/
import Derived.Test.YtjahbgdjejgkpaaDoorL02C
namespace LJ
open Go Go.RowKit
set_option linter.unusedVariables false
set_option linter.unusedSimpArgs false

theorem iNe_self (a : Int) : iNe a a = false := iNe_f rfl
theorem iEq_self (a : Int) : iEq a a = true := iEq_t rfl
theorem next_all (x : Nat) : (bt x).filter (fun v => decide (-1 < v)) = bt x := List.filter_eq_self.2 fun v hv => by have := bt_rng hv; simp; omega
theorem pick_in {l : List Int} {a : Int} (h : 0 ≤ a ∧ a < l.length) : (l.drop a.toNat).headD (-1) = l.getD a.toNat default := by
  have e : l.drop a.toNat = l.getD a.toNat default :: l.drop (a.toNat + 1) := by
    rw [List.drop_eq_getElem_cons (by omega)]
    simp [List.getD_eq_getElem?_getD, show a.toNat < l.length by omega]
  rw [e]; rfl
theorem pick_out {l : List Int} {a : Int} (h : ¬ (0 ≤ a ∧ a < l.length)) : cond (iLt a 0) (-1) ((l.drop a.toNat).headD (-1)) = -1 := by
  by_cases h0 : a < 0
  · rw [iLt_t h0]; rfl
  · rw [iLt_f (by omega), cond_false, List.drop_eq_nil_of_le (by omega)]; rfl
/-! ### From one to the next -/
theorem ls_sorted : ∀ k n x, (ls k n x).Pairwise (· < ·)
  | 0, n, x => List.Pairwise.nil
  | k + 1, n, x => by
    rw [ls]
    split
    · refine List.Pairwise.cons (fun v hv => ?_) (ls_sorted k (n + 1) (x / 2))
      obtain ⟨i, h1, h2, h3⟩ := (ls_mem k (n + 1) (x / 2) v).1 hv
      omega
    · exact ls_sorted k (n + 1) (x / 2)
theorem above : ∀ (l : List Int) (i : Nat), l.Pairwise (· < ·) → i < l.length → (l.filter fun v => decide (l.getD i default < v)) = l.drop (i + 1)
  | [], i, h, hi => by simp at hi
  | a :: t, 0, h, hi => by
    rw [List.pairwise_cons] at h
    have e : (a :: t).getD 0 default = a := rfl
    rw [e, List.filter_cons_of_neg (by simp), List.drop_succ_cons, List.drop_zero]
    exact List.filter_eq_self.2 fun v hv => by simpa using h.1 v hv
  | a :: t, i + 1, h, hi => by
    rw [List.pairwise_cons] at h
    have e : (a :: t).getD (i + 1) default = t.getD i default := rfl
    have hi' : i < t.length := by simpa using hi
    have hm : t.getD i default ∈ t := by
      rw [List.getD_eq_getElem?_getD, List.getElem?_eq_getElem hi']
      exact List.getElem_mem _
    have := h.1 _ hm
    have hneg : ¬ ((fun v : Int => decide (t.getD i default < v)) a = true) := by
      show ¬ (decide (t.getD i default < a) = true)
      rw [decide_eq_true_eq]; omega
    have hf := List.filter_cons_of_neg (p := fun v : Int => decide (t.getD i default < v)) (l := t) hneg
    rw [e, hf, List.drop_succ_cons]
    exact above t i h.2 hi'
theorem drop_cons2 {l : List Int} {i : Nat} (h : i < l.length) : l.drop i = l.getD i default :: l.drop (i + 1) := by
  rw [List.drop_eq_getElem_cons h]
  simp [List.getD_eq_getElem?_getD, h]
/-! ### Moved -/
theorem i64_and63 (n : Int) : Go.bits .and .i64 n 63 = n % 64 := by
  have h63 : (BitVec.ofInt 64 63).toNat = 2 ^ 6 - 1 := by decide
  have key : (BitVec.ofInt 64 n &&& BitVec.ofInt 64 63).toNat = (n % ((2 ^ 64 : Nat) : Int)).toNat % 2 ^ 6 := by
    rw [BitVec.toNat_and, BitVec.toNat_ofInt, h63, Nat.and_two_pow_sub_one_eq_mod]
  show IntKind.i64.wrap ((BitVec.ofInt 64 n &&& BitVec.ofInt 64 63).toNat : Nat) = n % 64
  rw [key, IntKind.wrap_i64]
  omega
theorem rot_or {k x : Nat} (hk : k < 64) (hx : x < 18446744073709551616) : (x * 2 ^ k % 18446744073709551616) ||| x / 2 ^ (64 - k) = rot k x := by
  have h1 := (rot_lt hk hx).1
  have e : (18446744073709551616 : Nat) = 2 ^ (64 - k) * 2 ^ k := by rw [← Nat.pow_add, show 64 - k + k = 64 by omega]
  have e2 : x * 2 ^ k % 18446744073709551616 = 2 ^ k * (x % 2 ^ (64 - k)) := by
    rw [e, Nat.mul_mod_mul_right, Nat.mul_comm]
  rw [e2, ← Nat.two_pow_add_eq_or_of_lt h1]
  unfold rot
  omega
/-- All moved, one by one. -/
def upN (k : Nat) (s : Nat) : List Int → Nat
  | [] => s
  | v :: t => upN k (s ||| 2 ^ ((v.toNat + k) % 64)) t
theorem upN_lt (k : Nat) : ∀ (l : List Int) (s : Nat), s < 2 ^ 64 → upN k s l < 2 ^ 64
  | [], s, h => h
  | v :: t, s, h => upN_lt k t _ (Nat.or_lt_two_pow h (Nat.pow_lt_pow_right (by decide) (Nat.mod_lt _ (by decide))))
theorem upN_bit (k : Nat) : ∀ (l : List Int) (s j : Nat), (upN k s l).testBit j = (s.testBit j || l.any fun v => decide ((v.toNat + k) % 64 = j))
  | [], s, j => by simp [upN]
  | v :: t, s, j => by
    rw [upN, upN_bit k t, Nat.testBit_or, Nat.testBit_two_pow, List.any_cons, Bool.or_assoc]
theorem upN_rot {x k : Nat} (hx : x < 18446744073709551616) (hk : k < 64) : upN k 0 (bt x) = rot k x := by
  apply Nat.eq_of_testBit_eq
  intro j
  by_cases hj : j < 64
  · rw [upN_bit, rot_bit hk hx j hj, Nat.zero_testBit, Bool.false_or, Bool.eq_iff_iff, List.any_eq_true]
    constructor
    · rintro ⟨v, hv, he⟩
      obtain ⟨i, h1, h2, h3⟩ := (ls_mem 64 0 x v).1 hv
      rw [decide_eq_true_eq] at he
      have : (j + 64 - k) % 64 = i := by omega
      rw [this]; exact h3
    · intro h
      refine ⟨(((j + 64 - k) % 64 : Nat) : Int), (ls_mem 64 0 x _).2 ⟨(j + 64 - k) % 64, by omega, by omega, h⟩, ?_⟩
      rw [decide_eq_true_eq, Int.toNat_natCast]
      omega
  · have h1 := upN_lt k (bt x) 0 (by decide)
    have h2 := (rot_lt hk hx).2
    rw [Nat.testBit_lt_two_pow (Nat.lt_of_lt_of_le h1 (Nat.pow_le_pow_right (by decide) (by omega))), Nat.testBit_lt_two_pow (Nat.lt_of_lt_of_le h2 (Nat.pow_le_pow_right (by decide) (by omega)))]
theorem withN_up {s : Nat} {w : Int} {v : Int} {k : Nat} (hv : 0 ≤ v ∧ v < 64) (hk : k < 64) (hw : w = v + k) : withN s (Int.tmod w 64) = s ||| 2 ^ ((v.toNat + k) % 64) := by
  subst hw
  have e : Int.tmod (v + k) 64 = (((v.toNat + k) % 64 : Nat) : Int) := by rw [Int.tmod_eq_emod_of_nonneg (by omega)]; omega
  rw [e]
  unfold withN inR
  rw [if_pos (decide_eq_true (by omega)), Int.toNat_natCast]
theorem tm (n : Int) : ∃ q, n = 64 * q + Int.tmod n 64 ∧ -64 < Int.tmod n 64 ∧ Int.tmod n 64 < 64 := by
  refine ⟨n.tdiv 64, (Int.mul_tdiv_add_tmod n 64).symm, ?_, ?_⟩
  · have := Int.tmod_lt_of_pos (-n) (b := 64) (by decide)
    rw [Int.neg_tmod] at this
    omega
  · exact Int.tmod_lt_of_pos n (by decide)
theorem rot_rot {x k m : Nat} (hx : x < 18446744073709551616) (hk : k < 64) (hm : m < 64) : rot m (rot k x) = rot ((k + m) % 64) x := by
  have h1 := (rot_lt hk hx).2
  have h2 := (rot_lt hm h1).2
  have hkm : (k + m) % 64 < 64 := Nat.mod_lt _ (by decide)
  have h3 := (rot_lt hkm hx).2
  apply Nat.eq_of_testBit_eq
  intro j
  by_cases hj : j < 64
  · rw [rot_bit hm h1 j hj, rot_bit hk hx _ (Nat.mod_lt _ (by decide)), rot_bit hkm hx j hj]
    congr 1
    omega
  · rw [Nat.testBit_lt_two_pow (Nat.lt_of_lt_of_le h2 (Nat.pow_le_pow_right (by decide) (by omega))), Nat.testBit_lt_two_pow (Nat.lt_of_lt_of_le h3 (Nat.pow_le_pow_right (by decide) (by omega)))]
theorem rot_zero (x : Nat) (hx : x < 18446744073709551616) : rot 0 x = x := by
  unfold rot
  rw [show 64 - 0 = 64 from rfl]
  omega
end LJ