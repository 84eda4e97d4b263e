/- Plain laws of bits: what each function says of the list of a set's numbers. -/
import Derived.Test.YtjahbgdjejgkpaaDoorP02C
import Derived.Test.YtjahbgdjejgkpaaDoorL02B
import Derived.Laws.BitsAllLaws
namespace LJ
open Go Go.RowKit
set_option linter.unusedVariables false
set_option linter.unusedSimpArgs false

theorem tmod2 (x : Nat) : Int.tmod (x : Int) 2 = ((x % 2 : Nat) : Int) := by
  rw [Int.tmod_eq_emod_of_nonneg (by omega)]; omega
theorem tdiv2 (x : Nat) : Int.tdiv (x : Int) 2 = ((x / 2 : Nat) : Int) := by
  rw [Int.tdiv_eq_ediv_of_nonneg (by omega)]; omega
/-- All numbers of a set, rising. -/
def bt (x : Nat) : List Int := ls 64 0 x
theorem list_l2 : ∀ (k n f x : Nat) (acc : List Int), n + k = 64 → k < f → x < 18446744073709551616 → acc.length ≤ n → ref02_List_l2 f ((x : Int), (n : Int), acc) = some (acc ++ ls k n x)
  | k, n, 0, x, acc, hn, hf, hx, ha => by omega
  | 0, n, f + 1, x, acc, hn, hf, hx, ha => by
    rw [ref02_List_l2]
    dsimp only
    rw [iLt_f (by omega), cond_false, ls, List.append_nil]
  | k + 1, n, f + 1, x, acc, hn, hf, hx, ha => by
    rw [ref02_List_l2]
    dsimp only
    rw [iLt_t (by omega), cond_true, tmod2, tdiv2, wu (by omega), w64 (by omega), show (n : Int) + 1 = ((n + 1 : Nat) : Int) by omega, ls]
    by_cases h : x % 2 = 1
    · rw [iEq_t (by omega), cond_true, need_of (nCap_of (by simp; omega)), list_l2 k (n + 1) f _ _ (by omega) (by omega) (by omega) (by simp; omega), if_pos h]
      simp
    · rw [iEq_f (by omega), cond_false, list_l2 k (n + 1) f _ _ (by omega) (by omega) (by omega) (by omega), if_neg h]
theorem ref_List {x : Nat} (hx : x < 18446744073709551616) : ref02_List (x : Int) = some (bt x) := by
  unfold ref02_List
  rw [show (0 : Int) = ((0 : Nat) : Int) from rfl, list_l2 64 0 fuel x [] (by omega) (by have := fuel_big; omega) hx (by simp), List.nil_append]
  rfl
theorem deb_fin : ∀ k : Fin 64, 2 ^ (k : Nat) * 285870213051353865 % 18446744073709551616 / 288230376151711744 < 64 ∧ G_math_bits_deBruijn64tab.getD (2 ^ (k : Nat) * 285870213051353865 % 18446744073709551616 / 288230376151711744) default = ((k : Nat) : Int) := by decide +kernel
theorem tz64 {x : Nat} (hx : x < 18446744073709551616) (h0 : x ≠ 0) : bits_TrailingZeros64 (x : Int) = some ((Lib.ctzFrom 64 x : Nat) : Int) := by
  obtain ⟨h1, h2⟩ := Lib.lowest_bit 64 x h0 hx
  have hc : Lib.ctz 64 x = Lib.ctzFrom 64 x := by unfold Lib.ctz; rw [if_neg h0]
  rw [hc] at h1 h2
  have hd := deb_fin ⟨_, h2⟩
  dsimp only at hd
  unfold bits_TrailingZeros64
  have e0 : IntKind.u64.wrap (0 - (x : Int)) = ((2 ^ 64 - x : Nat) : Int) := by rw [IntKind.wrap_u64]; omega
  have e1 : Go.bits .and .u64 (x : Int) ((2 ^ 64 - x : Nat) : Int) = ((2 ^ Lib.ctzFrom 64 x : Nat) : Int) := by rw [bits_and_u64_nat x _ hx (by omega), h1]
  have e2 : IntKind.u64.wrap (((2 ^ Lib.ctzFrom 64 x : Nat) : Int) * 285870213051353865) = ((2 ^ Lib.ctzFrom 64 x * 285870213051353865 % 18446744073709551616 : Nat) : Int) := by rw [IntKind.wrap_u64]; omega
  have e3 : ((2 ^ Lib.ctzFrom 64 x * 285870213051353865 % 18446744073709551616 : Nat) : Int) / (2 : Int) ^ min (58 : Int).toNat IntKind.u64.bits = ((2 ^ Lib.ctzFrom 64 x * 285870213051353865 % 18446744073709551616 / 288230376151711744 : Nat) : Int) := by
    rw [show min (58 : Int).toNat IntKind.u64.bits = 58 from rfl]; omega
  rw [iEq_f (by omega), cond_false, e0, e1, e2, e3, need_of (nIn_of ⟨by omega, by omega⟩), Int.toNat_natCast, hd.2, w64 (by omega)]
theorem first_eq {x : Nat} (hx : x < 18446744073709551616) : bits_Set_First (x : Int) = some ((bt x).headD (-1)) := by
  unfold bits_Set_First
  by_cases h0 : x = 0
  · subst h0
    rw [iEq_t (show ((0 : Nat) : Int) = 0 from rfl), cond_true]
    unfold bt
    rw [ls_zero]; rfl
  · rw [iEq_f (by omega), cond_false, tz64 hx h0, bind_some']
    unfold bt
    rw [ls_pop 64 0 x h0 hx, Nat.zero_add]
    rfl
theorem pop_eq {x : Nat} (hx : x < 18446744073709551616) (h0 : x ≠ 0) : Go.bits .and .u64 (x : Int) (IntKind.u64.wrap ((x : Int) - 1)) = ((x &&& (x - 1) : Nat) : Int) ∧ x &&& (x - 1) < 18446744073709551616 ∧ bt x = (bt x).headD (-1) :: bt (x &&& (x - 1)) := by
  refine ⟨?_, Nat.lt_of_le_of_lt Nat.and_le_left hx, ?_⟩
  · rw [show (x : Int) - 1 = ((x - 1 : Nat) : Int) by omega, wu (by omega), bits_and_u64_nat _ _ hx (by omega)]
  · unfold bt
    conv => lhs; rw [ls_pop 64 0 x h0 hx]
    rw [ls_pop 64 0 x h0 hx]
    rfl
theorem bt_nil {x : Nat} : bt x = [] → x < 18446744073709551616 → x = 0 := fun h hx => by
  by_cases h0 : x = 0
  · exact h0
  · have := (pop_eq hx h0).2.2
    rw [h] at this
    cases this
theorem bt_zero : bt 0 = [] := ls_zero 64 0
theorem bt_len (x : Nat) : (bt x).length = pc 64 x := ls_len 64 0 x
theorem pc_le : ∀ k x, pc k x ≤ k
  | 0, x => Nat.le_refl _
  | k + 1, x => by rw [pc]; have := pc_le k (x / 2); omega
theorem bt_le (x : Nat) : (bt x).length ≤ 64 := by rw [bt_len]; exact pc_le 64 x
theorem count_eq {x : Nat} (hx : x < 18446744073709551616) : bits_Set_Count (x : Int) = some ((bt x).length : Int) := by
  unfold bits_Set_Count
  rw [count64 hx, bind_some', cnt_pc, bt_len]
theorem list_l4 : ∀ (k f x : Nat) (acc : List Int), (bt x).length = k → k < f → x < 18446744073709551616 → acc.length + k ≤ 1000 → bits_Set_List_l4 f ((x : Int), acc) = some (acc ++ bt x)
  | k, 0, x, acc, hk, hf, hx, ha => by omega
  | 0, f + 1, x, acc, hk, hf, hx, ha => by
    have h0 := bt_nil (List.eq_nil_of_length_eq_zero hk) hx
    subst h0
    rw [bits_Set_List_l4]
    dsimp only
    rw [iNe_f (show ((0 : Nat) : Int) = 0 from rfl), cond_false, bt_zero, List.append_nil]
  | k + 1, f + 1, x, acc, hk, hf, hx, ha => by
    have h0 : x ≠ 0 := fun h => by subst h; rw [bt_zero] at hk; cases hk
    obtain ⟨h1, h2, h3⟩ := pop_eq hx h0
    rw [bits_Set_List_l4]
    dsimp only
    rw [iNe_t (by omega), cond_true, first_eq hx, bind_some', need_of (nCap_of (by simp; omega)), h1]
    rw [h3, List.length_cons] at hk
    rw [list_l4 k f _ _ (by omega) (by omega) h2 (by simp; omega)]
    conv => rhs; rw [h3]
    simp
theorem List_eq {x : Nat} (hx : x < 18446744073709551616) : bits_Set_List (x : Int) = some (bt x) := by
  unfold bits_Set_List
  have := bt_le x
  rw [count_eq hx, bind_some', need_of (nMk_of ⟨by omega, by omega, by omega⟩), list_l4 _ fuel x [] rfl (by have := fuel_big; omega) hx (by simp; omega), List.nil_append]
theorem bt_rng {x : Nat} {v : Int} (h : v ∈ bt x) : 0 ≤ v ∧ v < 64 := by
  obtain ⟨i, h1, h2, h3⟩ := (ls_mem 64 0 x v).1 h
  omega
theorem from_lt {x m : Nat} (hx : x < 18446744073709551616) : x >>> m <<< m < 18446744073709551616 := by
  rw [Nat.shiftLeft_eq, Nat.shiftRight_eq_div_pow]
  exact Nat.lt_of_le_of_lt (Nat.div_mul_le_self x (2 ^ m)) hx
theorem one_eq {a : Int} (h : 0 ≤ a ∧ a ≤ 63) : bits_one a = some ((2 ^ a.toNat : Nat) : Int) := by
  unfold bits_one
  have hp : 2 ^ a.toNat < 2 ^ 64 := Nat.pow_lt_pow_right (by decide) (by omega)
  have hm : min a.toNat IntKind.u64.bits = a.toNat := Nat.min_eq_left (by show a.toNat ≤ 64; omega)
  rw [show (iLt a 0 || iLt 63 a) = false by simp only [Bool.or_eq_false_iff, iLt_iff']; omega, cond_false, need_of (nNn_of h.1), hm, Int.one_mul, show ((2 : Int) ^ a.toNat) = ((2 ^ a.toNat : Nat) : Int) by simp, wu hp]
theorem one_no {a : Int} (h : ¬ (0 ≤ a ∧ a ≤ 63)) : bits_one a = some 0 := by
  unfold bits_one
  rw [show (iLt a 0 || iLt 63 a) = true by rw [Bool.or_eq_true, iLt_iff, iLt_iff]; omega, cond_true]
def inR (a : Int) : Bool := decide (0 ≤ a ∧ a ≤ 63)
theorem and_pow (x i : Nat) : x &&& 2 ^ i = if x.testBit i then 2 ^ i else 0 := by
  apply Nat.eq_of_testBit_eq
  intro j
  rw [Nat.testBit_and, Nat.testBit_two_pow]
  by_cases hj : i = j
  · subst hj
    cases h : x.testBit i with
    | true => rw [if_pos rfl, Nat.testBit_two_pow]; rfl
    | false => rw [if_neg Bool.false_ne_true]; simp
  · rw [decide_eq_false hj, Bool.and_false]
    split
    · rw [Nat.testBit_two_pow, decide_eq_false hj]
    · simp
theorem has_l3 (a : Int) (ha : a ≤ 63) : ∀ (n f x : Nat) (i : Int), i + n = a → 0 ≤ i → n < f → x < 18446744073709551616 → ref02_Has_l3 a f ((x : Int), i) = some (x.testBit n)
  | n, 0, x, i, hi, h0, hf, hx => by omega
  | 0, f + 1, x, i, hi, h0, hf, hx => by
    rw [ref02_Has_l3]
    dsimp only
    rw [iLt_f (by omega), cond_false, tmod2, Nat.testBit_zero]
    congr 1
    unfold iEq
    congr 1
    rw [eq_iff_iff]
    omega
  | n + 1, f + 1, x, i, hi, h0, hf, hx => by
    rw [ref02_Has_l3]
    dsimp only
    rw [iLt_t (by omega), cond_true, tdiv2, wu (by omega), w64 (by omega), has_l3 a ha n f (x / 2) (i + 1) (by omega) (by omega) (by omega) (by omega), Nat.testBit_succ]
theorem ref_Has {x : Nat} (hx : x < 18446744073709551616) (a : Int) : ref02_Has (x : Int) a = some (inR a && x.testBit a.toNat) := by
  unfold ref02_Has inR
  by_cases h : 0 ≤ a ∧ a ≤ 63
  · rw [show (iLt a 0 || iLt 63 a) = false by simp only [Bool.or_eq_false_iff, iLt_iff']; omega, cond_false, decide_eq_true h, Bool.true_and, has_l3 a h.2 a.toNat fuel x 0 (by omega) (by omega) (by have := fuel_big; omega) hx]
  · rw [show (iLt a 0 || iLt 63 a) = true by rw [Bool.or_eq_true, iLt_iff, iLt_iff]; omega, cond_true, decide_eq_false h, Bool.false_and]
theorem power_l2 (a : Int) (ha : a ≤ 63) : ∀ (n f p : Nat) (i : Int), i + n = a → 0 ≤ i → n < f → p * 2 ^ n < 18446744073709551616 → ref02_power_l2 a f ((p : Int), i) = some ((p * 2 ^ n : Nat) : Int)
  | n, 0, p, i, hi, h0, hf, hp => by omega
  | 0, f + 1, p, i, hi, h0, hf, hp => by
    rw [ref02_power_l2]
    dsimp only
    rw [iLt_f (by omega), cond_false, Nat.pow_zero, Nat.mul_one]
  | n + 1, f + 1, p, i, hi, h0, hf, hp => by
    rw [ref02_power_l2]
    dsimp only
    have e : p * 2 ^ (n + 1) = p * 2 * 2 ^ n := by rw [Nat.pow_succ, Nat.mul_comm (2 ^ n), Nat.mul_assoc]
    have hpos := Nat.two_pow_pos n
    have hle : p * 2 ≤ p * 2 * 2 ^ n := Nat.le_mul_of_pos_right _ hpos
    rw [iLt_t (by omega), cond_true, show (p : Int) * 2 = ((p * 2 : Nat) : Int) by omega, wu (by omega), w64 (by omega), power_l2 a ha n f (p * 2) (i + 1) (by omega) (by omega) (by omega) (by omega), e]
theorem power_eq {a : Int} (h : 0 ≤ a ∧ a ≤ 63) : ref02_power a = some ((2 ^ a.toNat : Nat) : Int) := by
  unfold ref02_power
  have hp : 2 ^ a.toNat < 2 ^ 64 := Nat.pow_lt_pow_right (by decide) (by omega)
  have := power_l2 a h.2 a.toNat fuel 1 0 (by omega) (by omega) (by have := fuel_big; omega) (by omega)
  rw [show (1 : Int) = ((1 : Nat) : Int) from rfl, this, Nat.one_mul]
/-- A set with a number, without it. -/
def withN (x : Nat) (a : Int) : Nat := if inR a then x ||| 2 ^ a.toNat else x
def lessN (x : Nat) (a : Int) : Nat := if inR a then (if x.testBit a.toNat then x - 2 ^ a.toNat else x) else x
theorem withN_lt {x : Nat} (hx : x < 18446744073709551616) (a : Int) : withN x a < 18446744073709551616 := by
  unfold withN inR
  by_cases h : 0 ≤ a ∧ a ≤ 63
  · rw [if_pos (decide_eq_true h)]
    exact Nat.or_lt_two_pow (n := 64) hx (Nat.pow_lt_pow_right (by decide) (by omega))
  · rw [if_neg (by simpa using h)]; exact hx
theorem or_one {x : Nat} (hx : x < 18446744073709551616) (a : Int) : (bits_one a).bind (fun x1 : Int => some (Go.bits .or .u64 (x : Int) x1)) = some ((withN x a : Nat) : Int) := by
  unfold withN inR
  by_cases h : 0 ≤ a ∧ a ≤ 63
  · have hp : 2 ^ a.toNat < 2 ^ 64 := Nat.pow_lt_pow_right (by decide) (by omega)
    rw [one_eq h, bind_some', bits_or_u64_nat _ _ hx hp, if_pos (decide_eq_true h)]
  · have := bits_or_u64_nat x 0 hx (by decide)
    rw [Nat.or_zero] at this
    rw [one_no h, bind_some', show (0 : Int) = ((0 : Nat) : Int) from rfl, this, if_neg (by simpa using h)]
theorem SWith_eq {x : Nat} (hx : x < 18446744073709551616) (a : Int) : bits_Set_With (x : Int) a = some ((withN x a : Nat) : Int) := or_one hx a
theorem ref_With {x : Nat} (hx : x < 18446744073709551616) (a : Int) : ref02_With (x : Int) a = some ((withN x a : Nat) : Int) := by
  have hlt := withN_lt hx a
  unfold ref02_With
  unfold withN inR at *
  by_cases h : 0 ≤ a ∧ a ≤ 63
  · rw [if_pos (decide_eq_true h)] at hlt ⊢
    rw [show (iLt a 0 || iLt 63 a) = false by simp only [Bool.or_eq_false_iff, iLt_iff']; omega, Bool.not_false, cond_true, ref_Has hx, bind_some', Bool.false_or]
    unfold inR
    rw [decide_eq_true h, Bool.true_and]
    have ho := or_pow a.toNat x
    cases hb : x.testBit a.toNat with
    | true => rw [hb, if_pos rfl] at ho; rw [cond_true, ho]
    | false =>
      rw [hb, if_neg Bool.false_ne_true] at ho
      rw [cond_false, power_eq h, bind_some', ← Int.natCast_add, wu (by omega), ho]
  · rw [show (iLt a 0 || iLt 63 a) = true by rw [Bool.or_eq_true, iLt_iff, iLt_iff]; omega, Bool.not_true, cond_false, bind_some', Bool.true_or, cond_true, if_neg (by simpa using h)]
theorem bit_le {x i : Nat} (h : x.testBit i = true) : 2 ^ i ≤ x := by
  apply Nat.le_of_not_lt
  intro hlt
  rw [Nat.testBit_lt_two_pow hlt] at h
  cases h
def ofN (x : Nat) : List Int → Nat
  | [] => x
  | a :: t => ofN (withN x a) t
theorem of_l2 (l : List Int) (hl : l.length ≤ 1000) : ∀ (n i f x : Nat), i + n = l.length → n < f → x < 18446744073709551616 → bits_Of_l2 l f ((x : Int), (i : Int)) = some ((ofN x (l.drop i) : Nat) : Int)
  | n, i, 0, x, hi, hf, hx => by omega
  | 0, i, f + 1, x, hi, hf, hx => by
    rw [bits_Of_l2]
    dsimp only
    rw [iLt_f (by omega), cond_false, List.drop_eq_nil_of_le (by omega)]
    rfl
  | n + 1, i, f + 1, x, hi, hf, hx => by
    have e : l.drop i = l.getD i default :: l.drop (i + 1) := by
      rw [List.drop_eq_getElem_cons (by omega)]
      simp [List.getD_eq_getElem?_getD, show i < l.length by omega]
    have ho := or_one hx (l.getD i default)
    rw [bits_Of_l2]
    dsimp only
    rw [iLt_t (by omega), cond_true, need_of (nIn_of ⟨by omega, by omega⟩), Int.toNat_natCast, e, ofN, w64 (by omega), show (i : Int) + 1 = ((i + 1 : Nat) : Int) by omega, ← of_l2 l hl n (i + 1) f _ (by omega) (by omega) (withN_lt hx _)]
    cases h1 : bits_one (l.getD i default) with
    | none => rw [h1] at ho; cases ho
    | some y =>
      rw [h1, bind_some'] at ho
      rw [bind_some', Option.some.inj ho]
theorem Of_eq (l : List Int) (hl : l.length ≤ 1000) : bits_Of l = some ((ofN 0 l : Nat) : Int) := by
  unfold bits_Of
  rw [show (0 : Int) = ((0 : Nat) : Int) from rfl, of_l2 l hl l.length 0 fuel 0 (by omega) (by have := fuel_big; omega) (by decide), List.drop_zero]
end LJ