/- The laws BitsTells, BitsWalk, BitsMoves, plainly. -/
import Derived.Test.YtjahbgdjejgkpaaDoorL02C
namespace LJ
open Go Go.RowKit
set_option linter.unusedVariables false
set_option linter.unusedSimpArgs false

theorem iNe_self (a : Int) : iNe a a = false := iNe_f rfl
theorem iEq_self (a : Int) : iEq a a = true := iEq_t rfl
theorem next_all (x : Nat) : (bt x).filter (fun v => decide (-1 < v)) = bt x := List.filter_eq_self.2 fun v hv => by have := bt_rng hv; simp; omega
theorem pick_in {l : List Int} {a : Int} (h : 0 ≤ a ∧ a < l.length) : (l.drop a.toNat).headD (-1) = l.getD a.toNat default := by
  have e : l.drop a.toNat = l.getD a.toNat default :: l.drop (a.toNat + 1) := by
    rw [List.drop_eq_getElem_cons (by omega)]
    simp [List.getD_eq_getElem?_getD, show a.toNat < l.length by omega]
  rw [e]; rfl
theorem pick_out {l : List Int} {a : Int} (h : ¬ (0 ≤ a ∧ a < l.length)) : cond (iLt a 0) (-1) ((l.drop a.toNat).headD (-1)) = -1 := by
  by_cases h0 : a < 0
  · rw [iLt_t h0]; rfl
  · rw [iLt_f (by omega), cond_false, List.drop_eq_nil_of_le (by omega)]; rfl
theorem BitsTells_pure {s : Int} (hs : inU64 s) (a : Int) (l : List Int) : law02_BitsTells s a l = some true := by
  obtain ⟨x, rfl⟩ : ∃ x : Nat, s = x := ⟨s.toNat, by have := hs.1; omega⟩
  have hx : x < 18446744073709551616 := by have := hs.2; omega
  have hb := bt_le x
  unfold law02_BitsTells
  have h1 := ref_Next hx (-1)
  rw [next_all] at h1
  have hsame := same2 (bt x) (by omega)
  have tail : ∀ M : List Int, M.length ≤ 200 → need (nCap ((([] : List Int).length + M.length) * 8)) ((bits_Of (([] : List Int) ++ M)).bind fun (x23 : Int) => (ref02_Of M).bind fun (x24 : Int) => (cond (iEq x23 x24) (law02_lives) (some default)).bind fun (x25 : Bool) => some ((iEq x23 x24) && x25)) = some true := fun M hM => by
    rw [need_of (nCap_of (by simp; omega)), List.nil_append, Of_eq M (by omega), ref_Of M (by omega), bind_some', bind_some', iEq_self, lives02]; rfl
  have hin : 0 ≤ a ∧ a < (bt x).length ∨ ¬ (0 ≤ a ∧ a < (bt x).length) := Classical.em _
  simp only [ref_List hx, bind_some', Has_eq hx, ref_Has hx, SWith_eq hx, ref_With hx, Without_eq hx, ref_Without hx, count_eq hx, first_eq hx, h1, ref_Next hx, Next_eq hx, Pick_eq hx, List_eq hx, hsame, beq_self_eq_true, Bool.not_true, Bool.not_false, iNe_self, Bool.or_false, Bool.false_or, cond_true, cond_false]
  by_cases hl : 200 < (l.length : Int)
  · have ht : ((l.take (200 : Int).toNat).drop (0 : Int).toNat).length ≤ 200 := by
      rw [List.length_drop, List.length_take]; show min 200 _ - 0 ≤ 200; omega
    rw [iLt_t hl, cond_true, need_of (nSl_of ⟨by decide, by decide, by omega⟩)]
    rcases hin with h | h
    · rw [show (iLe 0 a && iLt a ((bt x).length : Int)) = true by rw [Bool.and_eq_true, iLe_iff, iLt_iff]; exact h, cond_true, need_of (nIn_of h), iLt_f (by omega), cond_false, pick_in h, iNe_self, cond_false]
      exact tail _ ht
    · rw [show (iLe 0 a && iLt a ((bt x).length : Int)) = false by rw [Bool.and_eq_false_iff, iLe_iff', iLt_iff']; omega, cond_false, pick_out h, iNe_self, cond_false]
      exact tail _ ht
  · rw [iLt_f (by omega), cond_false]
    rcases hin with h | h
    · rw [show (iLe 0 a && iLt a ((bt x).length : Int)) = true by rw [Bool.and_eq_true, iLe_iff, iLt_iff]; exact h, cond_true, need_of (nIn_of h), iLt_f (by omega), cond_false, pick_in h, iNe_self, cond_false]
      exact tail _ (by omega)
    · rw [show (iLe 0 a && iLt a ((bt x).length : Int)) = false by rw [Bool.and_eq_false_iff, iLe_iff', iLt_iff']; omega, cond_false, pick_out h, iNe_self, cond_false]
      exact tail _ (by omega)

/-! ### From one to the next -/
theorem ls_sorted : ∀ k n x, (ls k n x).Pairwise (· < ·)
  | 0, n, x => List.Pairwise.nil
  | k + 1, n, x => by
    rw [ls]
    split
    · refine List.Pairwise.cons (fun v hv => ?_) (ls_sorted k (n + 1) (x / 2))
      obtain ⟨i, h1, h2, h3⟩ := (ls_mem k (n + 1) (x / 2) v).1 hv
      omega
    · exact ls_sorted k (n + 1) (x / 2)
theorem above : ∀ (l : List Int) (i : Nat), l.Pairwise (· < ·) → i < l.length → (l.filter fun v => decide (l.getD i default < v)) = l.drop (i + 1)
  | [], i, h, hi => by simp at hi
  | a :: t, 0, h, hi => by
    rw [List.pairwise_cons] at h
    have e : (a :: t).getD 0 default = a := rfl
    rw [e, List.filter_cons_of_neg (by simp), List.drop_succ_cons, List.drop_zero]
    exact List.filter_eq_self.2 fun v hv => by simpa using h.1 v hv
  | a :: t, i + 1, h, hi => by
    rw [List.pairwise_cons] at h
    have e : (a :: t).getD (i + 1) default = t.getD i default := rfl
    have hi' : i < t.length := by simpa using hi
    have hm : t.getD i default ∈ t := by
      rw [List.getD_eq_getElem?_getD, List.getElem?_eq_getElem hi']
      exact List.getElem_mem _
    have := h.1 _ hm
    have hneg : ¬ ((fun v : Int => decide (t.getD i default < v)) a = true) := by
      show ¬ (decide (t.getD i default < a) = true)
      rw [decide_eq_true_eq]; omega
    have hf := List.filter_cons_of_neg (p := fun v : Int => decide (t.getD i default < v)) (l := t) hneg
    rw [e, hf, List.drop_succ_cons]
    exact above t i h.2 hi'
theorem drop_cons2 {l : List Int} {i : Nat} (h : i < l.length) : l.drop i = l.getD i default :: l.drop (i + 1) := by
  rw [List.drop_eq_getElem_cons h]
  simp [List.getD_eq_getElem?_getD, h]
theorem walk_l6 {x : Nat} (hx : x < 18446744073709551616) {K : Int → Option Bool} : ∀ (n i f : Nat), i + n = (bt x).length → n < f → law02_BitsWalk_l6 (x : Int) (bt x) K f (((bt x).drop i).headD (-1), (i : Int)) = K ((bt x).length : Int)
  | n, i, 0, hi, hf => by omega
  | 0, i, f + 1, hi, hf => by
    have hb := bt_le x
    rw [law02_BitsWalk_l6]
    dsimp only
    rw [List.drop_eq_nil_of_le (by omega), List.headD_nil, iLe_f (by decide), Bool.false_and, cond_false, show i = (bt x).length by omega]
  | n + 1, i, f + 1, hi, hf => by
    have hb := bt_le x
    have hd := drop_cons2 (l := bt x) (i := i) (by omega)
    have hm : (bt x).getD i default ∈ bt x := by
      rw [List.getD_eq_getElem?_getD, List.getElem?_eq_getElem (by omega)]
      exact List.getElem_mem _
    have hr := bt_rng hm
    rw [law02_BitsWalk_l6]
    dsimp only
    have hh : ((bt x).drop i).headD (-1) = (bt x).getD i default := by rw [hd]; rfl
    have hp := Pick_eq hx (i : Int)
    rw [iLt_f (show (0 : Int) ≤ (i : Int) by omega), cond_false, Int.toNat_natCast, hh] at hp
    rw [hh, iLe_t hr.1, iLt_t (by omega), Bool.and_self, cond_true, iLe_f (show (i : Int) < ((bt x).length : Int) by omega), nIn_of (show (0 : Int) ≤ (i : Int) ∧ (i : Int) < ((bt x).length : Int) by omega), Bool.or_true, need_of rfl, Int.toNat_natCast, iNe_self, Bool.or_self, Bool.not_false, cond_true, hp, bind_some', iNe_self, Bool.or_self, cond_false, Next_eq hx, bind_some', above (bt x) i (ls_sorted 64 0 x) (by omega), w64 (by omega), show (i : Int) + 1 = ((i + 1 : Nat) : Int) by omega]
    exact walk_l6 hx n (i + 1) f (by omega) (by omega)
theorem BitsWalk_pure {s : Int} (hs : inU64 s) : law02_BitsWalk s = some true := by
  obtain ⟨x, rfl⟩ : ∃ x : Nat, s = x := ⟨s.toNat, by have := hs.1; omega⟩
  have hx : x < 18446744073709551616 := by have := hs.2; omega
  have hb := bt_le x
  unfold law02_BitsWalk
  rw [first_eq hx, bind_some', ref_List hx, bind_some', withK]
  have := walk_l6 hx (K := fun s4 : Int => (cond (iEq s4 ((bt x).length : Int)) (bits_Set_Pick (x : Int) s4) (some default)).bind fun (x12 : Int) => (cond ((iEq s4 ((bt x).length : Int)) && (iEq x12 (-1))) (law02_lives) (some default)).bind fun (x13 : Bool) => some (((iEq s4 ((bt x).length : Int)) && (iEq x12 (-1))) && x13)) (bt x).length 0 fuel (by omega) (by have := fuel_big; omega)
  rw [List.drop_zero] at this
  refine Eq.trans this ?_
  rw [iEq_self, cond_true, Pick_eq hx, bind_some', pick_out (by omega), iEq_self, Bool.and_self, cond_true, lives02]
  rfl

/-! ### Moved -/
theorem i64_and63 (n : Int) : Go.bits .and .i64 n 63 = n % 64 := by
  have h63 : (BitVec.ofInt 64 63).toNat = 2 ^ 6 - 1 := by decide
  have key : (BitVec.ofInt 64 n &&& BitVec.ofInt 64 63).toNat = (n % ((2 ^ 64 : Nat) : Int)).toNat % 2 ^ 6 := by
    rw [BitVec.toNat_and, BitVec.toNat_ofInt, h63, Nat.and_two_pow_sub_one_eq_mod]
  show IntKind.i64.wrap ((BitVec.ofInt 64 n &&& BitVec.ofInt 64 63).toNat : Nat) = n % 64
  rw [key, IntKind.wrap_i64]
  omega
theorem rot_or {k x : Nat} (hk : k < 64) (hx : x < 18446744073709551616) : (x * 2 ^ k % 18446744073709551616) ||| x / 2 ^ (64 - k) = rot k x := by
  have h1 := (rot_lt hk hx).1
  have e : (18446744073709551616 : Nat) = 2 ^ (64 - k) * 2 ^ k := by rw [← Nat.pow_add, show 64 - k + k = 64 by omega]
  have e2 : x * 2 ^ k % 18446744073709551616 = 2 ^ k * (x % 2 ^ (64 - k)) := by
    rw [e, Nat.mul_mod_mul_right, Nat.mul_comm]
  rw [e2, ← Nat.two_pow_add_eq_or_of_lt h1]
  unfold rot
  omega
theorem Up_eq {x : Nat} (hx : x < 18446744073709551616) (n : Int) : bits_Set_Up (x : Int) n = some ((rot (n % 64).toNat x : Nat) : Int) := by
  obtain ⟨k, hk⟩ : ∃ k : Nat, n % 64 = k := ⟨(n % 64).toNat, by omega⟩
  have hk64 : k < 64 := by omega
  have hand : Go.bits .and .u64 (k : Int) 63 = (k : Int) := by
    have := bits_and_u64_nat k 63 (by omega) (by decide)
    rw [show ((63 : Nat) : Int) = 63 from rfl] at this
    rw [this, show (63 : Nat) = 2 ^ 6 - 1 from rfl, Nat.and_two_pow_sub_one_eq_mod, Nat.mod_eq_of_lt (by omega)]
  unfold bits_Set_Up bits_RotateLeft64
  rw [i64_and63, hk, wu (by omega), hand, show (64 : Int) - (k : Int) = ((64 - k : Nat) : Int) by omega, wu (by omega), need_of (nNn_of (by omega)), need_of (nNn_of (by omega)), bind_some', Int.toNat_natCast, Int.toNat_natCast,
    show min k IntKind.u64.bits = k from Nat.min_eq_left (by show k ≤ 64; omega), show min (64 - k) IntKind.u64.bits = 64 - k from Nat.min_eq_left (by show 64 - k ≤ 64; omega)]
  have e1 : IntKind.u64.wrap ((x : Int) * (2 : Int) ^ k) = ((x * 2 ^ k % 18446744073709551616 : Nat) : Int) := by
    rw [IntKind.wrap_u64, show ((2 : Int) ^ k) = ((2 ^ k : Nat) : Int) by simp, ← Int.natCast_mul]; omega
  have e2 : (x : Int) / (2 : Int) ^ (64 - k) = ((x / 2 ^ (64 - k) : Nat) : Int) := by simp
  rw [e1, e2, bits_or_u64_nat _ _ (Nat.mod_lt _ (by decide)) (Nat.lt_of_le_of_lt (Nat.div_le_self _ _) hx), rot_or hk64 hx]
/-- All moved, one by one. -/
def upN (k : Nat) (s : Nat) : List Int → Nat
  | [] => s
  | v :: t => upN k (s ||| 2 ^ ((v.toNat + k) % 64)) t
theorem upN_lt (k : Nat) : ∀ (l : List Int) (s : Nat), s < 2 ^ 64 → upN k s l < 2 ^ 64
  | [], s, h => h
  | v :: t, s, h => upN_lt k t _ (Nat.or_lt_two_pow h (Nat.pow_lt_pow_right (by decide) (Nat.mod_lt _ (by decide))))
theorem upN_bit (k : Nat) : ∀ (l : List Int) (s j : Nat), (upN k s l).testBit j = (s.testBit j || l.any fun v => decide ((v.toNat + k) % 64 = j))
  | [], s, j => by simp [upN]
  | v :: t, s, j => by
    rw [upN, upN_bit k t, Nat.testBit_or, Nat.testBit_two_pow, List.any_cons, Bool.or_assoc]
theorem upN_rot {x k : Nat} (hx : x < 18446744073709551616) (hk : k < 64) : upN k 0 (bt x) = rot k x := by
  apply Nat.eq_of_testBit_eq
  intro j
  by_cases hj : j < 64
  · rw [upN_bit, rot_bit hk hx j hj, Nat.zero_testBit, Bool.false_or, Bool.eq_iff_iff, List.any_eq_true]
    constructor
    · rintro ⟨v, hv, he⟩
      obtain ⟨i, h1, h2, h3⟩ := (ls_mem 64 0 x v).1 hv
      rw [decide_eq_true_eq] at he
      have : (j + 64 - k) % 64 = i := by omega
      rw [this]; exact h3
    · intro h
      refine ⟨(((j + 64 - k) % 64 : Nat) : Int), (ls_mem 64 0 x _).2 ⟨(j + 64 - k) % 64, by omega, by omega, h⟩, ?_⟩
      rw [decide_eq_true_eq, Int.toNat_natCast]
      omega
  · have h1 := upN_lt k (bt x) 0 (by decide)
    have h2 := (rot_lt hk hx).2
    rw [Nat.testBit_lt_two_pow (Nat.lt_of_lt_of_le h1 (Nat.pow_le_pow_right (by decide) (by omega))), Nat.testBit_lt_two_pow (Nat.lt_of_lt_of_le h2 (Nat.pow_le_pow_right (by decide) (by omega)))]
theorem withN_up {s : Nat} {w : Int} {v : Int} {k : Nat} (hv : 0 ≤ v ∧ v < 64) (hk : k < 64) (hw : w = v + k) : withN s (Int.tmod w 64) = s ||| 2 ^ ((v.toNat + k) % 64) := by
  subst hw
  have e : Int.tmod (v + k) 64 = (((v.toNat + k) % 64 : Nat) : Int) := by rw [Int.tmod_eq_emod_of_nonneg (by omega)]; omega
  rw [e]
  unfold withN inR
  rw [if_pos (decide_eq_true (by omega)), Int.toNat_natCast]
theorem tm (n : Int) : ∃ q, n = 64 * q + Int.tmod n 64 ∧ -64 < Int.tmod n 64 ∧ Int.tmod n 64 < 64 := by
  refine ⟨n.tdiv 64, (Int.mul_tdiv_add_tmod n 64).symm, ?_, ?_⟩
  · have := Int.tmod_lt_of_pos (-n) (b := 64) (by decide)
    rw [Int.neg_tmod] at this
    omega
  · exact Int.tmod_lt_of_pos n (by decide)
theorem up_l4 {x : Nat} (a : Int) (k : Nat) (hk : k < 64) (ha : Int.tmod a 64 + 64 = k) : ∀ (n i f s : Nat), i + n = (bt x).length → n < f → s < 18446744073709551616 → ref02_Up_l4 a (bt x) f ((s : Int), (i : Int)) = some ((upN k s ((bt x).drop i) : Nat) : Int)
  | n, i, 0, s, hi, hf, hs => by omega
  | 0, i, f + 1, s, hi, hf, hs => by
    rw [ref02_Up_l4]
    dsimp only
    rw [iLt_f (by omega), cond_false, List.drop_eq_nil_of_le (by omega)]; rfl
  | n + 1, i, f + 1, s, hi, hf, hs => by
    have hb := bt_le x
    have hm : (bt x).getD i default ∈ bt x := by
      rw [List.getD_eq_getElem?_getD, List.getElem?_eq_getElem (by omega)]
      exact List.getElem_mem _
    have hr := bt_rng hm
    rw [ref02_Up_l4]
    dsimp only
    rw [iLt_t (by omega), cond_true, need_of (nIn_of ⟨by omega, by omega⟩), Int.toNat_natCast, ref_With hs, bind_some', ha, w64 (a := (k : Int)) (by omega), w64 (a := _ + (k : Int)) (by omega), withN_up hr hk rfl, w64 (by omega), show (i : Int) + 1 = ((i + 1 : Nat) : Int) by omega, up_l4 a k hk ha n (i + 1) f _ (by omega) (by omega) (Nat.or_lt_two_pow (n := 64) hs (Nat.pow_lt_pow_right (by decide) (Nat.mod_lt _ (by decide)))), drop_cons2 (l := bt x) (i := i) (by omega), upN]
theorem up_l10 {x : Nat} (a : Int) (k : Nat) (hk : k < 64) (ha : Int.tmod a 64 = k) : ∀ (n i f s : Nat), i + n = (bt x).length → n < f → s < 18446744073709551616 → ref02_Up_l10 a (bt x) f ((s : Int), (i : Int)) = some ((upN k s ((bt x).drop i) : Nat) : Int)
  | n, i, 0, s, hi, hf, hs => by omega
  | 0, i, f + 1, s, hi, hf, hs => by
    rw [ref02_Up_l10]
    dsimp only
    rw [iLt_f (by omega), cond_false, List.drop_eq_nil_of_le (by omega)]; rfl
  | n + 1, i, f + 1, s, hi, hf, hs => by
    have hb := bt_le x
    have hm : (bt x).getD i default ∈ bt x := by
      rw [List.getD_eq_getElem?_getD, List.getElem?_eq_getElem (by omega)]
      exact List.getElem_mem _
    have hr := bt_rng hm
    rw [ref02_Up_l10]
    dsimp only
    rw [iLt_t (by omega), cond_true, need_of (nIn_of ⟨by omega, by omega⟩), Int.toNat_natCast, ref_With hs, bind_some', ha, w64 (a := _ + (k : Int)) (by omega), withN_up hr hk rfl, w64 (by omega), show (i : Int) + 1 = ((i + 1 : Nat) : Int) by omega, up_l10 a k hk ha n (i + 1) f _ (by omega) (by omega) (Nat.or_lt_two_pow (n := 64) hs (Nat.pow_lt_pow_right (by decide) (Nat.mod_lt _ (by decide)))), drop_cons2 (l := bt x) (i := i) (by omega), upN]
theorem ref_Up {x : Nat} (hx : x < 18446744073709551616) (a : Int) : ref02_Up (x : Int) a = some ((rot (a % 64).toNat x : Nat) : Int) := by
  unfold ref02_Up
  have hb := bt_le x
  obtain ⟨q, h1, h2, h3⟩ := tm a
  obtain ⟨k, hk⟩ : ∃ k : Nat, a % 64 = k := ⟨(a % 64).toNat, by omega⟩
  rw [hk, Int.toNat_natCast, ← upN_rot hx (by omega), ref_List hx, bind_some', bind_some']
  by_cases h : Int.tmod a 64 < 0
  · rw [iLt_t h, cond_true, show (0 : Int) = ((0 : Nat) : Int) from rfl, up_l4 a k (by omega) (by omega) (bt x).length 0 fuel 0 (by omega) (by have := fuel_big; omega) (by decide), List.drop_zero]
  · rw [iLt_f (by omega), cond_false, show (0 : Int) = ((0 : Nat) : Int) from rfl, up_l10 a k (by omega) (by omega) (bt x).length 0 fuel 0 (by omega) (by have := fuel_big; omega) (by decide), List.drop_zero]
theorem rot_rot {x k m : Nat} (hx : x < 18446744073709551616) (hk : k < 64) (hm : m < 64) : rot m (rot k x) = rot ((k + m) % 64) x := by
  have h1 := (rot_lt hk hx).2
  have h2 := (rot_lt hm h1).2
  have hkm : (k + m) % 64 < 64 := Nat.mod_lt _ (by decide)
  have h3 := (rot_lt hkm hx).2
  apply Nat.eq_of_testBit_eq
  intro j
  by_cases hj : j < 64
  · rw [rot_bit hm h1 j hj, rot_bit hk hx _ (Nat.mod_lt _ (by decide)), rot_bit hkm hx j hj]
    congr 1
    omega
  · rw [Nat.testBit_lt_two_pow (Nat.lt_of_lt_of_le h2 (Nat.pow_le_pow_right (by decide) (by omega))), Nat.testBit_lt_two_pow (Nat.lt_of_lt_of_le h3 (Nat.pow_le_pow_right (by decide) (by omega)))]
theorem rot_zero (x : Nat) (hx : x < 18446744073709551616) : rot 0 x = x := by
  unfold rot
  rw [show 64 - 0 = 64 from rfl]
  omega
theorem BitsMoves_pure {s : Int} (hs : inU64 s) (a b : Int) : law02_BitsMoves s a b = some true := by
  obtain ⟨x, rfl⟩ : ∃ x : Nat, s = x := ⟨s.toNat, by have := hs.1; omega⟩
  have hx : x < 18446744073709551616 := by have := hs.2; omega
  obtain ⟨k, hk⟩ : ∃ k : Nat, a % 64 = k := ⟨(a % 64).toNat, by omega⟩
  obtain ⟨m, hm⟩ : ∃ m : Nat, b % 64 = m := ⟨(b % 64).toNat, by omega⟩
  obtain ⟨q, h1, h2, h3⟩ := tm a
  obtain ⟨r, g1, g2, g3⟩ := tm b
  have hk64 : k < 64 := by omega
  have hm64 : m < 64 := by omega
  have hr := (rot_lt hk64 hx).2
  have e1 : (Int.tmod a 64 + Int.tmod b 64) % 64 = (((k + m) % 64 : Nat) : Int) := by omega
  have e2 : (0 - Int.tmod a 64) % 64 = (((64 - k) % 64 : Nat) : Int) := by omega
  unfold law02_BitsMoves
  rw [Up_eq hx, bind_some', ref_Up hx, bind_some', iNe_self, cond_false, hk, Int.toNat_natCast, count_eq hr, bind_some', count_eq hx, bind_some', bt_len, bt_len, rot_pc hk64 hx, iNe_self, cond_false, bind_some', Up_eq hr, bind_some', hm, Int.toNat_natCast, rot_rot hx hk64 hm64, w64 (by omega), Up_eq hx, bind_some', e1, Int.toNat_natCast, iNe_self, cond_false, w64 (by omega), Up_eq hr, bind_some', e2, Int.toNat_natCast, rot_rot hx hk64 (Nat.mod_lt _ (by decide)), show (k + (64 - k) % 64) % 64 = 0 by omega, rot_zero x hx, iEq_self, cond_true, lives02]
  rfl
end LJ
