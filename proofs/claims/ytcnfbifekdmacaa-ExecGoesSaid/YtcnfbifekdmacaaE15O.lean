/- A program's copy. -/
import Derived.Test.YtcnfbifekdmacaaF14C
import Derived.Test.YtcnfbifekdmacaaK11B
namespace LJ
open Go Go.RowKit
set_option linter.unusedVariables false
set_option linter.unusedSimpArgs false

/-! ### Its copy -/
def ownW (W : List (List T_api_Need)) : List (List T_api_Need) := (W.take 6).map fun l => l.take 6
theorem own_l2 (W : List (List T_api_Need)) : ∀ (n i f : Nat) (acc : List (List T_api_Need)), i + n = min W.length 6 → n < f → acc.length = i → law09_Own_l2 W f ((i : Int), acc) = some (acc ++ ((W.take 6).drop i).map fun l => l.take 6)
  | n, i, 0, acc, hi, hf, ha => by omega
  | 0, i, f + 1, acc, hi, hf, ha => by
    rw [law09_Own_l2]
    dsimp only
    have : (iLt (i : Int) (W.length : Int) && iLt (i : Int) 6) = false := by
      rw [Bool.and_eq_false_iff, iLt_iff', iLt_iff']; omega
    rw [this, cond_false, List.drop_eq_nil_of_le (by simp; omega), List.map_nil, List.append_nil]
  | n + 1, i, f + 1, acc, hi, hf, ha => by
    rw [law09_Own_l2]
    dsimp only
    have hl : (W.take 6).drop i = W.getD i default :: (W.take 6).drop (i + 1) := by
      rw [getD_drop (W.take 6) i (by simp; omega)]
      congr 1
      rw [List.getD_eq_getElem?_getD, List.getD_eq_getElem?_getD, List.getElem?_take_of_lt (by omega)]
    rw [iLt_t (by omega), iLt_t (by omega), Bool.and_self, cond_true, need_of (nIn_of ⟨by omega, by omega⟩), w64 (by omega), show (i : Int) + 1 = ((i + 1 : Nat) : Int) by omega, Int.toNat_natCast, hl, List.map_cons]
    cases h6 : iLt 6 ((W.getD i default).length : Int) with
    | true =>
      rw [iLt_iff] at h6
      rw [cond_true, need_of (nSl_of ⟨by omega, by omega, by omega⟩), need_of (nCap_of (by simp; omega)), need_of (nCap_of (by simp; omega)), own_l2 W n (i + 1) f _ (by omega) (by omega) (by simp [ha])]
      simp
    | false =>
      rw [iLt_iff'] at h6
      rw [cond_false, need_of (nCap_of (by rw [List.length_nil]; omega)), need_of (nCap_of (by simp; omega)), own_l2 W n (i + 1) f _ (by omega) (by omega) (by simp [ha])]
      rw [List.take_of_length_le (l := W.getD i default) (by omega)]
      simp
theorem own09 (W : List (List T_api_Need)) : law09_Own W = some (ownW W) := by
  unfold law09_Own
  have := own_l2 W (min W.length 6) 0 fuel [] (by omega) (by have := fuel_big; omega) rfl
  rw [show (0 : Int) = ((0 : Nat) : Int) from rfl, this]
  rfl
def ownF (F : T_api_Func) : T_api_Func := ⟨F.Args, F.Locals, F.Code.take 250⟩
def ownP (p : T_api_Program) : T_api_Program := ⟨p.Decls.take 40, (p.Waits.take 40).map ownW, (p.Funcs.take 20).map ownF⟩
theorem take_drop {α : Type} [Inhabited α] (L : List α) (m i : Nat) (h : i < L.length) (hm : i < m) : (L.take m).drop i = L.getD i default :: (L.take m).drop (i + 1) := by
  rw [getD_drop (L.take m) i (by simp; omega)]
  congr 1
  rw [List.getD_eq_getElem?_getD, List.getD_eq_getElem?_getD, List.getElem?_take_of_lt hm]
theorem op_l19 {p : T_api_Program} {k : Nat} {G : List T_api_Func} {K : List T_api_Func → Option T_api_Program} (hk : k < p.Funcs.length) (hG : G.length ≤ 20) : ∀ (n i f : Nat) (acc : List T_api_Ins), i + n = min (p.Funcs.getD k default).Code.length 250 → n < f → acc.length = i →
    law10_Own_l19 p ((k : Int), G) K f ((i : Int), acc) = K (G ++ [⟨(p.Funcs.getD k default).Args, (p.Funcs.getD k default).Locals, acc ++ ((p.Funcs.getD k default).Code.take 250).drop i⟩])
  | n, i, 0, acc, hi, hf, ha => by omega
  | 0, i, f + 1, acc, hi, hf, ha => by
    rw [law10_Own_l19]
    dsimp only
    rw [need_of (nIn_of ⟨by omega, by omega⟩), Int.toNat_natCast]
    have : (iLt (i : Int) ((p.Funcs.getD k default).Code.length : Int) && iLt (i : Int) 250) = false := by
      rw [Bool.and_eq_false_iff, iLt_iff', iLt_iff']; omega
    rw [this, cond_false, need_of (nCap_of (by simp only [List.length_append, List.length_cons, List.length_nil]; omega)), List.drop_eq_nil_of_le (by rw [List.length_take]; omega), List.append_nil]
  | n + 1, i, f + 1, acc, hi, hf, ha => by
    rw [law10_Own_l19]
    dsimp only
    rw [need_of (nIn_of ⟨by omega, by omega⟩), Int.toNat_natCast, iLt_t (by omega), iLt_t (by omega), Bool.and_self, cond_true, need_of (nIn_of ⟨by omega, by omega⟩), need_of (nIn_of ⟨by omega, by omega⟩), need_of (nCap_of (by simp only [List.length_append, List.length_cons, List.length_nil]; omega)), w64 (by omega), show (i : Int) + 1 = ((i + 1 : Nat) : Int) by omega, op_l19 hk hG n (i + 1) f _ (by omega) (by omega) (by simp; omega), take_drop _ 250 i (by omega) (by omega), Int.toNat_natCast]
    simp
theorem op_l11 (p : T_api_Program) (D : List T_api_Decl) (W : List (List (List T_api_Need))) (x y : Int) : ∀ (n i f : Nat) (acc : List T_api_Func), i + n = min p.Funcs.length 20 → n < f → acc.length = i →
    law10_Own_l11 p (x, D) (y, W) f ((i : Int), acc) = some ⟨D, W, acc ++ ((p.Funcs.take 20).drop i).map ownF⟩
  | n, i, 0, acc, hi, hf, ha => by omega
  | 0, i, f + 1, acc, hi, hf, ha => by
    rw [law10_Own_l11]
    dsimp only
    have : (iLt (i : Int) (p.Funcs.length : Int) && iLt (i : Int) 20) = false := by
      rw [Bool.and_eq_false_iff, iLt_iff', iLt_iff']; omega
    rw [this, cond_false, List.drop_eq_nil_of_le (by rw [List.length_take]; omega), List.map_nil, List.append_nil]
  | n + 1, i, f + 1, acc, hi, hf, ha => by
    rw [law10_Own_l11]
    dsimp only
    have hN : nIn (i : Int) (p.Funcs.length : Int) = true := nIn_of ⟨by omega, by omega⟩
    rw [iLt_t (by omega), iLt_t (by omega), Bool.and_self, cond_true, withK_eq, need_of hN, need_of hN, take_drop _ 20 i (by omega) (by omega), List.map_cons]
    have := op_l19 (p := p) (k := i) (G := acc) (K := fun s14 => law10_Own_l11 p (x, D) (y, W) f (IntKind.i64.wrap ((i : Int) + 1), s14)) (by omega) (by omega) (min (p.Funcs.getD i default).Code.length 250) 0 fuel [] (by omega) (by have := fuel_big; omega) rfl
    refine Eq.trans this ?_
    rw [w64 (by omega), show (i : Int) + 1 = ((i + 1 : Nat) : Int) by omega, op_l11 p D W x y n (i + 1) f _ (by omega) (by omega) (by simp; omega)]
    simp [ownF]
theorem op_l7 (p : T_api_Program) (D : List T_api_Decl) (x : Int) : ∀ (n i f : Nat) (acc : List (List (List T_api_Need))), i + n = min p.Waits.length 40 → n < f → acc.length = i →
    law10_Own_l7 p (x, D) f ((i : Int), acc) = some ⟨D, acc ++ ((p.Waits.take 40).drop i).map ownW, (p.Funcs.take 20).map ownF⟩
  | n, i, 0, acc, hi, hf, ha => by omega
  | 0, i, f + 1, acc, hi, hf, ha => by
    rw [law10_Own_l7]
    dsimp only
    have : (iLt (i : Int) (p.Waits.length : Int) && iLt (i : Int) 40) = false := by
      rw [Bool.and_eq_false_iff, iLt_iff', iLt_iff']; omega
    rw [this, cond_false, List.drop_eq_nil_of_le (by rw [List.length_take]; omega), List.map_nil, List.append_nil]
    have h := op_l11 p D acc x (i : Int) (min p.Funcs.length 20) 0 fuel [] (by omega) (by have := fuel_big; omega) rfl
    rw [List.drop_zero, List.nil_append] at h
    exact h
  | n + 1, i, f + 1, acc, hi, hf, ha => by
    rw [law10_Own_l7]
    dsimp only
    rw [iLt_t (by omega), iLt_t (by omega), Bool.and_self, cond_true, need_of (nIn_of ⟨by omega, by omega⟩), Int.toNat_natCast, own09, bind_some', need_of (nCap_of (by simp only [List.length_append, List.length_cons, List.length_nil]; omega)), w64 (by omega), show (i : Int) + 1 = ((i + 1 : Nat) : Int) by omega, op_l7 p D x n (i + 1) f _ (by omega) (by omega) (by simp; omega), take_drop _ 40 i (by omega) (by omega), List.map_cons]
    simp
theorem op_l3 (p : T_api_Program) : ∀ (n i f : Nat) (acc : List T_api_Decl), i + n = min p.Decls.length 40 → n < f → acc.length = i →
    law10_Own_l3 p f ((i : Int), acc) = some ⟨acc ++ (p.Decls.take 40).drop i, (p.Waits.take 40).map ownW, (p.Funcs.take 20).map ownF⟩
  | n, i, 0, acc, hi, hf, ha => by omega
  | 0, i, f + 1, acc, hi, hf, ha => by
    rw [law10_Own_l3]
    dsimp only
    have : (iLt (i : Int) (p.Decls.length : Int) && iLt (i : Int) 40) = false := by
      rw [Bool.and_eq_false_iff, iLt_iff', iLt_iff']; omega
    rw [this, cond_false, List.drop_eq_nil_of_le (by rw [List.length_take]; omega), List.append_nil]
    have h := op_l7 p acc (i : Int) (min p.Waits.length 40) 0 fuel [] (by omega) (by have := fuel_big; omega) rfl
    rw [List.drop_zero, List.nil_append] at h
    exact h
  | n + 1, i, f + 1, acc, hi, hf, ha => by
    rw [law10_Own_l3]
    dsimp only
    rw [iLt_t (by omega), iLt_t (by omega), Bool.and_self, cond_true, need_of (nIn_of ⟨by omega, by omega⟩), Int.toNat_natCast, need_of (nCap_of (by simp only [List.length_append, List.length_cons, List.length_nil]; omega)), w64 (by omega), show (i : Int) + 1 = ((i + 1 : Nat) : Int) by omega, op_l3 p n (i + 1) f _ (by omega) (by omega) (by simp; omega), take_drop _ 40 i (by omega) (by omega)]
    simp
theorem own10x (p : T_api_Program) : law10_Own p = some (ownP p) := by
  unfold law10_Own
  have h := op_l3 p (min p.Decls.length 40) 0 fuel [] (by omega) (by have := fuel_big; omega) rfl
  rw [List.drop_zero, List.nil_append] at h
  exact h
end LJ
