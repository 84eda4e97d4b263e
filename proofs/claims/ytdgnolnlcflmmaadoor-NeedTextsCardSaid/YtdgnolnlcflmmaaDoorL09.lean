/- The laws NeedChecks, NeedGets, NeedBack, NeedOnce, plainly. -/
import Derived.Test.YtdgnolnlcflmmaaDoorN9C
namespace LJ
open Go Go.RowKit
set_option linter.unusedVariables false
set_option linter.unusedSimpArgs false

theorem lives09 : law09_lives = some true := by decide +kernel
theorem same_l11 (W : List (List T_api_Need)) (i : Nat) (hi : i < W.length) (K : Unit → Option Bool) (hl : (W.getD i default).length ≤ 1000) : ∀ (n j f : Nat), j + n = (W.getD i default).length → n < f → ref09_Same_l11 W W (i : Int) K f (j : Int) = K ()
  | n, j, 0, h, hf => by omega
  | 0, j, f + 1, h, hf => by
    rw [ref09_Same_l11, need_of (nIn_of ⟨by omega, by omega⟩), Int.toNat_natCast, iLt_f (by omega), cond_false]
  | n + 1, j, f + 1, h, hf => by
    have h1 : nIn (i : Int) (W.length : Int) = true := nIn_of ⟨by omega, by omega⟩
    have h2 : nIn (j : Int) ((W.getD i default).length : Int) = true := nIn_of ⟨by omega, by omega⟩
    rw [ref09_Same_l11, Int.toNat_natCast, need_of h1, iLt_t (by omega), cond_true, need_of h1, need_of h2, need_of h1, need_of h2, iEq_t rfl, iEq_t rfl, iEq_t rfl]
    simp only [Bool.and_self, Bool.not_true, cond_false]
    rw [w64 (by omega), show (j : Int) + 1 = ((j + 1 : Nat) : Int) by omega]
    exact same_l11 W i hi K hl n (j + 1) f (by omega) (by omega)
theorem same_l3 (W : List (List T_api_Need)) (hW : W.length ≤ 1000) (hl : ∀ l ∈ W, l.length ≤ 1000) : ∀ (n i f : Nat), i + n = W.length → n < f → ref09_Same_l3 W W f (i : Int) = some true
  | n, i, 0, hi, hf => by omega
  | 0, i, f + 1, hi, hf => by rw [ref09_Same_l3, iLt_f (by omega)]; rfl
  | n + 1, i, f + 1, hi, hf => by
    have h1 : nIn (i : Int) (W.length : Int) = true := nIn_of ⟨by omega, by omega⟩
    have hm : W.getD i default ∈ W := by
      rw [List.getD_eq_getElem?_getD, List.getElem?_eq_getElem (by omega)]
      exact List.getElem_mem _
    rw [ref09_Same_l3, iLt_t (by omega), cond_true, withK_eq, need_of h1, need_of h1, iNe_f rfl, cond_false]
    have := same_l11 W i (by omega) (fun _ => ref09_Same_l3 W W f (IntKind.i64.wrap ((i : Int) + 1))) (hl _ hm) (W.getD i default).length 0 fuel (by omega) (by have := fuel_big; have := hl _ hm; omega)
    refine Eq.trans this ?_
    rw [w64 (by omega), show (i : Int) + 1 = ((i + 1 : Nat) : Int) by omega]
    exact same_l3 W hW hl n (i + 1) f (by omega) (by omega)
theorem same_refl {W : List (List T_api_Need)} (hW : W.length ≤ 1000) (hl : ∀ l ∈ W, l.length ≤ 1000) : ref09_Same W W = some true := by
  unfold ref09_Same
  rw [iNe_f rfl, cond_false]
  exact same_l3 W hW hl W.length 0 fuel (by omega) (by have := fuel_big; omega)
theorem same_good {W : List (List T_api_Need)} (g : GoodW W) : ref09_Same W W = some true :=
  same_refl (by have := g.len; omega) fun l hl => by have := (g.ways l hl).1; omega
/-- A wait, somewhat cut. -/
def ownW (W : List (List T_api_Need)) : List (List T_api_Need) := (W.take 6).map fun l => l.take 6
theorem own_l2 (W : List (List T_api_Need)) : ∀ (n i f : Nat) (acc : List (List T_api_Need)), i + n = min W.length 6 → n < f → acc.length = i → law09_Own_l2 W f ((i : Int), acc) = some (acc ++ ((W.take 6).drop i).map fun l => l.take 6)
  | n, i, 0, acc, hi, hf, ha => by omega
  | 0, i, f + 1, acc, hi, hf, ha => by
    rw [law09_Own_l2]
    dsimp only
    have : (iLt (i : Int) (W.length : Int) && iLt (i : Int) 6) = false := by
      rw [Bool.and_eq_false_iff, iLt_iff', iLt_iff']; omega
    rw [this, cond_false, List.drop_eq_nil_of_le (by simp; omega), List.map_nil, List.append_nil]
  | n + 1, i, f + 1, acc, hi, hf, ha => by
    rw [law09_Own_l2]
    dsimp only
    have hl : (W.take 6).drop i = W.getD i default :: (W.take 6).drop (i + 1) := by
      rw [getD_drop (W.take 6) i (by simp; omega)]
      congr 1
      rw [List.getD_eq_getElem?_getD, List.getD_eq_getElem?_getD, List.getElem?_take_of_lt (by omega)]
    rw [iLt_t (by omega), iLt_t (by omega), Bool.and_self, cond_true, need_of (nIn_of ⟨by omega, by omega⟩), w64 (by omega), show (i : Int) + 1 = ((i + 1 : Nat) : Int) by omega, Int.toNat_natCast, hl, List.map_cons]
    cases h6 : iLt 6 ((W.getD i default).length : Int) with
    | true =>
      rw [iLt_iff] at h6
      rw [cond_true, need_of (nSl_of ⟨by omega, by omega, by omega⟩), need_of (nCap_of (by simp; omega)), need_of (nCap_of (by simp; omega)), own_l2 W n (i + 1) f _ (by omega) (by omega) (by simp [ha])]
      simp
    | false =>
      rw [iLt_iff'] at h6
      rw [cond_false, need_of (nCap_of (by rw [List.length_nil]; omega)), need_of (nCap_of (by simp; omega)), own_l2 W n (i + 1) f _ (by omega) (by omega) (by simp [ha])]
      rw [List.take_of_length_le (l := W.getD i default) (by omega)]
      simp
theorem own09 (W : List (List T_api_Need)) : law09_Own W = some (ownW W) := by
  unfold law09_Own
  have := own_l2 W (min W.length 6) 0 fuel [] (by omega) (by have := fuel_big; omega) rfl
  rw [show (0 : Int) = ((0 : Nat) : Int) from rfl, this]
  rfl
theorem own_own (W : List (List T_api_Need)) : ownW (ownW W) = ownW W := by
  unfold ownW
  rw [List.take_of_length_le (by rw [List.length_map, List.length_take]; omega), List.map_map]
  refine List.map_congr_left fun l _ => ?_
  show (l.take 6).take 6 = l.take 6
  rw [List.take_take, Nat.min_self]
theorem own_good {W : List (List T_api_Need)} (g : GoodW W) : ownW W = W := by
  unfold ownW
  rw [List.take_of_length_le (by have := g.len; omega)]
  refine Eq.trans (List.map_congr_left (g := id) fun l hl => ?_) (List.map_id W)
  exact List.take_of_length_le (by have := (g.ways l hl).1; omega)
end LJ