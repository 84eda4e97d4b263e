/- The laws DeclChecks, DeclGets, DeclBack, DeclOnce, plainly. -/
import Derived.Test.YthcinpgklihaoaaD8C
namespace LJ
open Go Go.RowKit
set_option linter.unusedVariables false
set_option linter.unusedSimpArgs false

theorem same_l3 (L : List T_api_Decl) (hL : L.length ≤ 1000) : ∀ (n i f : Nat), i + n = L.length → n < f → law08_Same_l3 L L f (i : Int) = some true
  | n, i, 0, hi, hf => by omega
  | 0, i, f + 1, hi, hf => by rw [law08_Same_l3, iLt_f (by omega)]; rfl
  | n + 1, i, f + 1, hi, hf => by
    rw [law08_Same_l3, iLt_t (by omega), cond_true, need_of (nIn_of ⟨by omega, by omega⟩), need_of (nIn_of ⟨by omega, by omega⟩), iEq_t rfl, iEq_t rfl, iEq_t rfl]
    simp only [Bool.and_self, Bool.not_true, cond_false]
    rw [w64 (by omega), show (i : Int) + 1 = ((i + 1 : Nat) : Int) by omega]
    exact same_l3 L hL n (i + 1) f (by omega) (by omega)
theorem same_refl (L : List T_api_Decl) (hL : L.length ≤ 1000) : law08_Same L L = some true := by
  unfold law08_Same
  rw [iNe_f rfl, cond_false]
  exact same_l3 L hL L.length 0 fuel (by omega) (by have := fuel_big; omega)
theorem t100 {α : Type} (l : List α) : (l.take (100 : Int).toNat).drop (0 : Int).toNat = l.take 100 := rfl
theorem DeclChecks_pure (L : List T_api_Decl) : law08_DeclChecks L = some true := by
  have key : ∀ M : List T_api_Decl, M.length ≤ 100 → need (nCap ((([] : List T_api_Decl).length + M.length) * 24)) ((decl_Check (([] : List T_api_Decl) ++ M)).bind fun (x11 : Int × Int) => (ref08_Check M).bind fun (x12 : Int × Int) => (decl_Put (([] : List T_api_Decl) ++ M)).bind fun (x13 : ByteArray × Int) => cond (((iNe x11.1 x12.1) || (iNe x11.2 x12.2)) || (iNe x13.2 x12.2)) (some false) ((cond ((!((iNe x12.2 0) && (sEq x13.1 ByteArray.empty))) && (iEq x12.2 0)) (ref08_Put M) (some default)).bind fun (x15 : ByteArray) => (cond (((iNe x12.2 0) && (sEq x13.1 ByteArray.empty)) || ((iEq x12.2 0) && (sEq x13.1 x15))) (law08_lives) (some default)).bind fun (x16 : Bool) => some ((((iNe x12.2 0) && (sEq x13.1 ByteArray.empty)) || ((iEq x12.2 0) && (sEq x13.1 x15))) && x16))) = some true := fun M hM => by
    rw [need_of (nCap_of (by simp only [List.length_nil]; omega)), List.nil_append, decl_Check_eq, ref08_Check_eq, lives08]
    simp only [bind_some']
    by_cases h : (chkL M).2 = 0
    · rw [decl_Put_ok h, ref08_Put_ok h]
      simp only [bind_some']
      rw [h, iNe_f rfl, iNe_f rfl, iEq_t rfl]
      simp only [Bool.false_and, Bool.or_self, cond_false, Bool.not_false, Bool.and_self, cond_true, bind_some', Bool.false_or, Bool.true_and]
      rw [sEq_t rfl]
      rfl
    · rw [decl_Put_bad h]
      simp only [bind_some']
      rw [iNe_f rfl, iNe_f rfl, iNe_t h, iEq_f h, sEq_t rfl]
      rfl
  unfold law08_DeclChecks
  by_cases h : 100 < (L.length : Int)
  · rw [iLt_t h, cond_true, need_of (nSl_of ⟨by decide, by decide, by omega⟩), t100]
    exact key (L.take 100) (by simp; omega)
  · rw [iLt_f (by omega), cond_false]
    exact key L (by omega)
theorem getDs_small (l : List UInt8) : (getDs l).1.length ≤ 32 := by
  by_cases h : (getDs l).2.1 = 0
  · exact (chkL_ok (getDs_inv h).1).1
  · rw [getDs_err h]; simp
theorem DeclGets_pure {s : ByteArray} (hs : s.size ≤ 140737488351232) : law08_DeclGets s = some true := by
  unfold law08_DeclGets
  have := getDs_small (bl s)
  rw [decl_Get_eq (by omega), bind_some', ref08_Get_eq (by omega), bind_some', same_refl _ (by dsimp only; omega), bind_some']
  dsimp only
  rw [iEq_t rfl, iEq_t rfl, lives08]
  rfl
theorem DeclBack_pure {L : List T_api_Decl} {s : ByteArray} (hs : s.size ≤ 140737488351232) : law08_DeclBack L s = some true := by
  unfold law08_DeclBack
  rw [ref08_Check_eq, bind_some']
  by_cases h : (chkL L).2 = 0
  · obtain ⟨c1, c2, c3, c4⟩ := chkL_ok h
    have hl := putDs_len c1 c4
    have hb : bl (bs (putDs L) ++ s) = putDs L ++ bl s := by simp
    rw [iNe_f h, cond_false, need_of (nCap_of (by simp only [List.length_nil]; omega)), List.nil_append, decl_Put_ok h, bind_some']
    dsimp only
    rw [need_of (nStr_of (by rw [bs_size]; omega)), decl_Get_eq (by rw [ByteArray.size_append, bs_size]; omega), bind_some', hb, getDs_put h]
    dsimp only
    rw [iEq_t rfl, Bool.and_self, cond_true, same_refl L (by omega), bind_some', cond_true, iEq_t (by rw [ByteArray.size_append, bs_size, bl_len]; omega), lives08]
    rfl
  · rw [iNe_t h, cond_true, lives08]; rfl
theorem DeclOnce_pure {s : ByteArray} (hs : s.size ≤ 140737488351232) : law08_DeclOnce s = some true := by
  unfold law08_DeclOnce
  rw [decl_Get_eq (by omega), bind_some']
  dsimp only
  by_cases h : (getDs (bl s)).2.1 = 0
  · obtain ⟨h1, h2⟩ := getDs_inv h
    have hlen := congrArg List.length h2
    rw [List.length_append, bl_len] at hlen
    have hp : 0 < (putDs (getDs (bl s)).1).length := by
      unfold putDs
      rw [List.length_append]
      have := numL_pos (getDs (bl s)).1.length
      omega
    rw [iNe_f h, cond_false, decl_Put_ok h1, bind_some']
    dsimp only
    rw [iEq_t h, cond_true, iEq_t rfl, iLt_t (by omega), iLe_t (by omega), need_of (by rw [nTo_of (by omega)]; rfl)]
    have hx : s.extract 0 ((s.size : Int) - ((getDs (bl s)).2.2.length : Int)).toNat = bs (putDs (getDs (bl s)).1) := by
      apply bl_inj
      rw [bl_extract, bl_bs, List.drop_zero, show ((s.size : Int) - ((getDs (bl s)).2.2.length : Int)).toNat = (putDs (getDs (bl s)).1).length by omega]
      have := congrArg (List.take (putDs (getDs (bl s)).1).length) h2
      rwa [List.take_left] at this
    rw [sEq_t hx.symm, lives08]
    rfl
  · rw [iNe_t h, cond_true, iEq_f h, cond_false, getDs_err h, lives08]
    rfl
end LJ
