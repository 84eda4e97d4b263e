/- The laws InsChecks, InsGets, InsBack, InsOnce, plainly. -/
import Derived.Test.YtmofmaipkmedlaaDoorI7B
namespace LJ
open Go Go.RowKit
set_option linter.unusedVariables false
set_option linter.unusedSimpArgs false

theorem lives07 : law07_lives = some true := by decide +kernel
theorem outI_1 (s : ByteArray) (r : GI) : (r.1, cond (iEq r.2.1 0) ((s.size : Int) - r.2.2.length) 0, r.2.1).1 = r.1 := rfl
theorem InsChecks_pure (x : T_api_Ins) : law07_InsChecks x = some true := by
  unfold law07_InsChecks
  rw [ref07_Check_eq, bind_some', ins_Check_eq]
  by_cases h : chkI x = 0
  · rw [ins_Put_ok h, ref07_Put_ok h]
    simp only [bind_some']
    rw [lives07, h, iNe_f rfl, iEq_t rfl]
    simp only [Bool.false_and, Bool.or_self, cond_false, Bool.not_false, Bool.and_self, cond_true, bind_some', Bool.false_or, Bool.true_and]
    rw [sEq_t rfl]
    rfl
  · rw [ins_Put_bad h]
    simp only [bind_some']
    rw [lives07, iNe_f rfl, iNe_t h, iEq_f h, sEq_t rfl]
    rfl
theorem InsGets_pure {s : ByteArray} (hs : s.size ≤ 140737488351232) : law07_InsGets s = some true := by
  unfold law07_InsGets
  rw [ins_Get_eq (by omega), ref07_Get_eq (by omega)]
  unfold outI
  rw [bind_some', bind_some']
  simp only [iEq_t rfl]
  rw [lives07]
  rfl
theorem InsBack_pure {x : T_api_Ins} {s : ByteArray} (hs : s.size ≤ 140737488351232) : law07_InsBack x s = some true := by
  unfold law07_InsBack
  rw [ref07_Check_eq, bind_some']
  by_cases h : chkI x = 0
  · have hl := putI_len (chkI_ok h)
    have hb : bl (bs (putI x) ++ s) = putI x ++ bl s := by simp
    rw [iNe_f h, cond_false, ins_Put_ok h, bind_some']
    dsimp only
    rw [need_of (nStr_of (by rw [bs_size]; omega)), ins_Get_eq (by rw [ByteArray.size_append, bs_size]; omega), hb, getI_put h]
    unfold outI
    rw [bind_some']
    simp only [iEq_t rfl]
    rw [Bool.and_self, cond_true, cond_true, iEq_t (by rw [ByteArray.size_append, bs_size, bl_len]; omega), lives07]
    rfl
  · rw [iNe_t h, cond_true, lives07]; rfl
theorem InsOnce_pure {s : ByteArray} (hs : s.size ≤ 140737488351232) : law07_InsOnce s = some true := by
  unfold law07_InsOnce
  rw [ins_Get_eq (by omega)]
  unfold outI
  rw [bind_some']
  dsimp only
  by_cases h : (getI (bl s)).2.1 = 0
  · obtain ⟨h1, h2⟩ := getI_inv h
    have hlen := congrArg List.length h2
    rw [List.length_append, bl_len] at hlen
    have hp : 0 < (putI (getI (bl s)).1).length := by
      unfold putI
      rw [List.length_cons]
      omega
    rw [iNe_f h, cond_false, ins_Put_ok h1, bind_some']
    dsimp only
    rw [iEq_t h, cond_true, iEq_t rfl, iLt_t (by omega), iLe_t (by omega), need_of (by rw [nTo_of (by omega)]; rfl)]
    have hx : s.extract 0 ((s.size : Int) - ((getI (bl s)).2.2.length : Int)).toNat = bs (putI (getI (bl s)).1) := by
      apply bl_inj
      rw [bl_extract, bl_bs, List.drop_zero, show ((s.size : Int) - ((getI (bl s)).2.2.length : Int)).toNat = (putI (getI (bl s)).1).length by omega]
      have := congrArg (List.take (putI (getI (bl s)).1).length) h2
      rwa [List.take_left] at this
    rw [sEq_t hx.symm, lives07]
    rfl
  · rw [iNe_t h, cond_true, iEq_f h, cond_false, getI_err h, lives07]
    rfl
end LJ
