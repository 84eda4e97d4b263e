/- The laws of chapter 01, plainly. -/
import Derived.Test.YtfbdapchaofeoaaOPT
namespace LJ
open Go Go.RowKit
set_option linter.unusedVariables false
set_option linter.unusedSimpArgs false

theorem lives01 : law01_lives = some true := by decide +kernel

theorem ne_err (s : ByteArray) (l : List UInt8) (e : Int) : iNe e (mkR s l e).Err = false := iNe_f rfl
theorem reads_l3 {s : ByteArray} (hs : s.size ≤ 140737488351232) (ks : List Int) : ∀ (j f k : Nat) (l : List UInt8) (e : Int), j + k = 100 → j < f → RdOK s l e →
    law01_OctetReads_l3 s ks f ((k : Int), (mkR s l e).S, (mkR s l e).At, (mkR s l e).Err, (mkI s l e).s, (mkI s l e).at_, (mkI s l e).err) = some true
  | j, 0, k, l, e, hj, hf, h => by omega
  | j, f + 1, k, l, e, hj, hf, h => by
    have hs' : s.size ≤ 140737488355328 := by omega
    rw [law01_OctetReads_l3]
    dsimp only
    have hR : (⟨(mkR s l e).S, (mkR s l e).At, (mkR s l e).Err⟩ : T_ref01_R) = mkR s l e := rfl
    have hI : (⟨(mkI s l e).s, (mkI s l e).at_, (mkI s l e).err⟩ : T_octet_In) = mkI s l e := rfl
    rw [hR, hI]
    by_cases hk : (k : Int) < ks.length ∧ (k : Int) < 100
    · rw [iLt_t hk.1, iLt_t hk.2, Bool.and_self, cond_true, need_of (nIn_of ⟨by omega, hk.1⟩)]
      have go : ∀ (l2 : List UInt8) (e2 : Int), RdOK s l2 e2 → law01_OctetReads_l3 s ks f (IntKind.i64.wrap ((k : Int) + 1), (mkR s l2 e2).S, (mkR s l2 e2).At, (mkR s l2 e2).Err, (mkI s l2 e2).s, (mkI s l2 e2).at_, (mkI s l2 e2).err) = some true := fun l2 e2 h2 => by
        rw [w64 (by omega), show (k : Int) + 1 = ((k + 1 : Nat) : Int) by omega]
        exact reads_l3 hs ks (j - 1) f (k + 1) l2 e2 (by omega) (by omega) h2
      have left : ∀ (l2 : List UInt8) (e2 : Int), RdOK s l2 e2 → IntKind.i64.wrap ((s.size : Int) - (mkR s l2 e2).At) = (l2.length : Int) := fun l2 e2 h2 => by
        have := suf_len h2.suf
        unfold mkR
        dsimp only
        rw [w64 (by omega)]
        omega
      generalize ks.getD (k : Int).toNat default = kind
      by_cases h0 : kind = 0
      · rw [iEq_t h0, cond_true, refByte_gen hs' h, bind_some', In_Byte_gen hs' h, bind_some']
        dsimp only
        rw [iEq_t rfl, Bool.not_true, cond_false, In_Left_gen hs' h.byte, bind_some', left _ _ h.byte, iNe_f rfl, cond_false, In_Err_gen, bind_some', ne_err, cond_false]
        exact go _ _ h.byte
      · rw [iEq_f h0, cond_false]
        by_cases h1 : kind = 1
        · rw [iEq_t h1, cond_true, refNumber_gen hs' h, bind_some', In_Num_gen hs' h, bind_some']
          dsimp only
          rw [iEq_t rfl, Bool.not_true, cond_false, In_Left_gen hs' h.num, bind_some', left _ _ h.num, iNe_f rfl, cond_false, In_Err_gen, bind_some', ne_err, cond_false]
          exact go _ _ h.num
        · rw [iEq_f h1, cond_false]
          by_cases h2 : kind = 2
          · rw [iEq_t h2, cond_true, refSigned_gen hs' h, bind_some', In_Int_gen hs' h, bind_some']
            dsimp only
            rw [iEq_t rfl, Bool.not_true, cond_false, In_Left_gen hs' h.num, bind_some', left _ _ h.num, iNe_f rfl, cond_false, In_Err_gen, bind_some', ne_err, cond_false]
            exact go _ _ h.num
          · rw [iEq_f h2, cond_false, refWords_gen hs' h, bind_some', In_Text_gen hs' h, bind_some']
            dsimp only
            rw [sEq_t rfl, Bool.not_true, cond_false, In_Left_gen hs' h.text, bind_some', left _ _ h.text, iNe_f rfl, cond_false, In_Err_gen, bind_some', ne_err, cond_false]
            exact go _ _ h.text
    · have : (iLt (k : Int) (ks.length : Int) && iLt (k : Int) 100) = false := by
        simp only [Bool.and_eq_false_iff, iLt_iff']
        omega
      rw [this, cond_false, lives01]
      rfl
theorem OctetReads_pure {s : ByteArray} (hs : s.size ≤ 140737488351232) (ks : List Int) : law01_OctetReads s ks = some true := by
  unfold law01_OctetReads
  rw [In_Open, bind_some']
  have h := reads_l3 hs ks 100 fuel 0 (bl s) 0 (by omega) (by have := fuel_big; omega) (RdOK.start s)
  have e : mkR s (bl s) 0 = ⟨s, 0, 0⟩ := (ref_Open s).symm
  rw [e] at h
  exact h
end LJ
