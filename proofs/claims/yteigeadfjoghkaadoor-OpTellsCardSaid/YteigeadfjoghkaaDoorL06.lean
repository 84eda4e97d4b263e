/- The laws of chapter 06, plainly. -/
import Derived.Test.YteigeadfjoghkaaDoorO6A
import Derived.Test.YteigeadfjoghkaaDoorCF
namespace LJ
open Go Go.RowKit
set_option linter.unusedVariables false
set_option linter.unusedSimpArgs false

theorem lives06 : law06_lives = some true := by decide +kernel
theorem ref06_Names_eq : ref06_Names = some opNames := rfl
theorem ref06_Forms_eq : ref06_Forms = some opForms := rfl
theorem ref06_Form_eq (k : Int) : ref06_Form k = some (formL k) := by
  unfold ref06_Form formL
  rw [ref06_Known_eq, bind_some', ref06_Forms_eq, bind_some']
  cases h : opK k with
  | false => rfl
  | true =>
    have := opK_iff.1 h
    rw [Bool.not_true, cond_false, cond_true, need_of (nIn_of (by rw [opForms_len]; omega))]
/-! ### What is taken, and laid -/
theorem shape_no {k : Int} (h : opK k = false) : op_shape k = some 0 := by
  have hk := opK_iff'.1 h
  unfold op_shape
  rw [op_known_eq, h]
  have e : ∀ c : Int, 0 ≤ c → c < 52 → iEq k c = false := fun c h0 h1 => iEq_f (by omega)
  rw [e 2 (by decide) (by decide), e 17 (by decide) (by decide), e 19 (by decide) (by decide), e 21 (by decide) (by decide), e 18 (by decide) (by decide), e 25 (by decide) (by decide), e 16 (by decide) (by decide), e 45 (by decide) (by decide), e 40 (by decide) (by decide), e 43 (by decide) (by decide), e 8 (by decide) (by decide), e 24 (by decide) (by decide), e 27 (by decide) (by decide), e 28 (by decide) (by decide), e 30 (by decide) (by decide), e 31 (by decide) (by decide), e 33 (by decide) (by decide), e 39 (by decide) (by decide), e 44 (by decide) (by decide), e 46 (by decide) (by decide), e 49 (by decide) (by decide)]
  have : (iLe 3 k && iLe k 15) = false := by simp only [Bool.and_eq_false_iff, iLe_iff']; omega
  rw [this]
  rfl
theorem pushes_yes : ∀ k : Fin 52, op_Pushes k = ref06_Pushes k := by decide +kernel
theorem pushes_eq (k : Int) : op_Pushes k = ref06_Pushes k := by
  cases h : opK k with
  | true =>
    have hk := opK_iff.1 h
    have := pushes_yes ⟨k.toNat, by omega⟩
    dsimp only at this
    rwa [Int.toNat_of_nonneg hk.1] at this
  | false =>
    unfold op_Pushes ref06_Pushes
    rw [shape_no h, ref06_Known_eq, h]
    rfl
theorem pops_yes : ∀ k : Fin 52, (k : Nat) ≠ 20 → (k : Nat) ≠ 41 → (k : Nat) ≠ 42 → op_Pops ⟨k, 0, 0⟩ 0 = ref06_Pops ⟨k, 0, 0⟩ 0 := by decide +kernel
theorem pops_eq {x : T_api_Ins} (a : Int) (hb : -1099511627776 ≤ x.B ∧ x.B ≤ 1099511627776) : op_Pops x a = ref06_Pops x a := by
  obtain ⟨k, A, B⟩ := x
  dsimp only at hb
  cases h : opK k with
  | false =>
    have hk := opK_iff'.1 h
    unfold op_Pops ref06_Pops
    dsimp only
    rw [iEq_f (show k ≠ 20 by omega), iEq_f (show k ≠ 42 by omega), iEq_f (show k ≠ 41 by omega), shape_no h, ref06_Known_eq, h]
    rfl
  | true =>
    have hk := opK_iff.1 h
    by_cases h20 : k = 20
    · subst h20; rfl
    · by_cases h42 : k = 42
      · subst h42
        show some (IntKind.i64.wrap (IntKind.i64.wrap ((0 : Int) + 1) + B)) = some (IntKind.i64.wrap ((1 : Int) + B))
        rw [w64 (a := (0 : Int) + 1) (by decide)]
        rfl
      · by_cases h41 : k = 41
        · subst h41; rfl
        · have h1 : op_Pops ⟨k, A, B⟩ a = op_Pops ⟨k, 0, 0⟩ 0 := by
            unfold op_Pops
            dsimp only
            rw [iEq_f h20, iEq_f h42, iEq_f h41]
            rfl
          have h2 : ref06_Pops ⟨k, A, B⟩ a = ref06_Pops ⟨k, 0, 0⟩ 0 := by
            unfold ref06_Pops
            dsimp only
            rw [iEq_f h20, iEq_f h42, iEq_f h41]
            rfl
          have := pops_yes ⟨k.toNat, by omega⟩ (by dsimp only; omega) (by dsimp only; omega) (by dsimp only; omega)
          dsimp only at this
          rw [Int.toNat_of_nonneg hk.1] at this
          rw [h1, h2, this]
theorem refPops_some (x : T_api_Ins) (a : Int) : ∃ z, ref06_Pops x a = some z := by
  unfold ref06_Pops
  rw [ref06_Known_eq, bind_some']
  cases h : opK x.Op with
  | false => exact ⟨_, rfl⟩
  | true =>
    have hk := opK_iff.1 h
    rw [Bool.not_true, cond_false]
    cases iEq x.Op 20 with
    | true => exact ⟨_, rfl⟩
    | false =>
      rw [cond_false]
      unfold ref06_Takes
      rw [bind_some', bind_some', need_of (nIn_of (by simp only [List.length_cons, List.length_nil]; omega)), need_of (nIn_of (by simp only [List.length_cons, List.length_nil]; omega))]
      cases (iEq x.Op 41 || iEq x.Op 42) <;> exact ⟨_, rfl⟩
theorem OpPops_pure (x : T_api_Ins) (a : Int) : law06_OpPops x a = some true := by
  unfold law06_OpPops
  cases h : (iLt 1099511627776 x.B || iLt x.B (-1099511627776)) with
  | true => rw [cond_true, lives06]; rfl
  | false =>
    simp only [Bool.or_eq_false_iff, iLt_iff'] at h
    obtain ⟨z, hz⟩ := refPops_some x a
    rw [cond_false, pops_eq a (by omega), hz, bind_some', bind_some', iEq_t rfl, cond_true, lives06]
    rfl

/-! ### The operation of a name -/
/-- Where it first stands, from the i-th on; -1: nowhere. -/
def findL (s : ByteArray) : List ByteArray → Int → Int
  | [], _ => -1
  | x :: l, i => cond (sEq x s) i (findL s l (i + 1))
theorem find_l3 (s : ByteArray) (L : List ByteArray) (hL : L.length ≤ 1000) : ∀ (n i f : Nat), i + n = L.length → n < f → op_Of_l3 s L f (i : Int) = some (iMax (findL s (L.drop i) i) 0, iLe 0 (findL s (L.drop i) i)) ∧ ref06_Of_l3 s L f (i : Int) = some (findL s (L.drop i) i)
  | n, i, 0, hi, hf => by omega
  | 0, i, f + 1, hi, hf => by
    rw [op_Of_l3, ref06_Of_l3, iLt_f (by omega), List.drop_eq_nil_of_le (by omega)]
    exact ⟨rfl, rfl⟩
  | n + 1, i, f + 1, hi, hf => by
    obtain ⟨h1, h2⟩ := find_l3 s L hL n (i + 1) f (by omega) (by omega)
    have hd : L.drop i = L.getD i default :: L.drop (i + 1) := by
      rw [List.drop_eq_getElem_cons (by omega)]
      simp [List.getD_eq_getElem?_getD, show i < L.length by omega]
    rw [op_Of_l3, ref06_Of_l3, iLt_t (by omega), cond_true, cond_true, need_of (nIn_of ⟨by omega, by omega⟩), need_of (nIn_of ⟨by omega, by omega⟩), Int.toNat_natCast, hd, findL, w64 (by omega), show (i : Int) + 1 = ((i + 1 : Nat) : Int) by omega, h1, h2]
    cases sEq (L.getD i default) s with
    | true =>
      refine ⟨?_, rfl⟩
      rw [cond_true, cond_true, iLe_t (by omega)]
      unfold iMax
      rw [if_neg (by omega)]
    | false => exact ⟨rfl, rfl⟩
def whichL (s : ByteArray) : Int := findL s opNames 0
theorem op_Of_eq (s : ByteArray) : op_Of s = some (iMax (whichL s) 0, iLe 0 (whichL s)) := by
  unfold op_Of whichL
  rw [fields_names, bind_some']
  exact (find_l3 s opNames (by rw [opNames_len]; omega) opNames.length 0 fuel (by omega) (by have := fuel_big; rw [opNames_len]; omega)).1
theorem ref06_Of_eq (s : ByteArray) : ref06_Of s = some (whichL s) := by
  unfold ref06_Of whichL
  rw [ref06_Names_eq, bind_some']
  exact (find_l3 s opNames (by rw [opNames_len]; omega) opNames.length 0 fuel (by omega) (by have := fuel_big; rw [opNames_len]; omega)).2
theorem refPushes_some (k : Int) : ∃ z, ref06_Pushes k = some z := by
  unfold ref06_Pushes
  rw [ref06_Known_eq, bind_some']
  cases h : opK k with
  | false => exact ⟨_, rfl⟩
  | true =>
    have hk := opK_iff.1 h
    unfold ref06_Lays
    rw [Bool.not_true, cond_false, bind_some', need_of (nIn_of (by simp only [List.length_cons, List.length_nil]; omega))]
    exact ⟨_, rfl⟩
theorem OpTells_pure (n : Int) (s : ByteArray) : law06_OpTells n s = some true := by
  unfold law06_OpTells
  obtain ⟨z, hz⟩ := refPushes_some n
  have hg : op_Goes n = some ((opK n && iNe n 18) && iNe n 21) := rfl
  rw [ref06_Known_eq, bind_some', op_Of_eq, ref06_Of_eq, op_Name_eq, op_Form_eq, ref06_Form_eq, pushes_eq, hz, hg, lives06, ref06_Names_eq]
  simp only [bind_some']
  have key : ∀ nm : ByteArray, nm = nameL n → (!sEq (nameL n) nm) = false := fun nm h => by rw [sEq_t h.symm]; rfl
  cases h : opK n with
  | true =>
    have hk := opK_iff.1 h
    have hn : opNames.getD n.toNat default = nameL n := by unfold nameL; rw [h]; rfl
    rw [cond_true, need_of (nIn_of (by rw [opNames_len]; omega)), hn, sEq_t rfl]
    simp only [Bool.not_true, Bool.not_false, Bool.false_or, cond_true, bind_some', sEq_t, Bool.true_and, iNe_f, beq_self_eq_true, cond_false, iEq_t]
  | false =>
    have hn : nameL n = ByteArray.empty := by unfold nameL; rw [h]; rfl
    rw [cond_false, hn, sEq_t rfl]
    simp only [Bool.not_true, Bool.not_false, Bool.false_or, cond_true, bind_some', sEq_t, Bool.false_and, iNe_f, beq_self_eq_true, cond_false, iEq_t]
    rfl

/-! ### Names apart -/
theorem which_yes : ∀ k : Fin 52, whichL (opNames.getD k default) = (k : Nat) := by decide +kernel
theorem small_yes : ∀ k : Fin 52, (bl (opNames.getD k default)).all (fun b => decide (97 ≤ b.toNat ∧ b.toNat ≤ 122)) = true ∧ 0 < (opNames.getD k default).size ∧ (opNames.getD k default).size ≤ 1000 := by decide +kernel
theorem form_yes : ∀ k : Fin 52, (opForms.getD k default).size ≤ 2 := by decide +kernel
theorem names_l8 (n : Int) (s : ByteArray) (x : Int × Bool) (hs : s.size ≤ 1000) (hb : (bl s).all (fun b => decide (97 ≤ b.toNat ∧ b.toNat ≤ 122)) = true) {R : Option Bool} (hR : ((cond (((iEq x.1 n) && x.2) && (iLt 0 (s.size : Int))) (op_Form n) (some default)).bind fun (x13 : ByteArray) => (cond ((((iEq x.1 n) && x.2) && (iLt 0 (s.size : Int))) && (iLe (x13.size : Int) 2)) (law06_lives) (some default)).bind fun (x14 : Bool) => some (((((iEq x.1 n) && x.2) && (iLt 0 (s.size : Int))) && (iLe (x13.size : Int) 2)) && x14)) = R) : ∀ (m i f : Nat), i + m = s.size → m < f → law06_OpNames_l8 n s x f (i : Int) = R
  | m, i, 0, hi, hf => by omega
  | 0, i, f + 1, hi, hf => by rw [law06_OpNames_l8, iLt_f (by omega), cond_false]; exact hR
  | m + 1, i, f + 1, hi, hf => by
    have hlt : i < s.size := by omega
    have hbi := byteAt_bl s i hlt
    have := List.all_eq_true.1 hb _ (List.getElem_mem (show i < (bl s).length by rw [bl_len]; exact hlt))
    have := of_decide_eq_true this
    rw [law06_OpNames_l8, iLt_t (by omega), cond_true, need_of (nIn_of ⟨by omega, by omega⟩), Int.toNat_natCast, hbi, iLt_f (by omega), iLt_f (by omega), need_of (by rw [nIn_of ⟨by omega, by omega⟩]; rfl), Bool.or_self, cond_false, w64 (by omega), show (i : Int) + 1 = ((i + 1 : Nat) : Int) by omega]
    exact names_l8 n s x hs hb hR m (i + 1) f (by omega) (by omega)
theorem OpNames_pure (n : Int) : law06_OpNames n = some true := by
  unfold law06_OpNames
  rw [ref06_Known_eq, bind_some', op_Name_eq, bind_some', bind_some', op_Of_eq, bind_some']
  cases h : opK n with
  | false =>
    have hn : nameL n = ByteArray.empty := by unfold nameL; rw [h]; rfl
    rw [Bool.not_false, cond_true, hn, sEq_t rfl, lives06]
    rfl
  | true =>
    have hk := opK_iff.1 h
    have hn : nameL n = opNames.getD n.toNat default := by unfold nameL; rw [h]; rfl
    have h1 := which_yes ⟨n.toNat, by omega⟩
    obtain ⟨h2, h3, h4⟩ := small_yes ⟨n.toNat, by omega⟩
    have h5 := form_yes ⟨n.toNat, by omega⟩
    dsimp only at h1 h2 h3 h4 h5
    rw [Bool.not_true, cond_false, hn, h1]
    have hm : iMax ((n.toNat : Nat) : Int) 0 = n := by unfold iMax; rw [if_neg (by omega)]; omega
    rw [hm]
    refine names_l8 n _ _ h4 h2 ?_ (opNames.getD n.toNat default).size 0 fuel (by omega) (by have := fuel_big; omega)
    rw [iEq_t rfl, iLe_t (by omega), iLt_t (by omega), op_Form_eq]
    have hf : formL n = opForms.getD n.toNat default := by unfold formL; rw [h]; rfl
    simp only [Bool.and_self, cond_true, bind_some']
    rw [hf, iLe_t (by omega), lives06]
    rfl
end LJ
