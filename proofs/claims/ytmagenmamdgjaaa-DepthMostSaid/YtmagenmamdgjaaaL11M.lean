/- The law DepthMost, plainly. -/
import Derived.Test.YtmagenmamdgjaaaPF
namespace LJ
open Go Go.RowKit
set_option linter.unusedVariables false
set_option linter.unusedSimpArgs false

theorem lives11 : law11_lives = some true := by decide +kernel
theorem bindS {α β : Type} (x : α) (f : α → Option β) : (some x).bind f = f x := rfl
theorem dropG {α : Type} [Inhabited α] (L : List α) (i : Nat) (h : i < L.length) : L.drop i = L.getD i default :: L.drop (i + 1) := by
  rw [List.drop_eq_getElem_cons h]
  simp [List.getD_eq_getElem?_getD, h]
theorem most_l2 (M : List Int) (hM : M.length ≤ 300) : ∀ (n i f : Nat) (a : Int), i + n = M.length → n < f → depth_Most_l2 M f (a, (i : Int)) = some ((M.drop i).foldl iMax a)
  | n, i, 0, a, hi, hf => by omega
  | 0, i, f + 1, a, hi, hf => by
    rw [depth_Most_l2, iLt_f (by dsimp only; omega), List.drop_eq_nil_of_le (by omega)]
    rfl
  | n + 1, i, f + 1, a, hi, hf => by
    rw [depth_Most_l2, iLt_t (by dsimp only; omega), cond_true, need_of (nIn_of ⟨by dsimp only; omega, by dsimp only; omega⟩)]
    dsimp only
    rw [Int.toNat_natCast, w64 (by omega), show (i : Int) + 1 = ((i + 1 : Nat) : Int) by omega, most_l2 M hM n (i + 1) f _ (by omega) (by omega), dropG M i (by omega)]
    rfl
theorem most_eq (M : List Int) (hM : M.length ≤ 300) : depth_Most M = some (M.foldl iMax 0) := by
  have := most_l2 M hM M.length 0 fuel 0 (by omega) (by have := fuel_big; omega)
  rw [List.drop_zero] at this
  exact this
theorem max_facts : ∀ (M : List Int) (a : Int), a ≤ M.foldl iMax a ∧ (∀ y ∈ M, y ≤ M.foldl iMax a) ∧ (M.foldl iMax a = a ∨ M.foldl iMax a ∈ M)
  | [], a => ⟨Int.le_refl _, fun y h => (by cases h), .inl rfl⟩
  | x :: M, a => by
    obtain ⟨h1, h2, h3⟩ := max_facts M (iMax a x)
    have h4 : a ≤ iMax a x ∧ x ≤ iMax a x ∧ (iMax a x = a ∨ iMax a x = x) := by unfold iMax; split <;> omega
    rw [List.foldl_cons]
    refine ⟨by omega, fun y hy => ?_, ?_⟩
    · rcases List.mem_cons.1 hy with rfl | hy
      · omega
      · exact h2 y hy
    · rcases h3 with h3 | h3
      · rcases h4.2.2 with h5 | h5
        · exact .inl (by omega)
        · exact .inr (List.mem_cons.2 (.inl (by omega)))
      · exact .inr (List.mem_cons_of_mem _ h3)
theorem most_loop (M : List Int) (x : Int) (hx : ∀ y ∈ M, y ≤ x) (h0 : 0 ≤ x) (hM : M.length ≤ 300) : ∀ (n i f : Nat) (met : Bool), i + n = M.length → n < f → (met = true ∨ x = 0 ∨ x ∈ M.drop i) → law11_DepthMost_l15 M x f (met, (i : Int)) = some true
  | n, i, 0, met, hi, hf, _ => by omega
  | 0, i, f + 1, met, hi, hf, hm => by
    rw [law11_DepthMost_l15, iLt_f (by dsimp only; omega), cond_false, iLe_t h0]
    rw [List.drop_eq_nil_of_le (by omega)] at hm
    dsimp only
    have : (met || iEq x 0) = true := by
      rcases hm with h | h | h
      · rw [h]; rfl
      · rw [iEq_t h, Bool.or_true]
      · cases h
    rw [this, Bool.and_self, cond_true, lives11]
    rfl
  | n + 1, i, f + 1, met, hi, hf, hm => by
    have hi' : i < M.length := by omega
    rw [dropG M i hi'] at hm
    have hle := hx (M.getD i default) (by rw [List.getD_eq_getElem?_getD, List.getElem?_eq_getElem hi']; exact List.getElem_mem hi')
    rw [law11_DepthMost_l15, iLt_t (by dsimp only; omega), cond_true, need_of (nIn_of ⟨by dsimp only; omega, by dsimp only; omega⟩)]
    dsimp only
    rw [Int.toNat_natCast, iLt_f (by omega), cond_false, need_of (by rw [nIn_of ⟨by omega, by omega⟩, Bool.or_true]), w64 (by omega), show (i : Int) + 1 = ((i + 1 : Nat) : Int) by omega]
    refine most_loop M x hx h0 hM n (i + 1) f _ (by omega) (by omega) ?_
    rcases hm with h | h | h
    · exact .inl (by rw [h]; rfl)
    · exact .inr (.inl h)
    · rcases List.mem_cons.1 h with h | h
      · exact .inl (by rw [iEq_t h.symm, Bool.or_true])
      · exact .inr (.inr h)
theorem l6_l15 (a : List Int) (x : Int) : ∀ (f : Nat) (s : Bool × Int), law11_DepthMost_l6 a x f s = law11_DepthMost_l15 ((a.take (300 : Int).toNat).drop (0 : Int).toNat) x f s
  | 0, s => rfl
  | f + 1, s => by
    rw [law11_DepthMost_l6, law11_DepthMost_l15, l6_l15 a x f]
theorem DepthMost_pure (a0 : List Int) : law11_DepthMost a0 = some true := by
  unfold law11_DepthMost
  have key : ∀ M : List Int, M.length ≤ 300 → law11_DepthMost_l15 M (M.foldl iMax 0) fuel (false, 0) = some true := fun M hM => by
    obtain ⟨h1, h2, h3⟩ := max_facts M 0
    exact most_loop M _ h2 h1 hM M.length 0 fuel false (by omega) (by have := fuel_big; omega) (.inr (by rw [List.drop_zero]; exact h3))
  by_cases h : 300 < (a0.length : Int)
  · rw [iLt_t h, cond_true, need_of (nSl_of ⟨by decide, by decide, by omega⟩)]
    have hl : ((a0.take (300 : Int).toNat).drop (0 : Int).toNat).length ≤ 300 := by
      rw [show (300 : Int).toNat = 300 from rfl, show (0 : Int).toNat = 0 from rfl, List.drop_zero, List.length_take]
      omega
    rw [need_of (nCap_of (by rw [List.length_nil]; omega)), List.nil_append, most_eq _ hl, bindS, l6_l15]
    exact key _ hl
  · rw [iLt_f (by omega), cond_false, need_of (nCap_of (by rw [List.length_nil]; omega)), List.nil_append, most_eq _ (by omega), bindS]
    exact key _ (by omega)
end LJ
