/- The law FrameRuns, plainly. -/
import Derived.Test.YtkgbjabenghegaaF14B
namespace LJ
open Go Go.RowKit
set_option linter.unusedVariables false
set_option linter.unusedSimpArgs false

theorem lives14 : law14_lives = some true := by decide +kernel
/-- Frames as they come: few, with all their places. -/
def GoodF (l : List Fr) : Prop := l.length ≤ 8 ∧ ∀ f ∈ l, FW f
theorem GoodF.last {l : List Fr} (h : GoodF l) (h0 : 0 < l.length) : FW (lastF l) := by
  refine h.2 _ ?_
  unfold lastF
  rw [List.getD_eq_getElem?_getD, List.getElem?_eq_getElem (by omega)]
  exact List.getElem_mem _
theorem GoodF.put {l : List Fr} (h : GoodF l) {f : Fr} (hf : FW f) : GoodF (putF l f) := by
  refine ⟨by rw [putF_len]; exact h.1, fun g hg => ?_⟩
  unfold putF at hg
  rcases List.mem_or_eq_of_mem_set hg with h1 | h1
  · exact h.2 g h1
  · rw [h1]; exact hf
theorem GoodF.take {l : List Fr} (h : GoodF l) (n : Nat) : GoodF (l.take n) := ⟨by rw [List.length_take]; have := h.1; omega, fun f hf => h.2 f (List.mem_of_mem_take hf)⟩
theorem GoodF.nil : GoodF [] := ⟨by simp, fun f h => (by cases h)⟩
theorem good_push {l : List Fr} (h : GoodF l) (v : Int) : GoodF (pushF l v).1 := by
  unfold pushF
  split
  · exact GoodF.nil
  · exact h.put ⟨(h.last (by omega)).1, aset_len ..⟩
theorem good_pop {l : List Fr} (h : GoodF l) (n : Int) : GoodF (popF l n).1 := by
  unfold popF
  split
  · exact GoodF.nil
  · exact h.put ⟨(h.last (by omega)).1, afill_len ..⟩
theorem good_turn {l : List Fr} (h : GoodF l) (v : Int) : GoodF (turnF l v) := by
  unfold turnF
  split
  · exact h
  · exact h.put ⟨(h.last (by omega)).1, aset_len ..⟩
theorem good_call {l : List Fr} (h : GoodF l) (fn n : Int) : GoodF (callF l fn n).1 := by
  unfold callF
  split
  · exact GoodF.nil
  · rename_i hc
    have hp := good_pop h n
    have hlen := popF_len l n (fun h' => hc (.inl h'))
    refine ⟨by simp [hlen]; omega, fun f hf => ?_⟩
    rcases List.mem_append.1 hf with h1 | h1
    · exact hp.2 f h1
    · rw [List.mem_singleton.1 h1]; exact newF_w _ _
theorem good_ret {l : List Fr} (h : GoodF l) : GoodF (retF l).1 := by
  unfold retF
  split
  · exact GoodF.nil
  · split
    · exact GoodF.nil
    · split
      · exact GoodF.nil
      · exact good_push (h.take _) _
theorem good_store {l : List Fr} (h : GoodF l) (k v : Int) : GoodF (storeF l k v) := by
  unfold storeF
  split
  · exact h
  · exact h.put ⟨aset_len .., (h.last (by omega)).2⟩
theorem good_go {l : List Fr} (h : GoodF l) (pc : Int) : GoodF (goF l pc) := by
  unfold goF
  split
  · exact h
  · exact h.put (h.last (by omega))
theorem cond_ite {α : Type} (b : Bool) (x y : α) : cond (!b) x y = cond b y x := by cases b <;> rfl
theorem good_cond {b : Bool} {x y : List Fr} (hx : GoodF x) (hy : GoodF y) : GoodF (cond b x y) := by cases b <;> assumption
def doF (l : List Fr) (o : T_ref14_Op) : List Fr :=
  cond (iEq o.Kind 0) (cond (pushF l o.V).2 (pushF l o.V).1 l) (cond (iEq o.Kind 1) (cond (popF l o.K).2.2 (popF l o.K).1 l) (cond (iEq o.Kind 2) (turnF l o.V) (cond (iEq o.Kind 3) (cond (callF l o.V o.K).2 (callF l o.V o.K).1 l) (cond (iEq o.Kind 4) (cond (retF l).2.2 (retF l).1 l) (cond (iEq o.Kind 5) (storeF l o.K o.V) (goF l o.V))))))
theorem good_do {l : List Fr} (h : GoodF l) (o : T_ref14_Op) : GoodF (doF l o) := by
  unfold doF
  exact good_cond (good_cond (good_push h _) h) (good_cond (good_cond (good_pop h _) h) (good_cond (good_turn h _) (good_cond (good_cond (good_call h _ _) h) (good_cond (good_cond (good_ret h) h) (good_cond (good_store h _ _) (good_go h _))))))
theorem Do_eq {l : List Fr} (h : GoodF l) (o : T_ref14_Op) : ref14_Do l o = some (doF l o) := by
  have hl : l.length ≤ 1000 := by have := h.1; omega
  have hw := h.last
  unfold ref14_Do doF
  rw [ref_Push_eq hl, ref_Pop_eq hl hw, ref_Turn_eq hl hw, ref_Call_eq hl hw, ref_Ret_eq hl hw, ref_Store_eq hl, ref_Go_eq hl]
  simp only [bind_some']
  cases iEq o.Kind 0
  · cases iEq o.Kind 1
    · cases iEq o.Kind 2
      · cases iEq o.Kind 3
        · cases iEq o.Kind 4
          · cases iEq o.Kind 5 <;> rfl
          · simp only [cond_true, cond_false]; cases (retF l).2.2 <;> rfl
        · simp only [cond_true, cond_false]; cases (callF l o.V o.K).2 <;> rfl
      · rfl
    · simp only [cond_true, cond_false]; cases (popF l o.K).2.2 <;> rfl
  · simp only [cond_true]; cases (pushF l o.V).2 <;> rfl
theorem FrameRuns_l4_eq (a : List T_ref14_Op) : ∀ (n i f : Nat) (x : List Fr), i + n = min a.length 100 → n < f → GoodF x → law14_FrameRuns_l4 a f (x, x, (i : Int)) = some true
  | n, i, 0, x, hi, hf, hx => by omega
  | 0, i, f + 1, x, hi, hf, hx => by
    rw [law14_FrameRuns_l4]
    dsimp only
    rw [show (iLt (i : Int) (a.length : Int) && iLt (i : Int) 100) = false by rw [Bool.and_eq_false_iff, iLt_iff', iLt_iff']; omega, cond_false, lives14]
    rfl
  | n + 1, i, f + 1, x, hi, hf, hx => by
    have hl : x.length ≤ 1000 := by have := hx.1; omega
    rw [law14_FrameRuns_l4]
    dsimp only
    rw [iLt_t (by omega), iLt_t (by omega), Bool.and_self, cond_true, withK_eqF, need_of (nIn_of ⟨by omega, by omega⟩), Int.toNat_natCast, w64 (by omega), show (i : Int) + 1 = ((i + 1 : Nat) : Int) by omega]
    generalize a.getD i default = o
    have hd := good_do hx o
    have hld : (doF x o).length ≤ 1000 := by have := hd.1; omega
    have hK := FrameRuns_l4_eq a n (i + 1) f (doF x o) (by omega) (by omega) hd
    rw [frame_Push_eq hl, frame_Pop_eq hl, frame_Turn_eq hl, frame_Call_eq hl, frame_Ret_eq hl, frame_Store_eq hl, frame_Go_eq hl]
    simp only [bind_some', Do_eq hx]
    have fin : ∀ y, y = doF x o → (ref14_Same y (doF x o)).bind (fun z => cond (!z) (some false) (law14_FrameRuns_l4 a f (y, doF x o, ((i + 1 : Nat) : Int)))) = some true := fun y hy => by
      subst hy
      rw [ref_Same_eq _ hld, bind_some', Bool.not_true, cond_false, hK]
    have e : doF x o = doF x o := rfl
    conv at e => rhs; unfold doF
    cases h0 : iEq o.Kind 0 with
    | true =>
      rw [h0, cond_true] at e
      cases h : (pushF x o.V).2 <;> rw [h] at e <;> simp only [cond_true, cond_false] at e ⊢ <;> exact fin _ e.symm
    | false =>
      cases h1 : iEq o.Kind 1 with
      | true =>
        rw [h0, h1, cond_false, cond_true] at e
        cases h : (popF x o.K).2.2 <;> rw [h] at e <;> simp only [cond_true, cond_false] at e ⊢ <;> exact fin _ e.symm
      | false =>
        cases h2 : iEq o.Kind 2 with
        | true =>
          rw [h0, h1, h2, cond_false, cond_false, cond_true] at e
          simp only [cond_true, cond_false]
          exact fin _ e.symm
        | false =>
          cases h3 : iEq o.Kind 3 with
          | true =>
            rw [h0, h1, h2, h3, cond_false, cond_false, cond_false, cond_true] at e
            cases h : (callF x o.V o.K).2 <;> rw [h] at e <;> simp only [cond_true, cond_false] at e ⊢ <;> exact fin _ e.symm
          | false =>
            cases h4 : iEq o.Kind 4 with
            | true =>
              rw [h0, h1, h2, h3, h4, cond_false, cond_false, cond_false, cond_false, cond_true] at e
              cases h : (retF x).2.2 <;> rw [h] at e <;> simp only [cond_true, cond_false] at e ⊢ <;> exact fin _ e.symm
            | false =>
              cases h5 : iEq o.Kind 5 with
              | true =>
                rw [h0, h1, h2, h3, h4, h5, cond_false, cond_false, cond_false, cond_false, cond_false, cond_true] at e
                simp only [cond_true, cond_false]
                exact fin _ e.symm
              | false =>
                rw [h0, h1, h2, h3, h4, h5, cond_false, cond_false, cond_false, cond_false, cond_false, cond_false] at e
                simp only [cond_true, cond_false]
                exact fin _ e.symm
theorem FrameRuns_pure (a0 : Int) (a1 : List T_ref14_Op) : law14_FrameRuns a0 a1 = some true := by
  unfold law14_FrameRuns
  rw [frame_New_eq, bind_some', ref_New_eq, bind_some']
  exact FrameRuns_l4_eq a1 (min a1.length 100) 0 fuel [newF a0 []] (by omega) (by have := fuel_big; omega) ⟨by simp, fun f hf => by rw [List.mem_singleton.1 hf]; exact newF_w _ _⟩
end LJ
