/- The law FrameRuns, plainly. -/
import Derived.Test.YtcnfbifekdmacaaF14B
namespace LJ
open Go Go.RowKit
set_option linter.unusedVariables false
set_option linter.unusedSimpArgs false

/-- Frames as they come: few, with all their places. -/
def GoodF (l : List Fr) : Prop := l.length ≤ 8 ∧ ∀ f ∈ l, FW f
theorem GoodF.last {l : List Fr} (h : GoodF l) (h0 : 0 < l.length) : FW (lastF l) := by
  refine h.2 _ ?_
  unfold lastF
  rw [List.getD_eq_getElem?_getD, List.getElem?_eq_getElem (by omega)]
  exact List.getElem_mem _
theorem GoodF.put {l : List Fr} (h : GoodF l) {f : Fr} (hf : FW f) : GoodF (putF l f) := by
  refine ⟨by rw [putF_len]; exact h.1, fun g hg => ?_⟩
  unfold putF at hg
  rcases List.mem_or_eq_of_mem_set hg with h1 | h1
  · exact h.2 g h1
  · rw [h1]; exact hf
theorem GoodF.take {l : List Fr} (h : GoodF l) (n : Nat) : GoodF (l.take n) := ⟨by rw [List.length_take]; have := h.1; omega, fun f hf => h.2 f (List.mem_of_mem_take hf)⟩
theorem GoodF.nil : GoodF [] := ⟨by simp, fun f h => (by cases h)⟩
theorem good_push {l : List Fr} (h : GoodF l) (v : Int) : GoodF (pushF l v).1 := by
  unfold pushF
  split
  · exact GoodF.nil
  · exact h.put ⟨(h.last (by omega)).1, aset_len ..⟩
theorem good_pop {l : List Fr} (h : GoodF l) (n : Int) : GoodF (popF l n).1 := by
  unfold popF
  split
  · exact GoodF.nil
  · exact h.put ⟨(h.last (by omega)).1, afill_len ..⟩
theorem good_turn {l : List Fr} (h : GoodF l) (v : Int) : GoodF (turnF l v) := by
  unfold turnF
  split
  · exact h
  · exact h.put ⟨(h.last (by omega)).1, aset_len ..⟩
theorem good_call {l : List Fr} (h : GoodF l) (fn n : Int) : GoodF (callF l fn n).1 := by
  unfold callF
  split
  · exact GoodF.nil
  · rename_i hc
    have hp := good_pop h n
    have hlen := popF_len l n (fun h' => hc (.inl h'))
    refine ⟨by simp [hlen]; omega, fun f hf => ?_⟩
    rcases List.mem_append.1 hf with h1 | h1
    · exact hp.2 f h1
    · rw [List.mem_singleton.1 h1]; exact newF_w _ _
theorem good_ret {l : List Fr} (h : GoodF l) : GoodF (retF l).1 := by
  unfold retF
  split
  · exact GoodF.nil
  · split
    · exact GoodF.nil
    · split
      · exact GoodF.nil
      · exact good_push (h.take _) _
theorem good_store {l : List Fr} (h : GoodF l) (k v : Int) : GoodF (storeF l k v) := by
  unfold storeF
  split
  · exact h
  · exact h.put ⟨aset_len .., (h.last (by omega)).2⟩
theorem good_go {l : List Fr} (h : GoodF l) (pc : Int) : GoodF (goF l pc) := by
  unfold goF
  split
  · exact h
  · exact h.put (h.last (by omega))
theorem cond_ite {α : Type} (b : Bool) (x y : α) : cond (!b) x y = cond b y x := by cases b <;> rfl
theorem good_cond {b : Bool} {x y : List Fr} (hx : GoodF x) (hy : GoodF y) : GoodF (cond b x y) := by cases b <;> assumption
end LJ