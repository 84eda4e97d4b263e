/- Plain laws: words, lists by place. -/
import Derived.Test.YtmofmaipkmedlaaDoorOPB
namespace LJ
open Go Go.RowKit
set_option linter.unusedVariables false
set_option linter.unusedSimpArgs false

theorem cond_some {α : Type} (b : Bool) (x y : α) : cond b (some x) (some y) = some (cond b x y) := by cases b <;> rfl
theorem iEq_comm (a b : Int) : iEq a b = iEq b a := by
  unfold iEq
  by_cases h : a = b
  · subst h; rfl
  · rw [decide_eq_false h, decide_eq_false (fun h' => h h'.symm)]
def fitW (a : Int) : Bool := iLe (-2147483648) a && iLt a 2147483648
theorem word_Fits_eq (a : Int) : word_Fits a = some (fitW a) := by
  unfold word_Fits fitW
  congr 1
  rw [Bool.eq_iff_iff]
  simp only [iEq_iff, Bool.and_eq_true, iLe_iff, iLt_iff]
  have h := IntKind.wrap_i32 a
  have h2 : -2147483648 ≤ IntKind.i32.wrap a ∧ IntKind.i32.wrap a < 2147483648 := by
    rw [h]; omega
  rw [w64 (by omega), h]
  omega
theorem cond_not {α : Type} (b : Bool) (x y : α) : cond (!b) x y = cond b y x := by cases b <;> rfl
theorem ref03_Fits_eq (a : Int) : ref03_Fits a = some (fitW a) := rfl
theorem getD_drop {α : Type} [Inhabited α] (L : List α) (i : Nat) (h : i < L.length) : L.drop i = L.getD i default :: L.drop (i + 1) := by
  rw [List.drop_eq_getElem_cons h]
  simp [List.getD_eq_getElem?_getD, h]
end LJ
