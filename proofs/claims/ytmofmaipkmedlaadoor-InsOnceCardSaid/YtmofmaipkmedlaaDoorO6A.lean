/- Plain laws of operations: their names and forms. -/
import Derived.Test.YtmofmaipkmedlaaDoorPF
import Derived.Test.YtmofmaipkmedlaaDoorXPB
namespace LJ
open Go Go.RowKit
set_option linter.unusedVariables false
set_option linter.unusedSimpArgs false

def opNames : List ByteArray := [(⟨#[112, 117, 115, 104]⟩ : ByteArray), (⟨#[108, 111, 97, 100]⟩ : ByteArray), (⟨#[115, 116, 111, 114, 101]⟩ : ByteArray), (⟨#[97, 100, 100]⟩ : ByteArray), (⟨#[115, 117, 98]⟩ : ByteArray), (⟨#[109, 117, 108]⟩ : ByteArray), (⟨#[100, 105, 118]⟩ : ByteArray), (⟨#[109, 111, 100]⟩ : ByteArray), (⟨#[110, 101, 103]⟩ : ByteArray), (⟨#[108, 116]⟩ : ByteArray), (⟨#[101, 113]⟩ : ByteArray), (⟨#[97, 110, 100]⟩ : ByteArray), (⟨#[111, 114]⟩ : ByteArray), (⟨#[120, 111, 114]⟩ : ByteArray), (⟨#[115, 104, 108]⟩ : ByteArray), (⟨#[115, 104, 114]⟩ : ByteArray), (⟨#[100, 117, 112]⟩ : ByteArray), (⟨#[100, 114, 111, 112]⟩ : ByteArray), (⟨#[106, 117, 109, 112]⟩ : ByteArray), (⟨#[122, 101, 114, 111]⟩ : ByteArray), (⟨#[99, 97, 108, 108]⟩ : ByteArray), (⟨#[114, 101, 116]⟩ : ByteArray), (⟨#[115, 101, 108, 102]⟩ : ByteArray), (⟨#[110, 111, 119]⟩ : ByteArray), (⟨#[111, 117, 116]⟩ : ByteArray), (⟨#[121, 105, 101, 108, 100]⟩ : ByteArray), (⟨#[119, 97, 105, 116]⟩ : ByteArray), (⟨#[119, 97, 105, 116, 102, 111, 114]⟩ : ByteArray), (⟨#[115, 108, 101, 101, 112]⟩ : ByteArray), (⟨#[117, 110, 108, 111, 99, 107]⟩ : ByteArray), (⟨#[112, 111, 115, 116]⟩ : ByteArray), (⟨#[103, 105, 118, 101]⟩ : ByteArray), (⟨#[99, 119, 97, 105, 116]⟩ : ByteArray), (⟨#[99, 119, 97, 105, 116, 102, 111, 114]⟩ : ByteArray), (⟨#[115, 105, 103, 110, 97, 108]⟩ : ByteArray), (⟨#[98, 114, 111, 97, 100, 99, 97, 115, 116]⟩ : ByteArray), (⟨#[101, 110, 114, 111, 108]⟩ : ByteArray), (⟨#[108, 101, 97, 118, 101]⟩ : ByteArray), (⟨#[97, 114, 114, 105, 118, 101]⟩ : ByteArray), (⟨#[97, 114, 114, 105, 118, 101, 102, 111, 114]⟩ : ByteArray), (⟨#[115, 112, 97, 119, 110]⟩ : ByteArray), (⟨#[106, 111, 105, 110]⟩ : ByteArray), (⟨#[106, 111, 105, 110, 102, 111, 114]⟩ : ByteArray), (⟨#[103, 114, 97, 110, 116]⟩ : ByteArray), (⟨#[119, 97, 105, 118, 101]⟩ : ByteArray), (⟨#[114, 101, 97, 100]⟩ : ByteArray), (⟨#[119, 114, 105, 116, 101]⟩ : ByteArray), (⟨#[98, 101, 103, 105, 110]⟩ : ByteArray), (⟨#[99, 111, 109, 109, 105, 116]⟩ : ByteArray), (⟨#[99, 108, 97, 105, 109]⟩ : ByteArray), (⟨#[100, 101, 97, 100]⟩ : ByteArray), (⟨#[109, 101, 110, 100]⟩ : ByteArray)]
def opForms : List ByteArray := [(⟨#[110]⟩ : ByteArray), (⟨#[107]⟩ : ByteArray), (⟨#[107]⟩ : ByteArray), ByteArray.empty, ByteArray.empty, ByteArray.empty, ByteArray.empty, ByteArray.empty, ByteArray.empty, ByteArray.empty, ByteArray.empty, ByteArray.empty, ByteArray.empty, ByteArray.empty, ByteArray.empty, ByteArray.empty, ByteArray.empty, ByteArray.empty, (⟨#[116]⟩ : ByteArray), (⟨#[116]⟩ : ByteArray), (⟨#[102]⟩ : ByteArray), ByteArray.empty, ByteArray.empty, ByteArray.empty, ByteArray.empty, ByteArray.empty, (⟨#[119]⟩ : ByteArray), (⟨#[119]⟩ : ByteArray), ByteArray.empty, (⟨#[117]⟩ : ByteArray), (⟨#[115]⟩ : ByteArray), (⟨#[112]⟩ : ByteArray), (⟨#[99, 109]⟩ : ByteArray), (⟨#[99, 109]⟩ : ByteArray), (⟨#[99]⟩ : ByteArray), (⟨#[99]⟩ : ByteArray), (⟨#[98]⟩ : ByteArray), (⟨#[98]⟩ : ByteArray), (⟨#[98]⟩ : ByteArray), (⟨#[98]⟩ : ByteArray), (⟨#[102]⟩ : ByteArray), (⟨#[106, 106]⟩ : ByteArray), (⟨#[106, 106]⟩ : ByteArray), ByteArray.empty, ByteArray.empty, (⟨#[118]⟩ : ByteArray), (⟨#[118]⟩ : ByteArray), ByteArray.empty, ByteArray.empty, (⟨#[113]⟩ : ByteArray), (⟨#[109]⟩ : ByteArray), (⟨#[109]⟩ : ByteArray)]
def opFormsD : List ByteArray := [(⟨#[110]⟩ : ByteArray), (⟨#[107]⟩ : ByteArray), (⟨#[107]⟩ : ByteArray), (⟨#[46]⟩ : ByteArray), (⟨#[46]⟩ : ByteArray), (⟨#[46]⟩ : ByteArray), (⟨#[46]⟩ : ByteArray), (⟨#[46]⟩ : ByteArray), (⟨#[46]⟩ : ByteArray), (⟨#[46]⟩ : ByteArray), (⟨#[46]⟩ : ByteArray), (⟨#[46]⟩ : ByteArray), (⟨#[46]⟩ : ByteArray), (⟨#[46]⟩ : ByteArray), (⟨#[46]⟩ : ByteArray), (⟨#[46]⟩ : ByteArray), (⟨#[46]⟩ : ByteArray), (⟨#[46]⟩ : ByteArray), (⟨#[116]⟩ : ByteArray), (⟨#[116]⟩ : ByteArray), (⟨#[102]⟩ : ByteArray), (⟨#[46]⟩ : ByteArray), (⟨#[46]⟩ : ByteArray), (⟨#[46]⟩ : ByteArray), (⟨#[46]⟩ : ByteArray), (⟨#[46]⟩ : ByteArray), (⟨#[119]⟩ : ByteArray), (⟨#[119]⟩ : ByteArray), (⟨#[46]⟩ : ByteArray), (⟨#[117]⟩ : ByteArray), (⟨#[115]⟩ : ByteArray), (⟨#[112]⟩ : ByteArray), (⟨#[99, 109]⟩ : ByteArray), (⟨#[99, 109]⟩ : ByteArray), (⟨#[99]⟩ : ByteArray), (⟨#[99]⟩ : ByteArray), (⟨#[98]⟩ : ByteArray), (⟨#[98]⟩ : ByteArray), (⟨#[98]⟩ : ByteArray), (⟨#[98]⟩ : ByteArray), (⟨#[102]⟩ : ByteArray), (⟨#[106, 106]⟩ : ByteArray), (⟨#[106, 106]⟩ : ByteArray), (⟨#[46]⟩ : ByteArray), (⟨#[46]⟩ : ByteArray), (⟨#[118]⟩ : ByteArray), (⟨#[118]⟩ : ByteArray), (⟨#[46]⟩ : ByteArray), (⟨#[46]⟩ : ByteArray), (⟨#[113]⟩ : ByteArray), (⟨#[109]⟩ : ByteArray), (⟨#[109]⟩ : ByteArray)]
theorem opNames_len : opNames.length = 52 := by decide
theorem opForms_len : opForms.length = 52 := by decide
theorem opFormsD_len : opFormsD.length = 52 := by decide
theorem fields_names : strings_Fields (⟨#[112, 117, 115, 104, 32, 108, 111, 97, 100, 32, 115, 116, 111, 114, 101, 32, 97, 100, 100, 32, 115, 117, 98, 32, 109, 117, 108, 32, 100, 105, 118, 32, 109, 111, 100, 32, 110, 101, 103, 32, 108, 116, 32, 101, 113, 32, 97, 110, 100, 32, 111, 114, 32, 120, 111, 114, 32, 115, 104, 108, 32, 115, 104, 114, 32, 100, 117, 112, 32, 100, 114, 111, 112, 32, 106, 117, 109, 112, 32, 122, 101, 114, 111, 32, 99, 97, 108, 108, 32, 114, 101, 116, 32, 115, 101, 108, 102, 32, 110, 111, 119, 32, 111, 117, 116, 32, 121, 105, 101, 108, 100, 32, 119, 97, 105, 116, 32, 119, 97, 105, 116, 102, 111, 114, 32, 115, 108, 101, 101, 112, 32, 117, 110, 108, 111, 99, 107, 32, 112, 111, 115, 116, 32, 103, 105, 118, 101, 32, 99, 119, 97, 105, 116, 32, 99, 119, 97, 105, 116, 102, 111, 114, 32, 115, 105, 103, 110, 97, 108, 32, 98, 114, 111, 97, 100, 99, 97, 115, 116, 32, 101, 110, 114, 111, 108, 32, 108, 101, 97, 118, 101, 32, 97, 114, 114, 105, 118, 101, 32, 97, 114, 114, 105, 118, 101, 102, 111, 114, 32, 115, 112, 97, 119, 110, 32, 106, 111, 105, 110, 32, 106, 111, 105, 110, 102, 111, 114, 32, 103, 114, 97, 110, 116, 32, 119, 97, 105, 118, 101, 32, 114, 101, 97, 100, 32, 119, 114, 105, 116, 101, 32, 98, 101, 103, 105, 110, 32, 99, 111, 109, 109, 105, 116, 32, 99, 108, 97, 105, 109, 32, 100, 101, 97, 100, 32, 109, 101, 110, 100]⟩ : ByteArray) = some opNames := by decide +kernel
theorem fields_forms : strings_Fields (⟨#[110, 32, 107, 32, 107, 32, 46, 32, 46, 32, 46, 32, 46, 32, 46, 32, 46, 32, 46, 32, 46, 32, 46, 32, 46, 32, 46, 32, 46, 32, 46, 32, 46, 32, 46, 32, 116, 32, 116, 32, 102, 32, 46, 32, 46, 32, 46, 32, 46, 32, 46, 32, 119, 32, 119, 32, 46, 32, 117, 32, 115, 32, 112, 32, 99, 109, 32, 99, 109, 32, 99, 32, 99, 32, 98, 32, 98, 32, 98, 32, 98, 32, 102, 32, 106, 106, 32, 106, 106, 32, 46, 32, 46, 32, 118, 32, 118, 32, 46, 32, 46, 32, 113, 32, 109, 32, 109]⟩ : ByteArray) = some opFormsD := by decide +kernel
/-- Is there such an operation? -/
def opK (k : Int) : Bool := iLe 0 k && iLt k 52
theorem opK_iff {k : Int} : opK k = true ↔ 0 ≤ k ∧ k < 52 := by unfold opK; simp only [Bool.and_eq_true, iLe_iff, iLt_iff]
theorem opK_iff' {k : Int} : opK k = false ↔ ¬ (0 ≤ k ∧ k < 52) := by rw [← opK_iff]; simp
theorem op_known_eq (k : Int) : op_known k = some (opK k) := rfl
theorem ref06_Known_eq (k : Int) : ref06_Known k = some (opK k) := by
  unfold ref06_Known opK
  congr 1
  have : iLe k 51 = iLt k 52 := by unfold iLe iLt; congr 1; rw [eq_iff_iff]; omega
  rw [this]
def nameL (k : Int) : ByteArray := cond (opK k) (opNames.getD k.toNat default) ByteArray.empty
def formL (k : Int) : ByteArray := cond (opK k) (opForms.getD k.toNat default) ByteArray.empty
theorem op_Name_eq (k : Int) : op_Name k = some (nameL k) := by
  unfold op_Name nameL
  rw [op_known_eq, bind_some', fields_names, bind_some']
  cases h : opK k with
  | false => rfl
  | true =>
    have := opK_iff.1 h
    rw [Bool.not_true, cond_false, cond_true, need_of (nIn_of (by rw [opNames_len]; omega))]
theorem forms_dot : ∀ k : Fin 52, cond (sEq (opFormsD.getD k default) (⟨#[46]⟩ : ByteArray)) ByteArray.empty (opFormsD.getD k default) = opForms.getD k default := by decide +kernel
theorem op_Form_eq (k : Int) : op_Form k = some (formL k) := by
  unfold op_Form formL
  rw [op_known_eq, bind_some', fields_forms, bind_some']
  cases h : opK k with
  | false => rfl
  | true =>
    have hk := opK_iff.1 h
    rw [Bool.not_true, cond_false, cond_true, need_of (nIn_of (by rw [opFormsD_len]; omega))]
    have := forms_dot ⟨k.toNat, by omega⟩
    dsimp only at this
    rw [← this]
    cases sEq (opFormsD.getD k.toNat default) (⟨#[46]⟩ : ByteArray) <;> rfl
theorem names_ne : ∀ k : Fin 52, opNames.getD k default ≠ ByteArray.empty := by decide +kernel
theorem nameL_empty (k : Int) : sEq (nameL k) ByteArray.empty = !opK k := by
  unfold nameL
  cases h : opK k with
  | false => exact sEq_t rfl
  | true =>
    have hk := opK_iff.1 h
    exact sEq_f (names_ne ⟨k.toNat, by omega⟩)
end LJ
