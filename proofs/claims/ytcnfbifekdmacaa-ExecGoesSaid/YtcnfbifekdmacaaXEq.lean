/- A logic for the walks: structs compared. -/
import Derived.Test.YtcnfbifekdmacaaXVal
import Derived.Laws.StructEq
import Derived.ChangeKeysEq
namespace LJ
open Go Go.RowKit
set_option linter.unusedVariables false
set_option linter.unusedSimpArgs false

section
variable {P : Program} {c : Ctx} {ops : Array Oper} {Q : Exit → Env → Mem → Prop} {E E' : Env} {m m' : Mem} {o : Oper} {l : List Oper}
/-! ### Structs of ints, bools and texts, compared -/
def eqC : List DV → List DV → Option Bool
  | [], [] => some true
  | .int k a :: l, .int k' b :: l' => match decEq k k' with
    | .isTrue _ => match eqC l l' with
      | some r => some (decide (a = b) && r)
      | none => none
    | .isFalse _ => none
  | .bool a :: l, .bool b :: l' => match eqC l l' with
      | some r => some ((a == b) && r)
      | none => none
  | .str a :: l, .str b :: l' => match eqC l l' with
      | some r => some (decide (a = b) && r)
      | none => none
  | _, _ => none
def shp : DV → Nat
  | .int _ _ => 0
  | .bool _ => 1
  | .str _ => 2
  | _ => 3
/-- Fields of one cell each, one behind the other: ints, bools, texts; none without a name. -/
def eqFs (P : Program) : Nat → List Nat → List Field → Bool
  | _, [], [] => true
  | o, k :: ks, f :: fs => decide (f.name ≠ "_") && Nat.beq f.offset o && P.plainKey f.type && (match P.underlying f.type, k with
    | some (.int _), 0 => true
    | some .bool, 1 => true
    | some .string, 2 => true
    | _, _ => false) && eqFs P (o + 1) ks fs
  | _, _, _ => false
def eqOK (P : Program) (T : TypeId) (ks : List Nat) : Bool :=
  !(P.eqGuardType P.depth T) && !(P.stoodInHeld T) && eqFs P 0 ks (P.fieldsOf T).toList && (match P.underlying T with
    | some (.struct _) => true
    | _ => false)
theorem eqC_len : ∀ {ds es : List DV} {b : Bool}, eqC ds es = some b → ds.length = es.length
  | [], [], b, h => rfl
  | [], y :: es, b, h => by simp [eqC] at h
  | x :: ds, [], b, h => by cases x <;> simp [eqC] at h
  | x :: ds, y :: es, b, h => by
    have : ∃ r, eqC ds es = some r := by
      cases x <;> cases y <;> simp only [eqC] at h <;> first
        | (split at h
           · split at h
             · rename_i r hr; exact ⟨r, hr⟩
             · cases h
           · cases h)
        | (split at h
           · rename_i r hr; exact ⟨r, hr⟩
           · cases h)
        | cases h
    obtain ⟨r, hr⟩ := this
    simp [eqC_len hr]
end
end LJ
