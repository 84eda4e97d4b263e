/- What the arguments of a law weigh: the bulk of what a value says is at most the bulk of its reading. -/
import Derived.Test.YtjahbgdjejgkpaaDoorXArg
namespace LJ
open Go Go.RowKit
set_option linter.unusedVariables false
set_option linter.unusedSimpArgs false

/-- Values and letters, each counted each time it is reached. -/
noncomputable def DV.bulk (d : DV) : Nat :=
  DV.rec (motive_1 := fun _ => Nat) (motive_2 := fun _ => Nat) (motive_3 := fun _ => Nat)
    (fun _ _ => 1) (fun _ => 1) (fun s => s.size + 1) 1 1 1 (fun _ _ b => b) (fun _ b => b) (fun _ b => b + 1) (fun n _ b => ((List.range n).map b).sum + 1) (fun _ b => b)
    0 (fun _ _ a b => a + b) 0 (fun _ _ a b => a + b) d
noncomputable def bulkL (l : List DV) : Nat := l.foldr (fun d n => d.bulk + n) 0
@[simp] theorem bulkL_nil : bulkL [] = 0 := rfl
@[simp] theorem bulkL_cons (d : DV) (l : List DV) : bulkL (d :: l) = d.bulk + bulkL l := rfl
@[simp] theorem bulk_int (k : IntKind) (n : Int) : (DV.int k n).bulk = 1 := rfl
@[simp] theorem bulk_bool (b : Bool) : (DV.bool b).bulk = 1 := rfl
@[simp] theorem bulk_str (s : ByteArray) : (DV.str s).bulk = s.size + 1 := rfl
theorem recL (l : List DV) : DV.rec_1 (motive_1 := fun _ => Nat) (motive_2 := fun _ => Nat) (motive_3 := fun _ => Nat)
    (fun _ _ => 1) (fun _ => 1) (fun s => s.size + 1) 1 1 1 (fun _ _ b => b) (fun _ b => b) (fun _ b => b + 1) (fun n _ b => ((List.range n).map b).sum + 1) (fun _ b => b)
    0 (fun _ _ a b => a + b) 0 (fun _ _ a b => a + b) l = bulkL l := by
  induction l with
  | nil => rfl
  | cons d l ih => rw [bulkL_cons, ← ih]; rfl
theorem bulk_slf (n : Nat) (f : Nat → List DV) : (DV.slf n f).bulk = ((List.range n).map (fun i => bulkL (f i))).sum + 1 := by
  have : (DV.slf n f).bulk = ((List.range n).map (fun i => DV.rec_1 (motive_1 := fun _ => Nat) (motive_2 := fun _ => Nat) (motive_3 := fun _ => Nat)
    (fun _ _ => 1) (fun _ => 1) (fun s => s.size + 1) 1 1 1 (fun _ _ b => b) (fun _ b => b) (fun _ b => b + 1) (fun n _ b => ((List.range n).map b).sum + 1) (fun _ b => b)
    0 (fun _ _ a b => a + b) 0 (fun _ _ a b => a + b) (f i))).sum + 1 := rfl
  rw [this]
  simp only [recL]
theorem bulk_slT {α : Type} [Inhabited α] (enc : α → List DV) (l : List α) : (slT enc l).bulk = (l.map fun x => bulkL (enc x)).sum + 1 := by
  have h : (List.range l.length).map (fun i => bulkL (enc (l.getD i default))) = l.map fun x => bulkL (enc x) := by
    apply List.ext_getElem?
    intro i
    by_cases hi : i < l.length
    · simp [hi]
    · simp [hi]
  unfold slT
  rw [bulk_slf, h]
theorem bulkL_append (l k : List DV) : bulkL (l ++ k) = bulkL l + bulkL k := by
  induction l with
  | nil => simp
  | cons d l ih => simp [ih]; omega

/-- Data of that kind, its numbers anything. -/
inductive Shp : CK → DV → Prop
  | int {k : IntKind} {n : Int} : Shp (.int k) (.int k n)
  | bool {b : Bool} : Shp .bool (.bool b)
  | str {s : ByteArray} : Shp .str (.str s)
  | slice {es : List CK} {n : Nat} {f : Nat → List DV} (hl : ∀ i, i < n → (f i).length = es.length) (h : ∀ i, i < n → ∀ (j : Nat) (k : CK) (d : DV), es[j]? = some k → (f i)[j]? = some d → Shp k d) : Shp (.slice es) (.slf n f)
def ShpL (ks : List CK) (ds : List DV) : Prop := ds.length = ks.length ∧ ∀ (j : Nat) (k : CK) (d : DV), ks[j]? = some k → ds[j]? = some d → Shp k d
theorem ShpL.nil : ShpL [] [] := ⟨rfl, fun j k d h => by simp at h⟩
theorem ShpL.cons {k : CK} {ks : List CK} {d : DV} {ds : List DV} (h : Shp k d) (hs : ShpL ks ds) : ShpL (k :: ks) (d :: ds) := by
  refine ⟨by simp [hs.1], fun j k' d' hk hd => ?_⟩
  cases j with
  | zero => simp at hk hd; subst hk; subst hd; exact h
  | succ j => simp at hk hd; exact hs.2 j k' d' hk hd
theorem Shp.slT {α : Type} [Inhabited α] {es : List CK} {enc : α → List DV} {l : List α} (h : ∀ x, ShpL es (enc x)) : Shp (.slice es) (slT enc l) :=
  .slice (fun i hi => (h _).1) (fun i hi => (h _).2)
theorem ShpL.sub {ks : List CK} {ds : List DV} (h : ShpL ks ds) (o n : Nat) : ShpL ((ks.drop o).take n) ((ds.drop o).take n) := by
  refine ⟨by simp [h.1], fun j k d hk hd => h.2 (o + j) k d ?_ ?_⟩
  · rw [List.getElem?_take] at hk
    split at hk
    · rwa [List.getElem?_drop] at hk
    · cases hk
  · rw [List.getElem?_take] at hd
    split at hd
    · rwa [List.getElem?_drop] at hd
    · cases hd

end LJ
