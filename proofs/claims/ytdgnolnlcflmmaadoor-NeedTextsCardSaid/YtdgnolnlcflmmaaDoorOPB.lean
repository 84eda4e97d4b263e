/- Plain laws: the readers, whatever their state. -/
import Derived.Test.YtdgnolnlcflmmaaDoorOPA
namespace LJ
open Go Go.RowKit
set_option linter.unusedVariables false
set_option linter.unusedSimpArgs false

/-- What a reader before l, with error e, makes of a byte, of a number: the error, the value, what is left. -/
def rdB (l : List UInt8) (e : Int) : Int × Nat × List UInt8 := match l with
  | [] => (if e = 0 then 3 else e, 0, [])
  | b :: t => (e, b.toNat, t)
def rdN (l : List UInt8) (e : Int) : Int × Nat × List UInt8 := if e = 0 then numR 0 l else (e, 0, [])
/-- A state that may be. -/
structure RdOK (s : ByteArray) (l : List UInt8) (e : Int) : Prop where
  suf : l <:+ bl s
  err : e ≠ 0 → l = []
theorem RdOK.start (s : ByteArray) : RdOK s (bl s) 0 := ⟨List.suffix_refl _, fun h => absurd rfl h⟩
theorem RdOK.byte {s : ByteArray} {l : List UInt8} {e : Int} (h : RdOK s l e) : RdOK s (rdB l e).2.2 (rdB l e).1 := by
  cases l with
  | nil => exact ⟨List.nil_suffix, fun _ => rfl⟩
  | cons b t =>
    refine ⟨suf_tail h.suf, fun he => ?_⟩
    have := h.err he
    cases this
theorem RdOK.num {s : ByteArray} {l : List UInt8} {e : Int} (h : RdOK s l e) : RdOK s (rdN l e).2.2 (rdN l e).1 := by
  unfold rdN
  split
  · refine ⟨(numR_suffix l 0).trans h.suf, fun he => ?_⟩
    rw [(numR_err l 0 he).1]
  · exact ⟨List.nil_suffix, fun _ => rfl⟩
theorem rdN_lt (l : List UInt8) (e : Int) : (rdN l e).2.1 < 18446744073709551616 := by
  unfold rdN
  split
  · exact numR_lt l
  · simp
theorem In_Byte_gen {s : ByteArray} (hs : s.size ≤ 140737488355328) {l : List UInt8} {e : Int} (h : RdOK s l e) : octet_In_Byte (mkI s l e) = some (((rdB l e).2.1 : Int), mkI s (rdB l e).2.2 (rdB l e).1) := by
  cases l with
  | nil => rw [In_Byte_nil]; rfl
  | cons b t => rw [In_Byte_cons s hs b t e h.suf]; rfl
theorem In_Num_gen {s : ByteArray} (hs : s.size ≤ 140737488355328) {l : List UInt8} {e : Int} (h : RdOK s l e) : octet_In_Num (mkI s l e) = some (((rdN l e).2.1 : Int), mkI s (rdN l e).2.2 (rdN l e).1) := by
  unfold rdN
  by_cases he : e = 0
  · subst he; rw [if_pos rfl]; exact In_Num s hs l h.suf
  · rw [if_neg he, h.err he]; exact In_Num_err s e he
theorem zag_0 : zag 0 = 0 := by unfold zag; simp
theorem In_Left_gen {s : ByteArray} (hs : s.size ≤ 140737488355328) {l : List UInt8} {e : Int} (h : RdOK s l e) : octet_In_Left (mkI s l e) = some (l.length : Int) := In_Left s hs l e h.suf
theorem In_Err_gen (s : ByteArray) (l : List UInt8) (e : Int) : octet_In_Err (mkI s l e) = some e := rfl
theorem In_fail_gen {s : ByteArray} {l : List UInt8} {e : Int} (h : RdOK s l e) (x : Int) : octet_In_fail (mkI s l e) x = some (mkI s [] (if e = 0 then x else e)) := In_fail s l e x h.err
end LJ