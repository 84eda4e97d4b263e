/- The law ExecPure, plainly; what an instruction makes of any frames ends. -/
import Derived.Test.YtcnfbifekdmacaaE15O
namespace LJ
open Go Go.RowKit
set_option linter.unusedVariables false
set_option linter.unusedSimpArgs false

/-- Some frames, an effect, a fault. -/
abbrev Ex := (List Fr) × T_api_Effect × Int
def noE : T_api_Effect := ⟨-1, 0, 0, [0, 0, 0, 0, 0]⟩
def localF (l : List Fr) (k : Int) : Int := if l.length = 0 ∨ k < 0 ∨ 8 ≤ k then 0 else (lastF l).L.getD k.toNat default
theorem frame_Local_eq {l : List Fr} (hl : l.length ≤ 1000) (k : Int) : frame_Local l k = some (localF l k) := by
  unfold frame_Local localF
  by_cases hc : l.length = 0 ∨ k < 0 ∨ 8 ≤ k
  · rw [if_pos hc, show ((iEq (l.length : Int) 0 || iLt k 0) || iLe 8 k) = true by
      rw [Bool.or_eq_true, Bool.or_eq_true, iEq_iff, iLt_iff, iLe_iff]; omega, cond_true]
  · rw [if_neg hc, show ((iEq (l.length : Int) 0 || iLt k 0) || iLe 8 k) = false by
      rw [Bool.or_eq_false_iff, Bool.or_eq_false_iff, iEq_iff', iLt_iff', iLe_iff']; omega, cond_false, lastD (by omega) hl, Int.toNat_natCast, show l.getD (l.length - 1) default = lastF l from rfl, need_of (nIn_of ⟨by omega, by omega⟩), need_of (nIn_of ⟨by omega, by omega⟩)]
/-- The instruction at which the last frame is. -/
def atE (p : T_api_Program) (l : List Fr) : T_api_Ins × Int × Bool :=
  if l.length = 0 ∨ (lastF l).Fn < 0 ∨ (p.Funcs.length : Int) ≤ (lastF l).Fn ∨ (lastF l).Pc < 0 ∨ ((p.Funcs.getD (lastF l).Fn.toNat default).Code.length : Int) ≤ (lastF l).Pc then (⟨0, 0, 0⟩, 0, false)
  else ((p.Funcs.getD (lastF l).Fn.toNat default).Code.getD (lastF l).Pc.toNat default, (lastF l).Pc, true)
theorem exec_at_eq (p : T_api_Program) {l : List Fr} (hl : l.length ≤ 1000) : exec_at p l = some (atE p l) := by
  unfold exec_at atE
  by_cases h0 : l.length = 0
  · rw [iEq_t (by omega), cond_true, if_pos (.inl h0)]
  · rw [iEq_f (by omega), cond_false, lastD (by omega) hl, Int.toNat_natCast, show l.getD (l.length - 1) default = lastF l from rfl, need_of (nIn_of ⟨by omega, by omega⟩)]
    by_cases h1 : (lastF l).Fn < 0 ∨ (p.Funcs.length : Int) ≤ (lastF l).Fn ∨ (lastF l).Pc < 0
    · have e : ((iLt (lastF l).Fn 0 || iLe (p.Funcs.length : Int) (lastF l).Fn) || iLt (lastF l).Pc 0) = true := by
        rw [Bool.or_eq_true, Bool.or_eq_true, iLt_iff, iLt_iff, iLe_iff]; omega
      rw [e, if_pos (by omega)]
      rfl
    · have e : ((iLt (lastF l).Fn 0 || iLe (p.Funcs.length : Int) (lastF l).Fn) || iLt (lastF l).Pc 0) = false := by
        rw [Bool.or_eq_false_iff, Bool.or_eq_false_iff, iLt_iff', iLt_iff', iLe_iff']; omega
      have hn : nIn (lastF l).Fn (p.Funcs.length : Int) = true := nIn_of ⟨by omega, by omega⟩
      rw [e, need_of (show (!(!false) || nIn (lastF l).Fn (p.Funcs.length : Int)) = true by rw [hn]; rfl), Bool.false_or]
      by_cases h2 : ((p.Funcs.getD (lastF l).Fn.toNat default).Code.length : Int) ≤ (lastF l).Pc
      · rw [iLe_t h2, cond_true, if_pos (by omega)]
      · rw [iLe_f (by omega), cond_false, need_of hn, need_of (nIn_of ⟨by omega, by omega⟩), if_neg (by omega)]
def callE (p : T_api_Program) (l same : List Fr) (fn : Int) : Ex :=
  if 8 ≤ l.length then (same, noE, 3) else if fn < 0 ∨ (p.Funcs.length : Int) ≤ fn then (same, noE, 0)
  else cond (callF l fn (p.Funcs.getD fn.toNat default).Args).2 ((callF l fn (p.Funcs.getD fn.toNat default).Args).1, noE, 0) (same, noE, 0)
theorem exec_call_eq (p : T_api_Program) {l : List Fr} (hl : l.length ≤ 1000) (same : List Fr) (fn : Int) : exec_call p l same fn = some (callE p l same fn) := by
  unfold exec_call callE
  by_cases h1 : 8 ≤ l.length
  · rw [iLe_t (by omega), cond_true, if_pos h1]; rfl
  · rw [iLe_f (by omega), cond_false, if_neg h1]
    by_cases h2 : fn < 0 ∨ (p.Funcs.length : Int) ≤ fn
    · rw [show (iLt fn 0 || iLe (p.Funcs.length : Int) fn) = true by rw [Bool.or_eq_true, iLt_iff, iLe_iff]; exact h2, cond_true, if_pos h2]; rfl
    · rw [show (iLt fn 0 || iLe (p.Funcs.length : Int) fn) = false by rw [Bool.or_eq_false_iff, iLt_iff', iLe_iff']; omega, cond_false, if_neg h2, need_of (nIn_of ⟨by omega, by omega⟩), frame_Call_eq hl, bind_some']
      cases (callF l fn (p.Funcs.getD fn.toNat default).Args).2 <;> rfl
theorem Pure_eq (n : Int) : exec_Pure n = some (iLe 0 n && iLe n 23) := rfl
theorem sc {α : Type} {b : Bool} {x y : Option α} (h : b = true → x.isSome = true) (h' : b = false → y.isSome = true) : (cond b x y).isSome = true := by
  cases b with
  | true => exact h rfl
  | false => exact h' rfl
theorem exact_some (a : Int) : ∃ r, word_exact a = some r := by
  unfold word_exact word_Fits
  rw [bind_some']
  cases iEq (IntKind.i64.wrap (IntKind.i32.wrap a)) a <;> exact ⟨_, rfl⟩
theorem exact_isSome (a : Int) : ((word_exact a).bind fun x : Int × Int => some (x.1, x.2)).isSome = true := by
  obtain ⟨r, h⟩ := exact_some a
  rw [h]; rfl
theorem flag_isSome (b : Bool) : ((word_flag b).bind fun x : Int => some (x, (0 : Int))).isSome = true := by cases b <;> rfl
theorem and31 (a : Int) : nNn (Go.bits .and .u32 a 31) = true := by
  refine nNn_of ?_
  show 0 ≤ IntKind.u32.wrap _
  rw [IntKind.wrap_u32]
  omega
theorem word_Do_some (k a b : Int) : ∃ r, word_Do k a b = some r := by
  refine Option.isSome_iff_exists.1 ?_
  unfold word_Do
  refine sc (fun _ => exact_isSome _) fun _ => sc (fun _ => exact_isSome _) fun _ => sc (fun _ => exact_isSome _) fun _ => sc (fun _ => exact_isSome _) fun _ => sc (fun _ => ?_) fun _ => sc (fun _ => ?_) fun _ => sc (fun _ => flag_isSome _) fun _ => sc (fun _ => flag_isSome _) fun _ => sc (fun _ => rfl) fun _ => sc (fun _ => rfl) fun _ => sc (fun _ => rfl) fun _ => sc (fun _ => ?_) fun _ => sc (fun _ => ?_) fun _ => rfl
  · exact sc (fun _ => rfl) fun h => sc (fun _ => by rw [need_of (nNz_of (by simpa using h))]; rfl) fun _ => by rw [need_of (nNz_of (by simpa using h))]; exact exact_isSome _
  · exact sc (fun _ => rfl) fun h => sc (fun _ => by rw [need_of (nNz_of (by simpa using h))]; rfl) fun _ => by rw [need_of (nNz_of (by simpa using h))]; exact exact_isSome _
  · rw [need_of (and31 _)]; rfl
  · rw [need_of (and31 _)]; rfl
end LJ