/- The law ExecPure, plainly; what an instruction makes of any frames ends. -/
import Derived.Test.YtcnfbifekdmacaaE15O
namespace LJ
open Go Go.RowKit
set_option linter.unusedVariables false
set_option linter.unusedSimpArgs false

theorem lives15 : law15_lives = some true := by decide +kernel
theorem ExecPure_pure (n : Int) : law15_ExecPure n = some true := by
  unfold law15_ExecPure exec_Pure
  rw [bind_some', show ((iLe 0 n && iLe n 23) == (iLe 0 n && iLe n 23)) = true from beq_self_eq_true _, cond_true, lives15]
  rfl
/-- Some frames, an effect, a fault. -/
abbrev Ex := (List Fr) × T_api_Effect × Int
def noE : T_api_Effect := ⟨-1, 0, 0, [0, 0, 0, 0, 0]⟩
def localF (l : List Fr) (k : Int) : Int := if l.length = 0 ∨ k < 0 ∨ 8 ≤ k then 0 else (lastF l).L.getD k.toNat default
theorem frame_Local_eq {l : List Fr} (hl : l.length ≤ 1000) (k : Int) : frame_Local l k = some (localF l k) := by
  unfold frame_Local localF
  by_cases hc : l.length = 0 ∨ k < 0 ∨ 8 ≤ k
  · rw [if_pos hc, show ((iEq (l.length : Int) 0 || iLt k 0) || iLe 8 k) = true by
      rw [Bool.or_eq_true, Bool.or_eq_true, iEq_iff, iLt_iff, iLe_iff]; omega, cond_true]
  · rw [if_neg hc, show ((iEq (l.length : Int) 0 || iLt k 0) || iLe 8 k) = false by
      rw [Bool.or_eq_false_iff, Bool.or_eq_false_iff, iEq_iff', iLt_iff', iLe_iff']; omega, cond_false, lastD (by omega) hl, Int.toNat_natCast, show l.getD (l.length - 1) default = lastF l from rfl, need_of (nIn_of ⟨by omega, by omega⟩), need_of (nIn_of ⟨by omega, by omega⟩)]
/-- The instruction at which the last frame is. -/
def atE (p : T_api_Program) (l : List Fr) : T_api_Ins × Int × Bool :=
  if l.length = 0 ∨ (lastF l).Fn < 0 ∨ (p.Funcs.length : Int) ≤ (lastF l).Fn ∨ (lastF l).Pc < 0 ∨ ((p.Funcs.getD (lastF l).Fn.toNat default).Code.length : Int) ≤ (lastF l).Pc then (⟨0, 0, 0⟩, 0, false)
  else ((p.Funcs.getD (lastF l).Fn.toNat default).Code.getD (lastF l).Pc.toNat default, (lastF l).Pc, true)
theorem exec_at_eq (p : T_api_Program) {l : List Fr} (hl : l.length ≤ 1000) : exec_at p l = some (atE p l) := by
  unfold exec_at atE
  by_cases h0 : l.length = 0
  · rw [iEq_t (by omega), cond_true, if_pos (.inl h0)]
  · rw [iEq_f (by omega), cond_false, lastD (by omega) hl, Int.toNat_natCast, show l.getD (l.length - 1) default = lastF l from rfl, need_of (nIn_of ⟨by omega, by omega⟩)]
    by_cases h1 : (lastF l).Fn < 0 ∨ (p.Funcs.length : Int) ≤ (lastF l).Fn ∨ (lastF l).Pc < 0
    · have e : ((iLt (lastF l).Fn 0 || iLe (p.Funcs.length : Int) (lastF l).Fn) || iLt (lastF l).Pc 0) = true := by
        rw [Bool.or_eq_true, Bool.or_eq_true, iLt_iff, iLt_iff, iLe_iff]; omega
      rw [e, if_pos (by omega)]
      rfl
    · have e : ((iLt (lastF l).Fn 0 || iLe (p.Funcs.length : Int) (lastF l).Fn) || iLt (lastF l).Pc 0) = false := by
        rw [Bool.or_eq_false_iff, Bool.or_eq_false_iff, iLt_iff', iLt_iff', iLe_iff']; omega
      have hn : nIn (lastF l).Fn (p.Funcs.length : Int) = true := nIn_of ⟨by omega, by omega⟩
      rw [e, need_of (show (!(!false) || nIn (lastF l).Fn (p.Funcs.length : Int)) = true by rw [hn]; rfl), Bool.false_or]
      by_cases h2 : ((p.Funcs.getD (lastF l).Fn.toNat default).Code.length : Int) ≤ (lastF l).Pc
      · rw [iLe_t h2, cond_true, if_pos (by omega)]
      · rw [iLe_f (by omega), cond_false, need_of hn, need_of (nIn_of ⟨by omega, by omega⟩), if_neg (by omega)]
def callE (p : T_api_Program) (l same : List Fr) (fn : Int) : Ex :=
  if 8 ≤ l.length then (same, noE, 3) else if fn < 0 ∨ (p.Funcs.length : Int) ≤ fn then (same, noE, 0)
  else cond (callF l fn (p.Funcs.getD fn.toNat default).Args).2 ((callF l fn (p.Funcs.getD fn.toNat default).Args).1, noE, 0) (same, noE, 0)
theorem exec_call_eq (p : T_api_Program) {l : List Fr} (hl : l.length ≤ 1000) (same : List Fr) (fn : Int) : exec_call p l same fn = some (callE p l same fn) := by
  unfold exec_call callE
  by_cases h1 : 8 ≤ l.length
  · rw [iLe_t (by omega), cond_true, if_pos h1]; rfl
  · rw [iLe_f (by omega), cond_false, if_neg h1]
    by_cases h2 : fn < 0 ∨ (p.Funcs.length : Int) ≤ fn
    · rw [show (iLt fn 0 || iLe (p.Funcs.length : Int) fn) = true by rw [Bool.or_eq_true, iLt_iff, iLe_iff]; exact h2, cond_true, if_pos h2]; rfl
    · rw [show (iLt fn 0 || iLe (p.Funcs.length : Int) fn) = false by rw [Bool.or_eq_false_iff, iLt_iff', iLe_iff']; omega, cond_false, if_neg h2, need_of (nIn_of ⟨by omega, by omega⟩), frame_Call_eq hl, bind_some']
      cases (callF l fn (p.Funcs.getD fn.toNat default).Args).2 <;> rfl
theorem putF_le {l : List Fr} (hl : l.length ≤ 1000) (f : Fr) : (putF l f).length ≤ 1000 := by rw [putF_len]; exact hl
theorem goF_len (l : List Fr) (pc : Int) : (goF l pc).length = l.length := by
  unfold goF
  split
  · rfl
  · exact putF_len _ _
theorem pushF_le {l : List Fr} (hl : l.length ≤ 1000) (v : Int) : (pushF l v).1.length ≤ 1000 := by
  unfold pushF
  split
  · simp
  · exact putF_le hl _
theorem popF_le {l : List Fr} (hl : l.length ≤ 1000) (v : Int) : (popF l v).1.length ≤ 1000 := by
  unfold popF
  split
  · simp
  · exact putF_le hl _
theorem Pure_eq (n : Int) : exec_Pure n = some (iLe 0 n && iLe n 23) := rfl
theorem sc {α : Type} {b : Bool} {x y : Option α} (h : b = true → x.isSome = true) (h' : b = false → y.isSome = true) : (cond b x y).isSome = true := by
  cases b with
  | true => exact h rfl
  | false => exact h' rfl
theorem exact_some (a : Int) : ∃ r, word_exact a = some r := by
  unfold word_exact word_Fits
  rw [bind_some']
  cases iEq (IntKind.i64.wrap (IntKind.i32.wrap a)) a <;> exact ⟨_, rfl⟩
theorem exact_isSome (a : Int) : ((word_exact a).bind fun x : Int × Int => some (x.1, x.2)).isSome = true := by
  obtain ⟨r, h⟩ := exact_some a
  rw [h]; rfl
theorem flag_isSome (b : Bool) : ((word_flag b).bind fun x : Int => some (x, (0 : Int))).isSome = true := by cases b <;> rfl
theorem and31 (a : Int) : nNn (Go.bits .and .u32 a 31) = true := by
  refine nNn_of ?_
  show 0 ≤ IntKind.u32.wrap _
  rw [IntKind.wrap_u32]
  omega
theorem word_Do_some (k a b : Int) : ∃ r, word_Do k a b = some r := by
  refine Option.isSome_iff_exists.1 ?_
  unfold word_Do
  refine sc (fun _ => exact_isSome _) fun _ => sc (fun _ => exact_isSome _) fun _ => sc (fun _ => exact_isSome _) fun _ => sc (fun _ => exact_isSome _) fun _ => sc (fun _ => ?_) fun _ => sc (fun _ => ?_) fun _ => sc (fun _ => flag_isSome _) fun _ => sc (fun _ => flag_isSome _) fun _ => sc (fun _ => rfl) fun _ => sc (fun _ => rfl) fun _ => sc (fun _ => rfl) fun _ => sc (fun _ => ?_) fun _ => sc (fun _ => ?_) fun _ => rfl
  · exact sc (fun _ => rfl) fun h => sc (fun _ => by rw [need_of (nNz_of (by simpa using h))]; rfl) fun _ => by rw [need_of (nNz_of (by simpa using h))]; exact exact_isSome _
  · exact sc (fun _ => rfl) fun h => sc (fun _ => by rw [need_of (nNz_of (by simpa using h))]; rfl) fun _ => by rw [need_of (nNz_of (by simpa using h))]; exact exact_isSome _
  · rw [need_of (and31 _)]; rfl
  · rw [need_of (and31 _)]; rfl
theorem shape_isSome (k : Int) : (op_shape k).isSome = true := by
  unfold op_shape op_known
  rw [bind_some']
  repeat' (first | exact rfl | refine sc (fun _ => ?_) fun _ => ?_)
theorem Pops_some (x : T_api_Ins) (a : Int) : ∃ v, op_Pops x a = some v := by
  refine Option.isSome_iff_exists.1 ?_
  unfold op_Pops
  rw [withK_eq]
  refine sc (fun _ => rfl) fun _ => sc (fun _ => rfl) fun _ => sc (fun _ => rfl) fun _ => ?_
  obtain ⟨s, h⟩ := Option.isSome_iff_exists.1 (shape_isSome x.Op)
  rw [h, bind_some', withK_eq]
  exact sc (fun _ => rfl) fun _ => sc (fun _ => rfl) fun _ => sc (fun _ => rfl) fun _ => sc (fun _ => rfl) fun _ => rfl
/-- How many an operation that asks nothing takes: one, at least, where the first is looked at. -/
theorem Pops_pure {x : T_api_Ins} (h : 0 ≤ x.Op ∧ x.Op ≤ 23) (h20 : x.Op ≠ 20) : ∃ v, op_Pops x 0 = some v ∧ ((x.Op = 2 ∨ 3 ≤ x.Op ∧ x.Op ≤ 16 ∨ x.Op = 19) → 1 ≤ v) := by
  obtain ⟨k, A, B⟩ := x
  dsimp only at h h20 ⊢
  have : k = 0 ∨ k = 1 ∨ k = 2 ∨ k = 3 ∨ k = 4 ∨ k = 5 ∨ k = 6 ∨ k = 7 ∨ k = 8 ∨ k = 9 ∨ k = 10 ∨ k = 11 ∨ k = 12 ∨ k = 13 ∨ k = 14 ∨ k = 15 ∨ k = 16 ∨ k = 17 ∨ k = 18 ∨ k = 19 ∨ k = 21 ∨ k = 22 ∨ k = 23 := by omega
  rcases this with rfl | rfl | rfl | rfl | rfl | rfl | rfl | rfl | rfl | rfl | rfl | rfl | rfl | rfl | rfl | rfl | rfl | rfl | rfl | rfl | rfl | rfl | rfl <;>
    first | exact ⟨_, rfl, fun h => absurd h (by omega)⟩ | exact ⟨_, rfl, fun _ => by decide⟩
theorem pure_some {l : List Fr} (hl : l.length ≤ 1000) {x : T_api_Ins} (hx : 0 ≤ x.Op ∧ x.Op ≤ 23) {v : List Int} (hv : (x.Op = 2 ∨ 3 ≤ x.Op ∧ x.Op ≤ 16 ∨ x.Op = 19) → 1 ≤ v.length) (h20 : x.Op ≠ 20 ∧ x.Op ≠ 21) (s n : Int) : ∃ r, exec_pure l x v s n = some r := by
  refine Option.isSome_iff_exists.1 ?_
  unfold exec_pure
  simp only [frame_Push_eq hl, frame_Local_eq hl, frame_Store_eq hl, frame_Go_eq hl, bind_some', frame_Push_eq (pushF_le hl _)]
  have n0 : (x.Op = 2 ∨ 3 ≤ x.Op ∧ x.Op ≤ 16 ∨ x.Op = 19) → nIn (0 : Int) (v.length : Int) = true := fun h => nIn_of ⟨by omega, by have := hv h; omega⟩
  refine sc (fun _ => rfl) fun c1 => sc (fun _ => rfl) fun c2 => sc (fun _ => rfl) fun c3 => sc (fun _ => rfl) fun c4 => sc (fun h => ?_) fun c5 => sc (fun _ => rfl) fun c6 => sc (fun _ => rfl) fun c7 => sc (fun h => ?_) fun c8 => sc (fun h => ?_) fun c9 => ?_
  · rw [need_of (n0 (.inl (iEq_iff.1 h)))]; rfl
  · rw [need_of (n0 (.inr (.inr (iEq_iff.1 h))))]; exact sc (fun _ => rfl) fun _ => rfl
  · rw [iEq_iff] at h
    rw [need_of (n0 (.inr (.inl (by omega)))), need_of (n0 (.inr (.inl (by omega))))]; rfl
  · rw [iEq_iff'] at c1 c2 c3 c4 c5 c6 c7 c8 c9
    have hn := n0 (.inr (.inl (by omega)))
    have tail : ∀ a b : Int, ((word_Do x.Op a b).bind fun y : Int × Int => cond (iNe y.2 0) (some (([] : List Fr), y.2, true)) ((frame_Push l y.1).bind fun z : (List Fr) × Bool => some (z.1, (0 : Int), z.2))).isSome = true := fun a b => by
      obtain ⟨y, hy⟩ := word_Do_some x.Op a b
      rw [hy, bind_some']
      exact sc (fun _ => rfl) fun _ => by rw [frame_Push_eq hl]; rfl
    refine sc (fun h => ?_) fun h => ?_
    · rw [iLt_iff] at h
      rw [need_of (nIn_of ⟨by omega, by omega⟩), need_of hn]
      have := tail (v.getD (0 : Int).toNat default) (v.getD (1 : Int).toNat default)
      simp only [frame_Push_eq hl, bind_some'] at this ⊢
      exact this
    · rw [need_of hn]
      have := tail (v.getD (0 : Int).toNat default) 0
      simp only [frame_Push_eq hl, bind_some'] at this ⊢
      exact this
theorem Do_some (p : T_api_Program) {l : List Fr} (hl : l.length ≤ 1000) (s n : Int) : ∃ r, exec_Do p l s n = some r := by
  refine Option.isSome_iff_exists.1 ?_
  unfold exec_Do
  rw [need_of (nCap_of (by simp; omega)), exec_at_eq p hl, bind_some']
  have hg : ∀ pc, (goF l pc).length ≤ 1000 := fun pc => by rw [goF_len]; exact hl
  generalize atE p l = x2
  refine sc (fun _ => rfl) fun _ => sc (fun _ => ?_) fun h20 => sc (fun _ => ?_) fun h21 => ?_
  · rw [frame_Go_eq hl, bind_some', exec_call_eq p (hg _)]; rfl
  · rw [frame_Ret_eq hl, bind_some']
    exact sc (fun _ => rfl) fun _ => sc (fun _ => rfl) fun _ => rfl
  · rw [iEq_iff'] at h20 h21
    rw [frame_Go_eq hl, bind_some']
    obtain ⟨v, hv⟩ := Pops_some x2.1 0
    rw [hv, bind_some', frame_Pop_eq (hg _), bind_some']
    refine sc (fun _ => rfl) fun hp => ?_
    rw [Pure_eq, bind_some']
    refine sc (fun _ => by rw [need_of (nSl_of ⟨by decide, by decide, by decide⟩)]; rfl) fun hq => ?_
    have hr : 0 ≤ x2.1.Op ∧ x2.1.Op ≤ 23 := by
      rw [Bool.not_eq_false', Bool.and_eq_true, iLe_iff, iLe_iff] at hq
      exact hq
    obtain ⟨u, hu, hu1⟩ := Pops_pure hr h20
    have huv : u = v := by rw [hv] at hu; injection hu with hu; exact hu.symm
    have hlen : (popF (goF l (IntKind.i64.wrap (x2.2.1 + 1))) v).2.1.length = v.toNat := by
      rw [Bool.not_eq_false'] at hp
      unfold popF at hp ⊢
      split
      · rename_i c; rw [if_pos c] at hp; cases hp
      · rw [asub_len]; omega
    obtain ⟨z, hz⟩ := pure_some (popF_le (hg (IntKind.i64.wrap (x2.2.1 + 1))) v) hr (v := (popF (goF l (IntKind.i64.wrap (x2.2.1 + 1))) v).2.1) (fun h => by have := hu1 h; rw [hlen]; omega) ⟨h20, h21⟩ s n
    rw [hz, bind_some']
    exact sc (fun _ => rfl) fun _ => rfl
theorem ExecOdd_pure (p : T_api_Program) (l : List Fr) (s : Int) : law15_ExecOdd p l s = some true := by
  unfold law15_ExecOdd
  have key : ∀ m : List Fr, m.length ≤ 20 → need (nCap ((([] : List Fr).length + m.length) * 216)) ((law10_Own p).bind fun (x4 : T_api_Program) => (exec_Do x4 m s 1).bind fun (x5 : (List Fr) × T_api_Effect × Int) => (ref14_Same m (([] : List Fr) ++ m)).bind fun (x6 : Bool) => (cond x6 (law15_lives) (some default)).bind fun (x7 : Bool) => some (x6 && x7)) = some true := fun m hm => by
    obtain ⟨r, hr⟩ := Do_some (ownP p) (l := m) (by omega) s 1
    rw [need_of (nCap_of (by simp; omega)), own10, bind_some', hr, bind_some', List.nil_append, ref_Same_eq m (by omega), bind_some', cond_true, lives15]
    rfl
  by_cases h : 20 < (l.length : Int)
  · rw [iLt_t h, cond_true, need_of (nSl_of ⟨by decide, by decide, by omega⟩)]
    refine key _ ?_
    rw [List.length_drop, List.length_take]
    show min 20 _ - 0 ≤ 20
    omega
  · rw [iLt_f (by omega), cond_false]
    exact key l (by omega)
end LJ
