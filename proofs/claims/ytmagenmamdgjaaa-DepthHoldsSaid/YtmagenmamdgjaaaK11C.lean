/- Plain laws of the depths: what the worklist keeps. -/
import Derived.Test.YtmagenmamdgjaaaK11B
namespace LJ
open Go Go.RowKit
set_option linter.unusedVariables false
set_option linter.unusedSimpArgs false

/-! ### What an instruction takes, lays, and whether the way goes on behind it -/
theorem shapes_some : ∀ k : Fin 52, (op_shape k).isSome = true ∧ (op_Pushes k).isSome = true ∧ (match op_Pushes k with | some v => decide (0 ≤ v) && decide (v ≤ 2) | none => false) = true := by decide +kernel
theorem pushes_some {k : Int} (h : 0 ≤ k ∧ k < 52) : ∃ v, op_Pushes k = some v ∧ 0 ≤ v ∧ v ≤ 2 := by
  have := (shapes_some ⟨k.toNat, by omega⟩).2.2
  dsimp only at this
  rw [Int.toNat_of_nonneg h.1] at this
  cases hp : op_Pushes k with
  | none => rw [hp] at this; cases this
  | some v =>
    rw [hp] at this
    simp only [Bool.and_eq_true, decide_eq_true_eq] at this
    exact ⟨v, rfl, this.1, this.2⟩
theorem shape_some {k : Int} (h : 0 ≤ k ∧ k < 52) : ∃ v, op_shape k = some v := by
  have := (shapes_some ⟨k.toNat, by omega⟩).1
  dsimp only at this
  rw [Int.toNat_of_nonneg h.1] at this
  exact Option.isSome_iff_exists.1 this
theorem pops_some {x : T_api_Ins} {a : Int} (h : 0 ≤ x.Op ∧ x.Op < 52) (ha : 0 ≤ a ∧ a ≤ 8) (hb : -2147483648 ≤ x.B ∧ x.B < 2147483648) : ∃ v, op_Pops x a = some v ∧ -2147483648 ≤ v ∧ v ≤ 2147483650 := by
  obtain ⟨s, hs⟩ := shape_some h
  unfold op_Pops
  rw [withK_eq, hs]
  simp only [bind_some', withK_eq]
  have w1 : IntKind.i64.wrap ((0 : Int) + 1) = 1 := by decide
  have w2 : IntKind.i64.wrap ((1 : Int) + 1) = 2 := by decide
  rw [w1, w2, w64 (a := 1 + x.B) (by omega), w64 (a := 0 + x.B) (by omega)]
  simp only [cond_some]
  refine ⟨_, rfl, ?_⟩
  cases iEq x.Op 20 with
  | true => rw [cond_true]; omega
  | false =>
    rw [cond_false]
    cases iEq x.Op 42 with
    | true => rw [cond_true]; omega
    | false =>
      rw [cond_false]
      cases iEq x.Op 41 with
      | true => rw [cond_true]; omega
      | false =>
        rw [cond_false]
        cases iEq s 4 <;> cases iEq s 2 <;> cases iEq s 3 <;> cases iEq s 5 <;> simp only [cond_true, cond_false] <;> omega
theorem okI_A {x : T_api_Ins} (h : OkI x) : -2147483648 ≤ x.A ∧ x.A < 2147483648 := by
  by_cases h0 : (formL x.Op).size = 0
  · rw [h.a0 h0]; omega
  · have := inL_rng (h.a1 (by omega)); omega
theorem okI_B {x : T_api_Ins} (h : OkI x) : -2147483648 ≤ x.B ∧ x.B < 2147483648 := by
  by_cases h0 : (formL x.Op).size ≤ 1
  · rw [h.b0 h0]; omega
  · have := inL_rng (h.b1 (by omega)); omega
theorem okI_jump {x : T_api_Ins} (h : OkI x) (hx : x.Op = 18 ∨ x.Op = 19 ∨ x.Op = 20) : 0 ≤ x.A := by
  have key : 0 < (formL x.Op).size ∧ byteAt (formL x.Op) 0 ≠ 110 := by rcases hx with h | h | h <;> rw [h] <;> decide +kernel
  exact (inL_rng (h.a1 key.1)).2.2 key.2

/-! ### The worklist -/
abbrev W := T_depth_walk
def dAt (w : W) (i : Nat) : Int := w.depth.getD i default
def nAt (w : W) (i : Nat) : Bool := w.next.getD i default
structure Ext (w w' : W) : Prop where
  p : w'.p = w.p
  code : w'.code = w.code
  dl : w'.depth.length = w.depth.length
  nl : w'.next.length = w.next.length
  old : ∀ i, 0 ≤ dAt w i → dAt w' i = dAt w i ∧ nAt w' i = nAt w i
  new : ∀ i, dAt w i < 0 → (dAt w' i = dAt w i ∧ nAt w' i = nAt w i) ∨ (0 ≤ dAt w' i ∧ dAt w' i ≤ 16 ∧ nAt w' i = true)
  err : w.err ≠ 0 → w'.err ≠ 0
theorem Ext.refl (w : W) : Ext w w := ⟨rfl, rfl, rfl, rfl, fun _ _ => ⟨rfl, rfl⟩, fun _ _ => .inl ⟨rfl, rfl⟩, id⟩
theorem Ext.trans {a b c : W} (h : Ext a b) (h' : Ext b c) : Ext a c where
  p := h'.p.trans h.p
  code := h'.code.trans h.code
  dl := h'.dl.trans h.dl
  nl := h'.nl.trans h.nl
  old i hi := by
    obtain ⟨h1, h2⟩ := h.old i hi
    obtain ⟨h3, h4⟩ := h'.old i (by omega)
    exact ⟨h3.trans h1, h4.trans h2⟩
  new i hi := by
    rcases h.new i hi with ⟨h1, h2⟩ | ⟨h1, h2, h3⟩
    · rcases h'.new i (by omega) with ⟨h4, h5⟩ | h4
      · exact .inl ⟨h4.trans h1, h5.trans h2⟩
      · exact .inr h4
    · obtain ⟨h4, h5⟩ := h'.old i h1
      exact .inr ⟨by omega, by omega, h5.trans h3⟩
  err he := h'.err (h.err he)
theorem wrong_ok (w : W) (a e : Int) (he : e ≠ 0) : ∃ w', depth_walk_wrong w a e = some w' ∧ Ext w w' ∧ w'.err ≠ 0 := by
  unfold depth_walk_wrong
  cases h : (iEq w.err 0 || iLt a w.at_) with
  | true => exact ⟨_, rfl, ⟨rfl, rfl, rfl, rfl, fun _ _ => ⟨rfl, rfl⟩, fun _ _ => .inl ⟨rfl, rfl⟩, fun _ => he⟩, he⟩
  | false =>
    rw [Bool.or_eq_false_iff, iEq_iff'] at h
    exact ⟨_, rfl, .refl w, h.1⟩
theorem set_at {α : Type} [Inhabited α] (L : List α) (k : Nat) (v : α) (hk : k < L.length) (i : Nat) : (L.set k v).getD i default = if i = k then v else L.getD i default := by
  rw [List.getD_eq_getElem?_getD, List.getD_eq_getElem?_getD, List.getElem?_set]
  by_cases h : i = k
  · subst h; simp [hk]
  · rw [if_neg (fun h' => h h'.symm), if_neg h]
structure Lens (w : W) : Prop where
  d : w.depth.length = w.code.length
  n : w.next.length = w.code.length
theorem Ext.lens {w w' : W} (h : Ext w w') (hl : Lens w) : Lens w' := ⟨by rw [h.dl, h.code, hl.d], by rw [h.nl, h.code, hl.n]⟩
theorem leads_ok (w : W) (hw : Lens w) (a to b : Int) (h0 : 0 ≤ to) (hb : 0 ≤ b ∧ b ≤ 16) : ∃ k w', depth_walk_leads w a to b = some (k, w') ∧ Ext w w' ∧ (k = false → w'.err ≠ 0) ∧ (k = true → to < w.code.length ∧ dAt w' to.toNat = b) := by
  unfold depth_walk_leads
  by_cases h : to < w.code.length
  · have hd : nIn to (w.depth.length : Int) = true := nIn_of ⟨h0, by rw [hw.d]; exact h⟩
    have hn : nIn to (w.next.length : Int) = true := nIn_of ⟨h0, by rw [hw.n]; exact h⟩
    have hd' : to.toNat < w.depth.length := by rw [hw.d]; omega
    have hn' : to.toNat < w.next.length := by rw [hw.n]; omega
    rw [iLe_f (by omega), cond_false, need_of hd, need_of hd, need_of hn, need_of hd]
    by_cases hneg : w.depth.getD to.toNat default < 0
    · rw [iLt_t hneg, cond_true]
      have hD : ∀ i, dAt (⟨w.p, w.code, w.depth.set to.toNat b, w.next.set to.toNat true, w.at_, w.err⟩ : W) i = if i = to.toNat then b else dAt w i := fun i => set_at _ _ _ hd' i
      have hN : ∀ i, nAt (⟨w.p, w.code, w.depth.set to.toNat b, w.next.set to.toNat true, w.at_, w.err⟩ : W) i = if i = to.toNat then true else nAt w i := fun i => set_at _ _ _ hn' i
      refine ⟨_, _, rfl, ⟨rfl, rfl, List.length_set, List.length_set, fun i hi => ?_, fun i hi => ?_, id⟩, fun h => (by cases h), fun _ => ⟨h, ?_⟩⟩
      · have : i ≠ to.toNat := fun h => by subst h; exact absurd hneg (Int.not_lt.2 hi)
        rw [hD, hN, if_neg this, if_neg this]
        exact ⟨rfl, rfl⟩
      · rw [hD, hN]
        by_cases h : i = to.toNat
        · rw [if_pos h, if_pos h]; exact .inr ⟨hb.1, hb.2, rfl⟩
        · rw [if_neg h, if_neg h]; exact .inl ⟨rfl, rfl⟩
      · rw [hD, if_pos rfl]
    · rw [iLt_f (by omega), cond_false]
      by_cases he : w.depth.getD to.toNat default = b
      · rw [iNe_f he, cond_false]
        exact ⟨_, _, rfl, .refl w, fun h => (by cases h), fun _ => ⟨h, he⟩⟩
      · obtain ⟨w', h1, h2, h3⟩ := wrong_ok w a 2 (by decide)
        rw [iNe_t he, cond_true, h1, bind_some']
        exact ⟨_, _, rfl, h2, fun _ => h3, fun h => (by cases h)⟩
  · obtain ⟨w', h1, h2, h3⟩ := wrong_ok w a 3 (by decide)
    rw [iLe_t (by omega), cond_true, h1, bind_some']
    exact ⟨_, _, rfl, h2, fun _ => h3, fun h => (by cases h)⟩

/-- How many arguments a call's function has. -/
def argsP (p : T_api_Program) (x : T_api_Ins) : Int := cond (iEq x.Op 20 && iLt x.A (p.Funcs.length : Int)) (p.Funcs.getD x.A.toNat default).Args 0
/-- What follows behind an instruction that stands at a depth, where nothing is wrong. -/
structure Good (p : T_api_Program) (code : List T_api_Ins) (dep : Nat → Int) (i : Nat) : Prop where
  h : ∃ v u : Int, op_Pops (code.getD i default) (argsP p (code.getD i default)) = some v ∧ op_Pushes (code.getD i default).Op = some u ∧ -2147483648 ≤ v ∧ v ≤ 2147483650 ∧ 0 ≤ u ∧ u ≤ 2 ∧ 0 ≤ dep i - v ∧ dep i - v + u ≤ 16 ∧
    ((code.getD i default).Op ≠ 18 → (code.getD i default).Op ≠ 21 → i + 1 < code.length ∧ dep (i + 1) = dep i - v + u) ∧
    ((code.getD i default).Op = 18 ∨ (code.getD i default).Op = 19 → 0 ≤ (code.getD i default).A ∧ (code.getD i default).A < code.length ∧ dep (code.getD i default).A.toNat = dep i - v + u)
theorem goes_eq {k : Int} (h : 0 ≤ k ∧ k < 52) : op_Goes k = some (iNe k 18 && iNe k 21) := by
  unfold op_Goes
  rw [op_known_eq, opK_iff.2 h, bind_some', Bool.true_and]
theorem look_tail {p : T_api_Program} {code : List T_api_Ins} {w : W} (hp : w.p = p) (hc : w.code = code) (hw : Lens w) {i : Nat} (hi : i < code.length) (hlen : code.length ≤ 200) (hx : OkI (code.getD i default)) (hd : 0 ≤ dAt w i ∧ dAt w i ≤ 16) {v u : Int} (hv : op_Pops (code.getD i default) (argsP p (code.getD i default)) = some v) (hv1 : -2147483648 ≤ v ∧ v ≤ 2147483650) (hu : op_Pushes (code.getD i default).Op = some u) (hu1 : 0 ≤ u ∧ u ≤ 2) :
    ∃ w', (cond (iLt (IntKind.i64.wrap ((w.depth.getD i default) - v)) 0) ((depth_walk_wrong w (i : Int) 2).bind fun (x5 : T_depth_walk) => some x5) ((op_Pushes ((code.getD i default).Op)).bind fun (x6 : Int) => cond (iLt 16 (IntKind.i64.wrap ((IntKind.i64.wrap ((w.depth.getD i default) - v)) + x6))) ((depth_walk_wrong w (i : Int) 4).bind fun (x8 : T_depth_walk) => some x8) ((op_Goes ((code.getD i default).Op)).bind fun (x9 : Bool) => cond x9 ((depth_walk_leads w (i : Int) (IntKind.i64.wrap ((i : Int) + 1)) (IntKind.i64.wrap ((IntKind.i64.wrap ((w.depth.getD i default) - v)) + x6))).bind fun (x11 : Bool × T_depth_walk) => cond (!x11.1) (some x11.2) (cond ((iEq ((code.getD i default).Op) 18) || (iEq ((code.getD i default).Op) 19)) ((depth_walk_leads x11.2 (i : Int) ((code.getD i default).A) (IntKind.i64.wrap ((IntKind.i64.wrap ((w.depth.getD i default) - v)) + x6))).bind fun (x14 : Bool × T_depth_walk) => some x14.2) (some x11.2))) (cond ((iEq ((code.getD i default).Op) 18) || (iEq ((code.getD i default).Op) 19)) ((depth_walk_leads w (i : Int) ((code.getD i default).A) (IntKind.i64.wrap ((IntKind.i64.wrap ((w.depth.getD i default) - v)) + x6))).bind fun (x16 : Bool × T_depth_walk) => some x16.2) (some w))))) = some w' ∧ Ext w w' ∧ (w'.err ≠ 0 ∨ Good p code (dAt w') i) := by
  have hd0 : w.depth.getD i default = dAt w i := rfl
  rw [hd0, w64 (a := dAt w i - v) (by omega)]
  by_cases h1 : dAt w i - v < 0
  · obtain ⟨w', e1, e2, e3⟩ := wrong_ok w (i : Int) 2 (by decide)
    rw [iLt_t h1, cond_true, e1]
    exact ⟨_, rfl, e2, .inl e3⟩
  rw [iLt_f (by omega), cond_false, hu, bind_some', w64 (by omega)]
  by_cases h2 : 16 < dAt w i - v + u
  · obtain ⟨w', e1, e2, e3⟩ := wrong_ok w (i : Int) 4 (by decide)
    rw [iLt_t h2, cond_true, e1]
    exact ⟨_, rfl, e2, .inl e3⟩
  rw [iLt_f (by omega), cond_false, goes_eq hx.op, bind_some', w64 (by omega)]
  have hb : 0 ≤ dAt w i - v + u ∧ dAt w i - v + u ≤ 16 := by omega
  have mk : ∀ w' : W, Ext w w' → ((code.getD i default).Op ≠ 18 → (code.getD i default).Op ≠ 21 → i + 1 < code.length ∧ dAt w' (i + 1) = dAt w i - v + u) → ((code.getD i default).Op = 18 ∨ (code.getD i default).Op = 19 → (code.getD i default).A < code.length ∧ dAt w' (code.getD i default).A.toNat = dAt w i - v + u) → Good p code (dAt w') i := fun w' he g1 g2 => by
    have := (he.old i hd.1).1
    rw [← this] at g1 g2 h1 h2
    exact ⟨v, u, hv, hu, hv1.1, hv1.2, hu1.1, hu1.2, by omega, by omega, g1, fun h => ⟨okI_jump hx (by omega), g2 h⟩⟩
  generalize hz : dAt w i - v + u = z at *
  cases hg : (iNe (code.getD i default).Op 18 && iNe (code.getD i default).Op 21) with
  | true =>
    rw [Bool.and_eq_true, iNe_iff, iNe_iff] at hg
    obtain ⟨k, w1, e1, e2, e3, e4⟩ := leads_ok w hw (i : Int) ((i : Int) + 1) z (by omega) hb
    rw [cond_true, e1, bind_some']
    dsimp only
    cases k with
    | false => exact ⟨_, rfl, e2, .inl (e3 rfl)⟩
    | true =>
      obtain ⟨e4, e5⟩ := e4 rfl
      rw [hc] at e4
      have e6 : dAt w1 (i + 1) = z := by rw [← e5]; congr 1
      rw [Bool.not_true, cond_false]
      cases hj : (iEq (code.getD i default).Op 18 || iEq (code.getD i default).Op 19) with
      | false =>
        rw [Bool.or_eq_false_iff, iEq_iff', iEq_iff'] at hj
        exact ⟨_, rfl, e2, .inr (mk w1 e2 (fun _ _ => ⟨by omega, e6⟩) (fun h => (h.elim hj.1 hj.2).elim))⟩
      | true =>
        rw [Bool.or_eq_true, iEq_iff, iEq_iff] at hj
        obtain ⟨k2, w2, f1, f2, f3, f4⟩ := leads_ok w1 (e2.lens hw) (i : Int) (code.getD i default).A z (okI_jump hx (by omega)) hb
        rw [cond_true, f1, bind_some']
        cases k2 with
        | false => exact ⟨_, rfl, e2.trans f2, .inl (f3 rfl)⟩
        | true =>
          obtain ⟨f4, f5⟩ := f4 rfl
          rw [e2.code, hc] at f4
          exact ⟨_, rfl, e2.trans f2, .inr (mk w2 (e2.trans f2) (fun _ _ => ⟨by omega, by rw [(f2.old (i + 1) (by omega)).1, e6]⟩) (fun _ => ⟨f4, f5⟩))⟩
  | false =>
    rw [cond_false]
    have hg' : (code.getD i default).Op = 18 ∨ (code.getD i default).Op = 21 := by
      rcases Bool.and_eq_false_iff.1 hg with h | h
      · exact .inl (iNe_iff'.1 h)
      · exact .inr (iNe_iff'.1 h)
    cases hj : (iEq (code.getD i default).Op 18 || iEq (code.getD i default).Op 19) with
    | false =>
      rw [Bool.or_eq_false_iff, iEq_iff', iEq_iff'] at hj
      exact ⟨_, rfl, .refl w, .inr (mk w (.refl w) (fun h h' => (hg'.elim h h').elim) (fun h => (h.elim hj.1 hj.2).elim))⟩
    | true =>
      rw [Bool.or_eq_true, iEq_iff, iEq_iff] at hj
      obtain ⟨k2, w2, f1, f2, f3, f4⟩ := leads_ok w hw (i : Int) (code.getD i default).A z (okI_jump hx (by omega)) hb
      rw [cond_true, f1, bind_some']
      cases k2 with
      | false => exact ⟨_, rfl, f2, .inl (f3 rfl)⟩
      | true =>
        obtain ⟨f4, f5⟩ := f4 rfl
        rw [hc] at f4
        exact ⟨_, rfl, f2, .inr (mk w2 f2 (fun h h' => (hg'.elim h h').elim) (fun _ => ⟨f4, f5⟩))⟩
theorem look_ok {p : T_api_Program} {code : List T_api_Ins} {w : W} (hp : w.p = p) (hc : w.code = code) (hF : ∀ j, j < p.Funcs.length → OkFn (p.Funcs.getD j default)) (hw : Lens w) {i : Nat} (hi : i < code.length) (hlen : code.length ≤ 200) (hx : OkI (code.getD i default)) (hd : 0 ≤ dAt w i ∧ dAt w i ≤ 16) :
    ∃ w', depth_walk_look w (i : Int) = some w' ∧ Ext w w' ∧ (w'.err ≠ 0 ∨ Good p code (dAt w') i) := by
  obtain ⟨u, hu, hu1⟩ := pushes_some hx.op
  have hargs : 0 ≤ argsP p (code.getD i default) ∧ argsP p (code.getD i default) ≤ 8 := by
    unfold argsP
    cases h : (iEq (code.getD i default).Op 20 && iLt (code.getD i default).A (p.Funcs.length : Int)) with
    | false => rw [cond_false]; omega
    | true =>
      rw [Bool.and_eq_true, iEq_iff, iLt_iff] at h
      have h0 := okI_jump hx (.inr (.inr h.1))
      have := (hF (code.getD i default).A.toNat (by omega)).args
      rw [cond_true]; exact this
  obtain ⟨v, hv, hv1⟩ := pops_some hx.op hargs (okI_B hx)
  have key := look_tail hp hc hw hi hlen hx hd hv hv1 hu hu1
  unfold depth_walk_look
  have hdn : nIn (i : Int) (w.depth.length : Int) = true := nIn_of ⟨by omega, by rw [hw.d, hc]; omega⟩
  rw [hc, hp, need_of (nIn_of ⟨by omega, by omega⟩), Int.toNat_natCast]
  unfold argsP at hv
  cases h : (iEq (code.getD i default).Op 20 && iLt (code.getD i default).A (p.Funcs.length : Int)) with
  | true =>
    rw [h, cond_true] at hv
    rw [Bool.and_eq_true, iEq_iff, iLt_iff] at h
    have h0 := okI_jump hx (.inr (.inr h.1))
    rw [cond_true, need_of (nIn_of ⟨h0, h.2⟩), need_of hdn, hv, bind_some']
    exact key
  | false =>
    rw [h, cond_false] at hv
    rw [cond_false, need_of hdn, hv, bind_some']
    exact key
end LJ
