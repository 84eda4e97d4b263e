/- The law DepthHolds, plainly. -/
import Derived.Test.YtmagenmamdgjaaaK11C
namespace LJ
open Go Go.RowKit
set_option linter.unusedVariables false
set_option linter.unusedSimpArgs false

theorem Good.ext {p : T_api_Program} {code : List T_api_Ins} {w w' : W} {i : Nat} (h : Good p code (dAt w) i) (he : Ext w w') (hd : 0 ≤ dAt w i) : Good p code (dAt w') i := by
  obtain ⟨v, u, h1, h2, h3, h4, h5, h6, h7, h8, h9, h10⟩ := h.h
  have e := (he.old i hd).1
  refine ⟨v, u, h1, h2, h3, h4, h5, h6, by omega, by omega, fun a b => ?_, fun a => ?_⟩
  · obtain ⟨g1, g2⟩ := h9 a b
    exact ⟨g1, by rw [(he.old (i + 1) (by omega)).1]; omega⟩
  · obtain ⟨g0, g1, g2⟩ := h10 a
    exact ⟨g0, g1, by rw [(he.old _ (by omega)).1]; omega⟩
structure Inv (p : T_api_Program) (code : List T_api_Ins) (w : W) : Prop where
  ep : w.p = p
  ec : w.code = code
  lens : Lens w
  d0 : dAt w 0 = 0
  rng : ∀ i, i < code.length → dAt w i ≤ 16
  nx : ∀ i, i < code.length → nAt w i = true → 0 ≤ dAt w i
  good : ∀ i, i < code.length → 0 ≤ dAt w i → nAt w i = false → w.err ≠ 0 ∨ Good p code (dAt w) i
def pend (w : W) (i : Nat) : Bool := decide (dAt w i < 0) || nAt w i
def cnt (w : W) (n : Nat) : Nat := (List.range n).countP (pend w)
theorem countP_lt {α : Type} {p q : α → Bool} : ∀ (l : List α) (a : α), (∀ x ∈ l, q x = true → p x = true) → a ∈ l → p a = true → q a = false → l.countP q < l.countP p
  | [], a, h, ha, _, _ => by cases ha
  | x :: l, a, h, ha, hp, hq => by
    rw [List.countP_cons, List.countP_cons]
    have hm : l.countP q ≤ l.countP p := List.countP_mono_left fun y hy => h y (List.mem_cons_of_mem _ hy)
    by_cases e : a = x
    · subst e
      rw [hp, hq]
      simp
      omega
    · have hin : a ∈ l := by
        rcases List.mem_cons.1 ha with h' | h'
        · exact absurd h' e
        · exact h'
      have ih := countP_lt l a (fun y hy => h y (List.mem_cons_of_mem _ hy)) hin hp hq
      have hx := h x (List.mem_cons_self ..)
      cases hqx : q x with
      | false => simp; split <;> omega
      | true => rw [hx hqx]; omega
/-- One round. -/
theorem round {p : T_api_Program} {code : List T_api_Ins} {w : W} (hF : ∀ j, j < p.Funcs.length → OkFn (p.Funcs.getD j default)) (hlen : code.length ≤ 200) (hI : ∀ j, j < code.length → OkI (code.getD j default)) (h : Inv p code w) {k : Nat} (hk : k < code.length) (hn : nAt w k = true) :
    ∃ w', depth_walk_look ⟨w.p, w.code, w.depth, w.next.set k false, w.at_, w.err⟩ (k : Int) = some w' ∧ Inv p code w' ∧ cnt w' code.length < cnt w code.length := by
  have hkn : k < w.next.length := by rw [h.lens.n, h.ec]; exact hk
  have hN : ∀ i, nAt (⟨w.p, w.code, w.depth, w.next.set k false, w.at_, w.err⟩ : W) i = if i = k then false else nAt w i := fun i => set_at _ _ _ hkn i
  have hD : ∀ i, dAt (⟨w.p, w.code, w.depth, w.next.set k false, w.at_, w.err⟩ : W) i = dAt w i := fun i => rfl
  have hE : (⟨w.p, w.code, w.depth, w.next.set k false, w.at_, w.err⟩ : W).err = w.err := rfl
  have hL : Lens (⟨w.p, w.code, w.depth, w.next.set k false, w.at_, w.err⟩ : W) := ⟨h.lens.d, by rw [List.length_set]; exact h.lens.n⟩
  have hdk := h.nx k hk hn
  have hdk2 := h.rng k hk
  obtain ⟨w', e1, e2, e3⟩ := look_ok (w := ⟨w.p, w.code, w.depth, w.next.set k false, w.at_, w.err⟩) h.ep h.ec hF hL hk hlen (hI k hk) ⟨hdk, hdk2⟩
  generalize hw0 : (⟨w.p, w.code, w.depth, w.next.set k false, w.at_, w.err⟩ : W) = w0 at *
  have hp0 : w0.p = w.p := by rw [← hw0]
  have hc0 : w0.code = w.code := by rw [← hw0]
  refine ⟨w', e1, ⟨e2.p.trans (hp0.trans h.ep), e2.code.trans (hc0.trans h.ec), e2.lens hL, ?_, fun i hi => ?_, fun i hi hni => ?_, fun i hi hdi hni => ?_⟩, ?_⟩
  · rw [(e2.old 0 (by rw [hD, h.d0]; exact Int.le_refl _)).1, hD, h.d0]
  · by_cases hd : 0 ≤ dAt w0 i
    · rw [(e2.old i hd).1, hD]; exact h.rng i hi
    · rcases e2.new i (by omega) with ⟨a, _⟩ | ⟨_, a, _⟩
      · omega
      · exact a
  · by_cases hd : 0 ≤ dAt w0 i
    · rw [(e2.old i hd).1]; exact hd
    · rcases e2.new i (by omega) with ⟨_, b⟩ | ⟨a, _⟩
      · rw [b, hN] at hni
        by_cases hik : i = k
        · rw [if_pos hik] at hni; cases hni
        · rw [if_neg hik] at hni
          have := h.nx i hi hni
          rw [hD] at hd
          exact absurd this hd
      · exact a
  · by_cases hik : i = k
    · rw [hik]; exact e3
    · by_cases hd : 0 ≤ dAt w0 i
      · have hh := (e2.old i hd).2
        rw [hni, hN, if_neg hik] at hh
        rcases h.good i hi (by rw [← hD]; exact hd) hh.symm with a | a
        · exact .inl (e2.err (by rw [hE]; exact a))
        · refine .inr (Good.ext (w := w0) ?_ e2 hd)
          have : dAt w0 = dAt w := funext hD
          rw [this]; exact a
      · rcases e2.new i (by omega) with ⟨a, _⟩ | ⟨_, _, a⟩
        · omega
        · rw [a] at hni; cases hni
  · refine countP_lt (List.range code.length) k (fun i hi hpi => ?_) (List.mem_range.2 hk) ?_ ?_
    · unfold pend at hpi ⊢
      by_cases hd : 0 ≤ dAt w0 i
      · obtain ⟨a, b⟩ := e2.old i hd
        rw [a, b, hN] at hpi
        by_cases hik : i = k
        · rw [hik, hn, Bool.or_true]
        · rwa [if_neg hik, hD] at hpi
      · rw [hD] at hd
        rw [decide_eq_true (by omega : dAt w i < 0)]; rfl
    · unfold pend; rw [hn, Bool.or_true]
    · unfold pend
      obtain ⟨a, b⟩ := e2.old k (by rw [hD]; exact hdk)
      rw [a, b, hN, if_pos rfl, hD, decide_eq_false (by omega)]; rfl

/-! ### Which is next -/
theorem index_l2 (L : List Bool) (hL : L.length ≤ 1000) : ∀ (n i f : Nat), i + n = L.length → n < f → ∃ r, slices_Index___bool_bool__l2 L true f (i : Int) = some r ∧ ((r = -1 ∧ ∀ j, i ≤ j → j < L.length → L.getD j default = false) ∨ ∃ k : Nat, k < L.length ∧ r = (k : Int) ∧ L.getD k default = true)
  | n, i, 0, hi, hf => by omega
  | 0, i, f + 1, hi, hf => by
    rw [slices_Index___bool_bool__l2, iLt_f (by omega), cond_false]
    exact ⟨_, rfl, .inl ⟨rfl, fun j h1 h2 => by omega⟩⟩
  | n + 1, i, f + 1, hi, hf => by
    rw [slices_Index___bool_bool__l2, iLt_t (by omega), cond_true, need_of (nIn_of ⟨by omega, by omega⟩), Int.toNat_natCast, w64 (by omega), show (i : Int) + 1 = ((i + 1 : Nat) : Int) by omega]
    cases hb : L.getD i default with
    | true => exact ⟨_, rfl, .inr ⟨i, by omega, rfl, hb⟩⟩
    | false =>
      obtain ⟨r, h1, h2⟩ := index_l2 L hL n (i + 1) f (by omega) (by omega)
      refine ⟨r, h1, ?_⟩
      rcases h2 with ⟨h3, h4⟩ | h3
      · refine .inl ⟨h3, fun j h5 h6 => ?_⟩
        rcases Nat.eq_or_lt_of_le h5 with rfl | h5
        · exact hb
        · exact h4 j h5 h6
      · exact .inr h3
theorem least_ok (w : W) (hL : w.next.length ≤ 1000) : ∃ r, depth_walk_least w = some r ∧ ((r = -1 ∧ ∀ j, j < w.next.length → nAt w j = false) ∨ ∃ k : Nat, k < w.next.length ∧ r = (k : Int) ∧ nAt w k = true) := by
  obtain ⟨r, h1, h2⟩ := index_l2 w.next hL w.next.length 0 fuel (by omega) (by have := fuel_big; omega)
  refine ⟨r, ?_, h2.imp (fun h => ⟨h.1, fun j hj => h.2 j (Nat.zero_le _) hj⟩) id⟩
  unfold depth_walk_least slices_Index___bool_bool_
  rw [show (0 : Int) = ((0 : Nat) : Int) from rfl, h1, bind_some']

/-! ### The depths -/
/-- What a function's depths are, if nothing is wrong. -/
structure OkL (p : T_api_Program) (code : List T_api_Ins) (l : List Int) : Prop where
  len : l.length = code.length
  d0 : l.getD 0 default = 0
  rng : ∀ i, i < code.length → l.getD i default ≤ 16
  good : ∀ i, i < code.length → 0 ≤ l.getD i default → Good p code (fun j => l.getD j default) i
def Res (p : T_api_Program) (code : List T_api_Ins) (z : Option (List Int × Int × Int)) : Prop := ∃ l a e, z = some (l, a, e) ∧ (e = 0 → OkL p code l)
theorem of_l13 {p : T_api_Program} {code : List T_api_Ins} (hF : ∀ j, j < p.Funcs.length → OkFn (p.Funcs.getD j default)) (hlen : code.length ≤ 200) (hI : ∀ j, j < code.length → OkI (code.getD j default)) : ∀ (m f : Nat) (w : W) (x : Int), cnt w code.length ≤ m → m < f → Inv p code w → depth_walk_least w = some x → Res p code (depth_Of_l13 f (x, w.p.Decls, w.p.Waits, w.p.Funcs, w.code, w.at_, w.err, w.depth, w.next))
  | m, 0, w, x, hm, hf, hv, hx => by omega
  | m, f + 1, w, x, hm, hf, hv, hx => by
    have hnl : w.next.length = code.length := by rw [hv.lens.n, hv.ec]
    obtain ⟨r, h1, h2⟩ := least_ok w (by omega)
    obtain rfl : r = x := Option.some.inj (h1.symm.trans hx)
    rw [depth_Of_l13]
    dsimp only
    rcases h2 with ⟨h3, h4⟩ | ⟨k, h3, h4, h5⟩
    · rw [iLe_f (by omega), cond_false]
      by_cases he : w.err = 0
      · rw [iNe_f he, cond_false]
        refine ⟨_, _, _, rfl, fun _ => ⟨by rw [hv.lens.d, hv.ec], hv.d0, hv.rng, fun i hi hd => ?_⟩⟩
        exact (hv.good i hi hd (h4 i (by omega))).resolve_left (fun h => h he)
      · rw [iNe_t he, cond_true]
        exact ⟨_, _, _, rfl, fun h => absurd h he⟩
    · subst h4
      obtain ⟨w', g1, g2, g3⟩ := round hF hlen hI hv (by omega) h5
      obtain ⟨y, y1, _⟩ := least_ok w' (by rw [g2.lens.n, g2.ec]; omega)
      rw [iLe_t (by omega), cond_true, need_of (nIn_of ⟨by omega, by omega⟩), Int.toNat_natCast]
      rw [show (⟨(⟨w.p.Decls, w.p.Waits, w.p.Funcs⟩ : T_api_Program), w.code, w.depth, w.next.set k false, w.at_, w.err⟩ : T_depth_walk) = ⟨w.p, w.code, w.depth, w.next.set k false, w.at_, w.err⟩ from rfl, g1, bind_some', y1, bind_some']
      cases m with
      | zero => omega
      | succ m => exact of_l13 hF hlen hI m f w' y (by omega) (by omega) g2 y1
theorem fill_l5 {p : T_api_Program} {k : Int} {code : List T_api_Ins} (hc : (p.Funcs.getD k.toNat default).Code = code) (hlen : code.length ≤ 200) {P : Option (List Int × Int × Int) → Prop} (hK : ∀ L : List Int, L.length = code.length → (∀ i, i < code.length → L.getD i default = -1) → P (cond (iEq (code.length : Int) 0) (some ([], 0, 3)) (need (nMk (code.length : Int) 1) ((depth_walk_leads (⟨p, code, L, List.replicate (code.length : Int).toNat (false : Bool), 0, 0⟩ : T_depth_walk) 0 0 0).bind fun (x10 : Bool × T_depth_walk) => (depth_walk_least x10.2).bind fun (x11 : Int) => depth_Of_l13 fuel (x11, x10.2.p.Decls, x10.2.p.Waits, x10.2.p.Funcs, x10.2.code, x10.2.at_, x10.2.err, x10.2.depth, x10.2.next))))) : ∀ (n i f : Nat) (L : List Int), i + n = code.length → n < f → L.length = code.length → (∀ j, j < i → L.getD j default = -1) → P (depth_Of_l5 p k f ((i : Int), L))
  | n, i, 0, L, hi, hf, hl, hL => by omega
  | 0, i, f + 1, L, hi, hf, hl, hL => by
    rw [depth_Of_l5, hc]
    dsimp only
    rw [List.length_map, List.length_replicate, Int.toNat_natCast, iLt_f (by omega), cond_false]
    exact hK L hl fun j hj => hL j (by omega)
  | n + 1, i, f + 1, L, hi, hf, hl, hL => by
    rw [depth_Of_l5, hc]
    dsimp only
    rw [List.length_map, List.length_replicate, Int.toNat_natCast, iLt_t (by omega), cond_true, need_of (nIn_of ⟨by omega, by omega⟩), Int.toNat_natCast, w64 (by omega), show (i : Int) + 1 = ((i + 1 : Nat) : Int) by omega]
    refine fill_l5 hc hlen hK n (i + 1) f _ (by omega) (by omega) (by rw [List.length_set]; exact hl) fun j hj => ?_
    rw [set_at _ _ _ (by omega)]
    by_cases h : j = i
    · rw [if_pos h]
    · rw [if_neg h]; exact hL j (by omega)
theorem depth_Of_ok {p : T_api_Program} (hm : p.Funcs.length ≤ 16) (hF : ∀ j, j < p.Funcs.length → OkFn (p.Funcs.getD j default)) (k : Int) : ∃ l a e, depth_Of p k = some (l, a, e) ∧ (e = 0 → 0 ≤ k ∧ k < p.Funcs.length ∧ OkL p (p.Funcs.getD k.toNat default).Code l) := by
  unfold depth_Of
  by_cases hk : 0 ≤ k ∧ k < p.Funcs.length
  · obtain ⟨h0, h1⟩ := hk
    have ok := hF k.toNat (by omega)
    generalize hc : (p.Funcs.getD k.toNat default).Code = code
    have hlen : code.length ≤ 200 := by rw [← hc]; exact ok.most
    have hpos : 1 ≤ code.length := by rw [← hc]; exact ok.pos
    have hI : ∀ j, j < code.length → OkI (code.getD j default) := by rw [← hc]; exact ok.ins
    rw [iLt_f h0, iLe_f h1, Bool.or_self, cond_false, need_of (nIn_of ⟨h0, h1⟩), need_of (nMk_of ⟨by omega, by omega, by rw [Int.toNat_natCast]; omega⟩), Int.toNat_natCast]
    have hz : Res p code (depth_Of_l5 p k fuel (((0 : Nat) : Int), List.replicate code.length 0)) := by
      refine fill_l5 (P := Res p code) hc hlen (fun L hl hL => ?_) code.length 0 fuel _ (by omega) (by have := fuel_big; omega) (List.length_replicate ..) (fun j hj => by omega)
      rw [iEq_f (by omega), cond_false, need_of (nMk_of ⟨by omega, by omega, by rw [Int.toNat_natCast]; omega⟩), Int.toNat_natCast]
      have hN : ∀ i, (List.replicate code.length false).getD i default = false := fun i => by
        rw [List.getD_eq_getElem?_getD, List.getElem?_replicate]
        split <;> rfl
      obtain ⟨b, w, e1, e2, e3, e4⟩ := leads_ok (⟨p, code, L, List.replicate code.length false, 0, 0⟩ : W) ⟨hl, List.length_replicate ..⟩ 0 0 0 (by decide) (by decide)
      generalize hw0 : (⟨p, code, L, List.replicate code.length false, 0, 0⟩ : W) = w0 at *
      have hD : ∀ i, i < code.length → dAt w0 i = -1 := fun i hi => by rw [← hw0]; exact hL i hi
      have hN' : ∀ i, nAt w0 i = false := fun i => by rw [← hw0]; exact hN i
      have hp0 : w0.p = p := by rw [← hw0]
      have hc0 : w0.code = code := by rw [← hw0]
      have hl0 : Lens w0 := by rw [← hw0]; exact ⟨hl, List.length_replicate ..⟩
      rw [e1, bind_some']
      dsimp only
      have hb : b = true := by
        cases b with
        | true => rfl
        | false =>
          exfalso
          have := e3 rfl
          unfold depth_walk_leads at e1
          rw [hc0, iLe_f (by omega), cond_false, need_of (nIn_of ⟨by omega, by rw [hl0.d, hc0]; omega⟩), show w0.depth.getD (0 : Int).toNat default = -1 from hD 0 (by omega), iLt_t (by decide), cond_true, need_of (nIn_of ⟨by omega, by rw [hl0.d, hc0]; omega⟩), need_of (nIn_of ⟨by omega, by rw [hl0.n, hc0]; omega⟩)] at e1
          cases e1
      have e5 := (e4 hb).2
      have hinv : Inv p code w := by
        refine ⟨e2.p.trans hp0, e2.code.trans hc0, e2.lens hl0, e5, fun i hi => ?_, fun i hi hn => ?_, fun i hi hd hn => ?_⟩
        · rcases e2.new i (by rw [hD i hi]; decide) with ⟨a, _⟩ | ⟨_, a, _⟩
          · rw [a, hD i hi]; decide
          · exact a
        · rcases e2.new i (by rw [hD i hi]; decide) with ⟨_, b⟩ | ⟨a, _⟩
          · rw [b, hN'] at hn; cases hn
          · exact a
        · rcases e2.new i (by rw [hD i hi]; decide) with ⟨a, _⟩ | ⟨_, _, a⟩
          · rw [a, hD i hi] at hd; exact absurd hd (by decide)
          · rw [a] at hn; cases hn
      obtain ⟨y, y1, _⟩ := least_ok w (by rw [hinv.lens.n, hinv.ec]; omega)
      rw [y1, bind_some']
      refine of_l13 hF hlen hI (cnt w code.length) fuel w y (Nat.le_refl _) ?_ hinv y1
      have : cnt w code.length ≤ (List.range code.length).length := List.countP_le_length
      rw [List.length_range] at this
      have := fuel_big
      omega
    obtain ⟨l, a, e, h2, h3⟩ := hz
    exact ⟨l, a, e, h2, fun h => ⟨h0, h1, h3 h⟩⟩
  · have : (iLt k 0 || iLe (p.Funcs.length : Int) k) = true := by rw [Bool.or_eq_true, iLt_iff, iLe_iff]; omega
    rw [this, cond_true]
    exact ⟨_, _, _, rfl, fun h => absurd h (by decide)⟩

/-! ### The law -/
theorem behind_ok {p q : T_api_Program} (hpq : q.Funcs = p.Funcs) {x : T_api_Ins} (hx : OkI x) {d v u : Int} (hv : op_Pops x (argsP q x) = some v) (hu : op_Pushes x.Op = some u) (h1 : -2147483648 ≤ v ∧ v ≤ 2147483650) (h2 : 0 ≤ u ∧ u ≤ 2) (hd : 0 ≤ d ∧ d ≤ 16) (h3 : 0 ≤ d - v) (h4 : d - v + u ≤ 16) : ref11_Behind p x d = some (d - v + u) := by
  have hb := okI_B hx
  have fin : ∀ a, op_Pops x a = some v → (ref06_Pops x a).bind (fun (x3 : Int) => cond (iLt (IntKind.i64.wrap (d - x3)) 0) (some (-1)) ((ref06_Pushes x.Op).bind fun (x5 : Int) => some (IntKind.i64.wrap ((IntKind.i64.wrap (d - x3)) + x5)))) = some (d - v + u) := fun a ha => by
    rw [← pops_eq a (by omega), ha, bind_some', w64 (a := d - v) (by omega), iLt_f (by omega), cond_false, ← pushes_eq, hu, bind_some', w64 (by omega)]
  unfold ref11_Behind
  unfold argsP at hv
  rw [hpq] at hv
  cases h : (iEq x.Op 20 && iLt x.A (p.Funcs.length : Int)) with
  | true =>
    rw [h, cond_true] at hv
    rw [Bool.and_eq_true, iEq_iff, iLt_iff] at h
    have h0 := okI_jump hx (.inr (.inr h.1))
    rw [cond_true, need_of (nIn_of ⟨h0, h.2⟩)]
    exact fin _ hv
  | false =>
    rw [h, cond_false] at hv
    rw [cond_false]
    exact fin _ hv
theorem most_ge {l : List Int} (hl : l.length ≤ 300) {i : Nat} (hi : i < l.length) : ∃ m, depth_Most l = some m ∧ l.getD i default ≤ m := by
  refine ⟨_, dmost_eq l hl, (max_facts l 0).2.1 _ ?_⟩
  rw [List.getD_eq_getElem?_getD, List.getElem?_eq_getElem hi]
  exact List.getElem_mem hi
theorem holds_l11 {p q : T_api_Program} {a1 : Int} {way : List Bool} {x5 : List Int × Int × Int} {code : List T_api_Ins} (hpq : q.Funcs = p.Funcs) (hc : (p.Funcs.getD a1.toNat default).Code = code) (hlen : code.length ≤ 200) (hI : ∀ j, j < code.length → OkI (code.getD j default)) (hL : OkL q code x5.1) : ∀ (n i f k : Nat) (d : Int), i + n = 400 → n < f → k < code.length → x5.1.getD k default = d → 0 ≤ d → law11_DepthHolds_l11 p a1 way x5 f ((k : Int), d, (i : Int)) = some true
  | n, i, 0, k, d, hi, hf, hk, hd, h0 => by omega
  | n, i, f + 1, k, d, hi, hf, hk, hd, h0 => by
    have hxl := hL.len
    rw [law11_DepthHolds_l11, hc]
    dsimp only
    cases hw : (iLt (i : Int) (way.length : Int) && iLt (i : Int) 400) with
    | false =>
      rw [cond_false, iLt_t (by omega), need_of (by rw [nIn_of ⟨by omega, by omega⟩, Bool.or_true]), Int.toNat_natCast, iEq_t hd, Bool.and_self, cond_true, lives11]
      rfl
    | true =>
      rw [Bool.and_eq_true, iLt_iff, iLt_iff] at hw
      have hr := hL.rng k hk
      obtain ⟨v, u, g1, g2, g3, g4, g5, g6, g7, g8, g9, g10⟩ := (hL.good k hk (by omega)).h
      obtain ⟨m, m1, m2⟩ := most_ge (l := x5.1) (by omega) (i := k) (by omega)
      rw [hd] at g7 g8 g9 g10 m2 hr
      rw [cond_true, iLe_f (by omega), need_of (by rw [nIn_of ⟨by omega, by omega⟩, Bool.or_true]), Int.toNat_natCast, iNe_f hd, m1]
      simp only [Bool.or_self, Bool.not_false, cond_true, bind_some', Bool.false_or]
      rw [iLt_f (by omega), cond_false, need_of (nIn_of ⟨by omega, by omega⟩), behind_ok hpq (hI k hk) g1 g2 ⟨g3, g4⟩ ⟨g5, g6⟩ ⟨h0, hr⟩ g7 g8, bind_some', iLt_f (by omega), iLt_f (by omega), Bool.or_self, cond_false]
      by_cases h21 : (code.getD k default).Op = 21
      · rw [iEq_t h21, cond_true, lives11]; rfl
      rw [iEq_f h21, cond_false, need_of (by rw [nIn_of ⟨by omega, by omega⟩, Bool.or_true]), w64 (a := (i : Int) + 1) (by omega), show (i : Int) + 1 = ((i + 1 : Nat) : Int) by omega]
      cases n with
      | zero => omega
      | succ n =>
        cases hj : (iEq (code.getD k default).Op 18 || (iEq (code.getD k default).Op 19 && way.getD (i : Int).toNat default)) with
        | true =>
          have hj' : (code.getD k default).Op = 18 ∨ (code.getD k default).Op = 19 := by
            rcases Bool.or_eq_true_iff.1 hj with h | h
            · exact .inl (iEq_iff.1 h)
            · exact .inr (iEq_iff.1 (Bool.and_eq_true_iff.1 h).1)
          obtain ⟨q0, q1, q2⟩ := g10 hj'
          have := holds_l11 (way := way) hpq hc hlen hI hL n (i + 1) f (code.getD k default).A.toNat (d - v + u) (by omega) (by omega) (by omega) q2 (by omega)
          rw [Int.toNat_of_nonneg q0] at this
          rw [cond_true]
          exact this
        | false =>
          have h18 : (code.getD k default).Op ≠ 18 := iEq_iff'.1 (Bool.or_eq_false_iff.1 hj).1
          obtain ⟨q1, q2⟩ := g9 h18 h21
          have := holds_l11 (way := way) hpq hc hlen hI hL n (i + 1) f (k + 1) (d - v + u) (by omega) (by omega) (by omega) q2 (by omega)
          rw [cond_false, w64 (by omega), show (k : Int) + 1 = ((k + 1 : Nat) : Int) by omega]
          exact this
theorem DepthHolds_pure (p : T_api_Program) (a1 : Int) (way : List Bool) : law11_DepthHolds p a1 way = some true := by
  unfold law11_DepthHolds
  obtain ⟨e, he, hp⟩ := prog_tot p
  rw [he, bind_some']
  by_cases h : e = 0
  · have hp := hp h
    obtain ⟨ds, ws, ho⟩ := own10 hp
    rw [iNe_f h, cond_false, ho, bind_some']
    obtain ⟨l, a, e', h1, h2⟩ := depth_Of_ok (p := ⟨ds, ws, p.Funcs⟩) hp.most hp.fns a1
    rw [h1, bind_some']
    dsimp only at h2 ⊢
    by_cases h' : e' = 0
    · obtain ⟨k0, k1, hL⟩ := h2 h'
      have ok := hp.fns a1.toNat (by omega)
      rw [iNe_f h', cond_false, need_of (nIn_of ⟨k0, k1⟩), iNe_f (by rw [hL.len]), cond_false]
      exact holds_l11 (p := p) (way := way) (x5 := (l, a, e')) (q := ⟨ds, ws, p.Funcs⟩) (code := (p.Funcs.getD a1.toNat default).Code) rfl rfl ok.most ok.ins hL 400 0 fuel 0 0 (by omega) (by have := fuel_big; omega) (by have := ok.pos; omega) hL.d0 (by omega)
    · rw [iNe_t h', cond_true, lives11]; rfl
  · rw [iNe_t h, cond_true, lives11]; rfl
end LJ
