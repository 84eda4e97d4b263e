/- A program that may run, as the document tells: the check answers, and what it lets by. -/
import Derived.Test.YtcnfbifekdmacaaE15A
namespace LJ
open Go Go.RowKit
set_option linter.unusedVariables false
set_option linter.unusedSimpArgs false

/-! ### What an instruction takes, lays -/
def takesT : List Int := [0, 0, 1, 2, 2, 2, 2, 2, 1, 2, 2, 2, 2, 2, 2, 2, 1, 1, 0, 1, 0, 1, 0, 0, 1, 0, 0, 1, 1, 0, 1, 1, 0, 1, 0, 0, 0, 0, 0, 1, 2, 0, 1, 2, 1, 0, 1, 0, 0, 1, 0, 0]
def laysT : List Int := [1, 1, 0, 1, 1, 1, 1, 1, 1, 1, 1, 1, 1, 1, 1, 1, 2, 0, 0, 0, 1, 0, 1, 1, 1, 0, 1, 1, 1, 1, 1, 1, 1, 1, 1, 1, 1, 1, 1, 1, 1, 1, 1, 1, 1, 2, 1, 1, 1, 1, 1, 1]
def popsN (x : T_api_Ins) (a : Int) : Int := cond (iEq x.Op 20) a (cond (iEq x.Op 41 || iEq x.Op 42) (takesT.getD x.Op.toNat default + x.B) (takesT.getD x.Op.toNat default))
def pushN (k : Int) : Int := laysT.getD k.toNat default
theorem okA {x : T_api_Ins} (h : OkI x) : -2147483648 ≤ x.A ∧ x.A < 2147483648 := by
  by_cases h0 : (formL x.Op).size = 0
  · rw [h.a0 h0]; omega
  · have := inL_rng (h.a1 (by omega)); omega
theorem okB {x : T_api_Ins} (h : OkI x) : -2147483648 ≤ x.B ∧ x.B < 2147483648 := by
  by_cases h0 : (formL x.Op).size ≤ 1
  · rw [h.b0 h0]; omega
  · have := inL_rng (h.b1 (by omega)); omega
theorem okJump {x : T_api_Ins} (h : OkI x) (hx : x.Op = 18 ∨ x.Op = 19 ∨ x.Op = 20) : 0 ≤ x.A := by
  have key : 0 < (formL x.Op).size ∧ byteAt (formL x.Op) 0 ≠ 110 := by rcases hx with h | h | h <;> rw [h] <;> decide +kernel
  exact (inL_rng (h.a1 key.1)).2.2 key.2
theorem okJoin {x : T_api_Ins} (h : OkI x) (hx : x.Op = 41 ∨ x.Op = 42) : 1 ≤ x.B ∧ x.B ≤ 4 := by
  have key : 1 < (formL x.Op).size ∧ byteAt (formL x.Op) 1 = 106 := by rcases hx with h | h <;> rw [h] <;> decide +kernel
  have := h.b1 key.1
  rw [key.2] at this
  unfold inL at this
  rw [iEq_f (show (106 : Int) ≠ 110 by decide), iEq_f (show (106 : Int) ≠ 107 by decide), iEq_f (show (106 : Int) ≠ 116 by decide), iEq_f (show (106 : Int) ≠ 102 by decide), iEq_t rfl] at this
  simpa only [cond_true, cond_false, Bool.and_eq_true, iLe_iff] using this
theorem takes_eq : ref06_Takes = some takesT := rfl
theorem lays_eq : ref06_Lays = some laysT := rfl
theorem pops_ref {x : T_api_Ins} (h : OkI x) (a : Int) : ref06_Pops x a = some (popsN x a) := by
  have hk : (iLe 0 x.Op && iLe x.Op 51) = true := by rw [Bool.and_eq_true, iLe_iff, iLe_iff]; have := h.op; omega
  have ho := h.op
  have hb := okB h
  have hin : nIn x.Op ((52 : Nat) : Int) = true := nIn_of ⟨by omega, by omega⟩
  have hT : 0 ≤ takesT.getD x.Op.toNat default ∧ takesT.getD x.Op.toNat default ≤ 2 := by
    have key : ∀ k : Fin 52, 0 ≤ takesT.getD k default ∧ takesT.getD k default ≤ 2 := by decide +kernel
    exact key ⟨x.Op.toNat, by omega⟩
  unfold ref06_Pops ref06_Known popsN
  rw [bind_some', hk, Bool.not_true, cond_false, takes_eq]
  simp only [bind_some']
  rw [show (takesT.length : Int) = ((52 : Nat) : Int) from rfl, hin, need_of rfl, need_of rfl, w64 (by omega)]
  cases iEq x.Op 20 <;> cases (iEq x.Op 41 || iEq x.Op 42) <;> rfl
theorem push_ref {k : Int} (h : 0 ≤ k ∧ k < 52) : ref06_Pushes k = some (pushN k) := by
  unfold ref06_Pushes ref06_Known
  rw [bind_some', show (iLe 0 k && iLe k 51) = true by rw [Bool.and_eq_true, iLe_iff, iLe_iff]; omega, Bool.not_true, cond_false, lays_eq, bind_some', need_of (nIn_of ⟨by omega, by show k < 52; omega⟩)]
  rfl
theorem pushN_rng {k : Int} (h : 0 ≤ k ∧ k < 52) : 0 ≤ pushN k ∧ pushN k ≤ 2 := by
  have key : ∀ j : Fin 52, 0 ≤ laysT.getD j default ∧ laysT.getD j default ≤ 2 := by decide +kernel
  exact key ⟨k.toNat, by omega⟩
theorem popsN_rng {x : T_api_Ins} (h : OkI x) {a : Int} (ha : 0 ≤ a ∧ a ≤ 8) : 0 ≤ popsN x a ∧ popsN x a ≤ 8 ∧ (x.Op ≠ 20 → popsN x a ≤ 5) := by
  have ho := h.op
  have hT : 0 ≤ takesT.getD x.Op.toNat default ∧ takesT.getD x.Op.toNat default ≤ 2 := by
    have key : ∀ k : Fin 52, 0 ≤ takesT.getD k default ∧ takesT.getD k default ≤ 2 := by decide +kernel
    exact key ⟨x.Op.toNat, by omega⟩
  unfold popsN
  by_cases h20 : x.Op = 20
  · rw [iEq_t h20, cond_true]; omega
  · rw [iEq_f h20, cond_false]
    by_cases h4 : x.Op = 41 ∨ x.Op = 42
    · have := okJoin h h4
      rw [show (iEq x.Op 41 || iEq x.Op 42) = true by rw [Bool.or_eq_true, iEq_iff, iEq_iff]; exact h4, cond_true]
      have h1 : takesT.getD x.Op.toNat default ≤ 1 := by rcases h4 with e | e <;> rw [e] <;> decide
      omega
    · rw [show (iEq x.Op 41 || iEq x.Op 42) = false by rw [Bool.or_eq_false_iff, iEq_iff', iEq_iff']; omega, cond_false]
      omega
/-- How many arguments a call's function has. -/
def argsR (p : T_api_Program) (x : T_api_Ins) : Int := cond (iEq x.Op 20 && iLt x.A (p.Funcs.length : Int)) (p.Funcs.getD x.A.toNat default).Args 0
def behR (p : T_api_Program) (x : T_api_Ins) (d : Int) : Int := d - popsN x (argsR p x) + pushN x.Op
theorem argsR_rng {p : T_api_Program} (hp : OkP p) {x : T_api_Ins} (hx : OkI x) : 0 ≤ argsR p x ∧ argsR p x ≤ 8 := by
  unfold argsR
  cases h : (iEq x.Op 20 && iLt x.A (p.Funcs.length : Int)) with
  | true =>
    rw [Bool.and_eq_true, iEq_iff, iLt_iff] at h
    have h0 := okJump hx (.inr (.inr h.1))
    exact (hp.fns x.A.toNat (by omega)).args
  | false => rw [cond_false]; omega
theorem behind_ref {p : T_api_Program} (hp : OkP p) {x : T_api_Ins} (hx : OkI x) {d : Int} (hd : 0 ≤ d ∧ d ≤ 16) : ref11_Behind p x d = some (cond (iLt (d - popsN x (argsR p x)) 0) (-1) (behR p x d)) := by
  have ha := argsR_rng hp hx
  have hv := popsN_rng hx ha
  have hu := pushN_rng hx.op
  have fin : ∀ a, argsR p x = a → (ref06_Pops x a).bind (fun (x3 : Int) => cond (iLt (IntKind.i64.wrap (d - x3)) 0) (some (-1)) ((ref06_Pushes x.Op).bind fun (x5 : Int) => some (IntKind.i64.wrap ((IntKind.i64.wrap (d - x3)) + x5)))) = some (cond (iLt (d - popsN x (argsR p x)) 0) (-1) (behR p x d)) := fun a e => by
    subst e
    rw [pops_ref hx, bind_some', push_ref hx.op, bind_some', w64 (a := d - popsN x (argsR p x)) (by omega), w64 (by omega), ← cond_some]
    rfl
  unfold ref11_Behind
  cases h : (iEq x.Op 20 && iLt x.A (p.Funcs.length : Int)) with
  | true =>
    have h' := h
    rw [Bool.and_eq_true, iEq_iff, iLt_iff] at h
    have h0 := okJump hx (.inr (.inr h.1))
    rw [cond_true, need_of (nIn_of ⟨h0, h.2⟩)]
    exact fin _ (by unfold argsR; rw [h', cond_true])
  | false =>
    rw [cond_false]
    exact fin _ (by unfold argsR; rw [h, cond_false])
/-! ### Where it leads -/
def waysL (x : T_api_Ins) (i : Int) : List Int := cond (iNe x.Op 18 && iNe x.Op 21) [i + 1] [] ++ cond (iEq x.Op 18 || iEq x.Op 19) [x.A] []
theorem waysL_len (x : T_api_Ins) (i : Int) : (waysL x i).length ≤ 2 := by
  unfold waysL
  cases (iNe x.Op 18 && iNe x.Op 21) <;> cases (iEq x.Op 18 || iEq x.Op 19) <;> simp
theorem ways_ref (x : T_api_Ins) {i : Int} (h : 0 ≤ i ∧ i ≤ 1000) : ref11_ways x i = some (waysL x i) := by
  unfold ref11_ways waysL
  rw [w64 (by omega)]
  cases (iNe x.Op 18 && iNe x.Op 21) <;> cases (iEq x.Op 18 || iEq x.Op 19) <;> rfl
theorem ways_nn {x : T_api_Ins} (hx : OkI x) {i : Int} (h : 0 ≤ i) : ∀ t ∈ waysL x i, 0 ≤ t := fun t ht => by
  unfold waysL at ht
  rcases List.mem_append.1 ht with h1 | h1
  · cases hc : (iNe x.Op 18 && iNe x.Op 21) with
    | true => rw [hc, cond_true, List.mem_singleton] at h1; omega
    | false => rw [hc] at h1; cases h1
  · cases hc : (iEq x.Op 18 || iEq x.Op 19) with
    | true =>
      rw [hc, cond_true, List.mem_singleton] at h1
      rw [Bool.or_eq_true, iEq_iff, iEq_iff] at hc
      have := okJump hx (by omega)
      omega
    | false => rw [hc] at h1; cases h1
theorem set_getD {α : Type} [Inhabited α] (L : List α) (k : Nat) (v : α) (hk : k < L.length) (i : Nat) : (L.set k v).getD i default = if i = k then v else L.getD i default := by
  by_cases h : i = k
  · subst h
    rw [if_pos rfl, List.getD_eq_getElem?_getD, List.getElem?_set_self hk]; rfl
  · rw [if_neg h, List.getD_eq_getElem?_getD, List.getElem?_set_ne (fun e => h e.symm), List.getD_eq_getElem?_getD]
theorem one_l9 (code : List T_api_Ins) (hc : code.length ≤ 200) (d : Int) (hd : 0 ≤ d) (ws : List Int) (hw : ∀ t ∈ ws, 0 ≤ t) (hl : ws.length ≤ 2) : ∀ (n i f : Nat) (D : List Int), i + n = ws.length → n < f → D.length = code.length →
    ∃ e D', ref11_one_l9 code d ws f ((i : Int), D) = some (e, D') ∧ D'.length = code.length ∧ (∀ j, 0 ≤ D.getD j default → D'.getD j default = D.getD j default) ∧ (∀ j, D'.getD j default = D.getD j default ∨ D'.getD j default = d) ∧
      (e = 0 → ∀ k, i ≤ k → k < ws.length → ws.getD k default < code.length ∧ D'.getD (ws.getD k default).toNat default = d)
  | n, i, 0, D, hi, hf, hD => by omega
  | 0, i, f + 1, D, hi, hf, hD => by
    rw [ref11_one_l9]
    dsimp only
    rw [iLt_f (by omega), cond_false]
    exact ⟨0, D, rfl, hD, fun j _ => rfl, fun j => .inl rfl, fun _ k h1 h2 => by omega⟩
  | n + 1, i, f + 1, D, hi, hf, hD => by
    have ht : 0 ≤ ws.getD i default := hw _ (by
      rw [List.getD_eq_getElem?_getD, List.getElem?_eq_getElem (by omega)]
      exact List.getElem_mem _)
    have hN : nIn (i : Int) (ws.length : Int) = true := nIn_of ⟨by omega, by omega⟩
    rw [ref11_one_l9]
    dsimp only
    rw [iLt_t (by omega), cond_true, hN, need_of rfl, Int.toNat_natCast]
    by_cases h3 : (code.length : Int) ≤ ws.getD i default
    · rw [iLe_t h3, cond_true]
      exact ⟨3, D, rfl, hD, fun j _ => rfl, fun j => .inl rfl, fun h => by cases h⟩
    · have hT : nIn (ws.getD i default) (D.length : Int) = true := nIn_of ⟨ht, by omega⟩
      rw [iLe_f (by omega), cond_false, need_of rfl, hT, need_of rfl]
      have key : (0 ≤ D.getD (ws.getD i default).toNat default → D.getD (ws.getD i default).toNat default = d) → ∃ e D', ref11_one_l9 code d ws f (IntKind.i64.wrap ((i : Int) + 1), D.set (ws.getD i default).toNat d) = some (e, D') ∧ D'.length = code.length ∧ (∀ j, 0 ≤ D.getD j default → D'.getD j default = D.getD j default) ∧ (∀ j, D'.getD j default = D.getD j default ∨ D'.getD j default = d) ∧
          (e = 0 → ∀ k, i ≤ k → k < ws.length → ws.getD k default < code.length ∧ D'.getD (ws.getD k default).toNat default = d) := fun hq => by
        have hset := set_getD D (ws.getD i default).toNat d (by omega)
        obtain ⟨e, D', h1, h2, h4, h5, h6⟩ := one_l9 code hc d hd ws hw hl n (i + 1) f (D.set (ws.getD i default).toNat d) (by omega) (by omega) (by rw [List.length_set]; exact hD)
        rw [w64 (by omega), show (i : Int) + 1 = ((i + 1 : Nat) : Int) by omega]
        refine ⟨e, D', h1, h2, fun j hj => ?_, fun j => ?_, fun h0 k hk hk' => ?_⟩
        · have a := h4 j
          rw [hset] at a
          by_cases c : j = (ws.getD i default).toNat
          · rw [if_pos c] at a
            rw [a hd, c, hq (by rw [← c]; exact hj)]
          · rw [if_neg c] at a
            exact a hj
        · have a := h5 j
          rw [hset] at a
          by_cases c : j = (ws.getD i default).toNat
          · rw [if_pos c] at a
            exact .inr (a.elim id id)
          · rw [if_neg c] at a
            exact a
        · rcases Nat.eq_or_lt_of_le hk with rfl | hk
          · refine ⟨by omega, ?_⟩
            have a := h4 (ws.getD i default).toNat
            rw [hset, if_pos rfl] at a
            exact a hd
          · exact h6 h0 k hk hk'
      by_cases h4 : 0 ≤ D.getD (ws.getD i default).toNat default
      · rw [iLe_t h4, cond_true, need_of rfl, need_of rfl]
        by_cases h5 : D.getD (ws.getD i default).toNat default = d
        · rw [iNe_f h5, cond_false, need_of rfl, need_of rfl]
          exact key fun _ => h5
        · rw [iNe_t h5, cond_true]
          exact ⟨2, D, rfl, hD, fun j _ => rfl, fun j => .inl rfl, fun h => by cases h⟩
      · rw [iLe_f (by omega), cond_false, need_of rfl, need_of rfl]
        exact key fun h => absurd h h4
/-- What follows behind an instruction that stands at a depth, where nothing is wrong. -/
structure GoodR (p : T_api_Program) (code : List T_api_Ins) (D : List Int) (i : Nat) : Prop where
  takes : 0 ≤ D.getD i default - popsN (code.getD i default) (argsR p (code.getD i default))
  most : behR p (code.getD i default) (D.getD i default) ≤ 16
  ways : ∀ t ∈ waysL (code.getD i default) (i : Int), t < code.length ∧ D.getD t.toNat default = behR p (code.getD i default) (D.getD i default)
theorem mem_getD {l : List Int} {t : Int} (h : t ∈ l) : ∃ k, k < l.length ∧ l.getD k default = t := by
  obtain ⟨k, hk, e⟩ := List.getElem_of_mem h
  exact ⟨k, hk, by rw [List.getD_eq_getElem?_getD, List.getElem?_eq_getElem hk]; exact e⟩
theorem one_ref {p : T_api_Program} (hp : OkP p) {code : List T_api_Ins} (hc : code.length ≤ 200) (hI : ∀ j, j < code.length → OkI (code.getD j default)) {D : List Int} (hD : D.length = code.length) {i : Nat} (hi : i < code.length) (h0 : 0 ≤ D.getD i default ∧ D.getD i default ≤ 16) :
    ∃ e D', ref11_one p code D (i : Int) = some (e, D') ∧ D'.length = code.length ∧ (∀ j, 0 ≤ D.getD j default → D'.getD j default = D.getD j default) ∧ (∀ j, D'.getD j default = D.getD j default ∨ 0 ≤ D'.getD j default ∧ D'.getD j default ≤ 16) ∧ (e = 0 → GoodR p code D' i) := by
  have hx := hI i hi
  have ha := argsR_rng hp hx
  have hv := popsN_rng hx ha
  have hu := pushN_rng hx.op
  unfold ref11_one
  rw [need_of (nIn_of ⟨by omega, by omega⟩), need_of (nIn_of ⟨by omega, by omega⟩), Int.toNat_natCast, behind_ref hp hx h0, bind_some']
  by_cases h1 : D.getD i default - popsN (code.getD i default) (argsR p (code.getD i default)) < 0
  · rw [iLt_t h1, cond_true, iLt_t (by decide), cond_true]
    exact ⟨2, D, rfl, hD, fun j _ => rfl, fun j => .inl rfl, fun h => by cases h⟩
  · have hb : 0 ≤ behR p (code.getD i default) (D.getD i default) := by unfold behR; omega
    rw [iLt_f (a := D.getD i default - popsN (code.getD i default) (argsR p (code.getD i default))) (by omega), cond_false, iLt_f hb, cond_false]
    by_cases h2 : 16 < behR p (code.getD i default) (D.getD i default)
    · rw [iLt_t h2, cond_true]
      exact ⟨4, D, rfl, hD, fun j _ => rfl, fun j => .inl rfl, fun h => by cases h⟩
    · rw [iLt_f (by omega), cond_false, need_of (nIn_of ⟨by omega, by omega⟩), ways_ref _ (by omega), bind_some']
      obtain ⟨e, D', q1, q2, q3, q4, q5⟩ := one_l9 code hc _ hb (waysL (code.getD i default) (i : Int)) (ways_nn hx (by omega)) (waysL_len _ _) (waysL (code.getD i default) (i : Int)).length 0 fuel D (by omega) (by have := waysL_len (code.getD i default) (i : Int); have := fuel_big; omega) hD
      refine ⟨e, D', q1, q2, q3, fun j => (q4 j).imp id fun h => by omega, fun h => ⟨by rw [q3 i h0.1]; omega, by rw [q3 i h0.1]; omega, fun t ht => ?_⟩⟩
      obtain ⟨k, hk, e⟩ := mem_getD ht
      have := q5 h k (Nat.zero_le _) hk
      rw [e] at this
      rw [q3 i h0.1]
      exact this
theorem GoodR.ext {p : T_api_Program} {code : List T_api_Ins} {D D' : List Int} {i : Nat} (h : GoodR p code D i) (hI : OkI (code.getD i default)) (hp : OkP p) (h0 : 0 ≤ D.getD i default) (he : ∀ j, 0 ≤ D.getD j default → D'.getD j default = D.getD j default) : GoodR p code D' i := by
  have hb : 0 ≤ behR p (code.getD i default) (D.getD i default) := by
    have := pushN_rng hI.op
    have := h.takes
    unfold behR; omega
  refine ⟨by rw [he i h0]; exact h.takes, by rw [he i h0]; exact h.most, fun t ht => ?_⟩
  obtain ⟨h1, h2⟩ := h.ways t ht
  exact ⟨h1, by rw [he i h0, he t.toNat (by omega)]; exact h2⟩
/-! ### The depths -/
structure InvR (p : T_api_Program) (code : List T_api_Ins) (s : Int × Int × List Int × List Bool) : Prop where
  dl : s.2.2.1.length = code.length
  nl : s.2.2.2.length = code.length
  d0 : s.2.2.1.getD 0 default = 0
  rng : ∀ j, s.2.2.1.getD j default ≤ 16
  dn : ∀ j, j < code.length → s.2.2.2.getD j default = true → 0 ≤ s.2.2.1.getD j default
  fb : s.2.1 = 0 → s.1 = code.length
  good : s.2.1 = 0 → ∀ j, j < code.length → s.2.2.2.getD j default = true → GoodR p code s.2.2.1 j
structure OkR (p : T_api_Program) (code : List T_api_Ins) (D : List Int) : Prop where
  len : D.length = code.length
  d0 : D.getD 0 default = 0
  rng : ∀ i, D.getD i default ≤ 16
  good : ∀ i, i < code.length → 0 ≤ D.getD i default → GoodR p code D i
theorem of_l15 {p : T_api_Program} {k : Int} {code : List T_api_Ins} (hc : (p.Funcs.getD k.toNat default).Code = code) (hlen : code.length ≤ 200) {s : Int × Int × List Int × List Bool} (hs : InvR p code s) {K : Int → Option (List Int × Int × Int)} {P : Option (List Int × Int × Int) → Prop} (hK : ∀ i : Nat, i ≤ code.length → (i < code.length → s.2.2.2.getD i default = false ∧ 0 ≤ s.2.2.1.getD i default) → (i = code.length → ∀ j, j < code.length → s.2.2.2.getD j default = true ∨ s.2.2.1.getD j default < 0) → P (K (i : Int))) : ∀ (n i f : Nat), i + n = code.length → n < f → (∀ j, j < i → s.2.2.2.getD j default = true ∨ s.2.2.1.getD j default < 0) → P (ref11_Of_l15 p k s K f (i : Int))
  | n, i, 0, hi, hf, hj => by omega
  | 0, i, f + 1, hi, hf, hj => by
    rw [ref11_Of_l15, hc, iLt_f (by omega), cond_false]
    exact hK i (by omega) (fun h => by omega) fun h j hj' => hj j (by omega)
  | n + 1, i, f + 1, hi, hf, hj => by
    have hd := hs.dl
    have hn := hs.nl
    have next : (s.2.2.2.getD i default = true ∨ s.2.2.1.getD i default < 0) → P (ref11_Of_l15 p k s K f (IntKind.i64.wrap ((i : Int) + 1))) := fun h => by
      rw [w64 (by omega), show (i : Int) + 1 = ((i + 1 : Nat) : Int) by omega]
      refine of_l15 hc hlen hs hK n (i + 1) f (by omega) (by omega) fun j hj' => ?_
      rcases Nat.lt_or_ge j i with h1 | h1
      · exact hj j h1
      · rw [show j = i by omega]; exact h
    rw [ref11_Of_l15, hc, iLt_t (by omega), cond_true, need_of (nIn_of ⟨by omega, by omega⟩), Int.toNat_natCast]
    cases hb : s.2.2.2.getD i default with
    | true => exact next (.inl hb)
    | false =>
      rw [cond_false, need_of (nIn_of ⟨by omega, by omega⟩)]
      by_cases h0 : s.2.2.1.getD i default < 0
      · rw [iLt_t h0, cond_true]; exact next (.inr h0)
      · rw [iLt_f (by omega), cond_false]
        exact hK i (by omega) (fun _ => ⟨hb, by omega⟩) fun h => by omega
def left (L : List Bool) (n : Nat) : Nat := (List.range n).countP fun i => !(L.getD i default)
theorem countP_lt' {p q : Nat → Bool} : ∀ (l : List Nat) (a : Nat), (∀ x ∈ l, q x = true → p x = true) → a ∈ l → p a = true → q a = false → l.countP q < l.countP p
  | [], a, h, ha, hp, hq => by cases ha
  | x :: l, a, h, ha, hp, hq => by
    have hx := h x (List.mem_cons_self ..)
    have hle : l.countP q ≤ l.countP p := List.countP_mono_left fun y hy => h y (List.mem_cons_of_mem _ hy)
    rw [List.countP_cons, List.countP_cons]
    rcases List.mem_cons.1 ha with rfl | ha
    · rw [if_pos hp, if_neg (by rw [hq]; decide)]; omega
    · have ih := countP_lt' l a (fun y hy => h y (List.mem_cons_of_mem _ hy)) ha hp hq
      cases hqx : q x with
      | true => rw [if_pos rfl, if_pos (hx hqx)]; omega
      | false => rw [if_neg (by decide)]; split <;> omega
def ResR (p : T_api_Program) (code : List T_api_Ins) (z : Option (List Int × Int × Int)) : Prop := ∃ l a e, z = some (l, a, e) ∧ (e = 0 → OkR p code l)
theorem of_l11 {p : T_api_Program} (hp : OkP p) {k : Int} {code : List T_api_Ins} (hc : (p.Funcs.getD k.toNat default).Code = code) (hlen : code.length ≤ 200) (hI : ∀ j, j < code.length → OkI (code.getD j default)) {K : Int × Int × List Int → Option (List Int × Int × Int)} (hK : ∀ a b D, K (a, b, D) = cond (iNe b 0) (some ([], a, b)) (some (D, 0, 0))) : ∀ (m f : Nat) (s : Int × Int × List Int × List Bool), left s.2.2.2 code.length ≤ m → m < f → InvR p code s → ResR p code (ref11_Of_l11 p k K f s)
  | m, 0, s, hm, hf, hs => by omega
  | m, f + 1, s, hm, hf, hs => by
    rw [ref11_Of_l11, withK_eq]
    refine of_l15 (P := ResR p code) hc hlen hs (fun i hi h1 h2 => ?_) code.length 0 fuel (by omega) (by have := fuel_big; omega) fun j hj => by omega
    rw [hc]
    have hd := hs.dl
    have hn := hs.nl
    by_cases hl : i = code.length
    · rw [iEq_t (by omega), cond_true, hK]
      by_cases hb : s.2.1 = 0
      · rw [iNe_f hb, cond_false]
        refine ⟨_, _, _, rfl, fun _ => ⟨hs.dl, hs.d0, hs.rng, fun j hj h0 => ?_⟩⟩
        rcases h2 hl j hj with h | h
        · exact hs.good hb j hj h
        · omega
      · rw [iNe_t hb, cond_true]
        exact ⟨_, _, _, rfl, fun h => absurd h hb⟩
    · obtain ⟨hb, h0⟩ := h1 (by omega)
      have hlt : i < code.length := by omega
      rw [iEq_f (by omega), cond_false]
      obtain ⟨e, D', q1, q2, q3, q4, q5⟩ := one_ref hp hlen hI hs.dl hlt ⟨h0, hs.rng i⟩
      rw [q1, bind_some', need_of (nIn_of ⟨by omega, by omega⟩), Int.toNat_natCast]
      have hset := set_getD s.2.2.2 i true (by omega)
      have hm' : left (s.2.2.2.set i true) code.length ≤ m - 1 ∧ 0 < m := by
        have : left (s.2.2.2.set i true) code.length < left s.2.2.2 code.length := by
          refine countP_lt' _ i (fun x _ hx => ?_) (List.mem_range.2 hlt) (by rw [hb]; rfl) (by rw [hset, if_pos rfl]; rfl)
          rw [hset] at hx
          by_cases c : x = i
          · rw [if_pos c] at hx; cases hx
          · rwa [if_neg c] at hx
        omega
      have inv : ∀ a b, (b = 0 → a = (code.length : Int) ∧ s.2.1 = 0 ∧ e = 0) → InvR p code (a, b, D', s.2.2.2.set i true) := fun a b hab => by
        refine ⟨q2, by rw [List.length_set]; exact hn, by dsimp only; rw [q3 0 (by rw [hs.d0]; decide), hs.d0], fun j => ?_, fun j hj hd' => ?_, fun h => (hab h).1, fun h j hj hd' => ?_⟩
        · have := hs.rng j
          dsimp only
          rcases q4 j with h | h <;> omega
        · dsimp only at hd' ⊢
          rw [hset] at hd'
          by_cases c : j = i
          · rw [c, q3 i h0]; exact h0
          · rw [if_neg c] at hd'
            have := hs.dn j hj hd'
            rw [q3 j this]; exact this
        · dsimp only at hd' ⊢
          rw [hset] at hd'
          by_cases c : j = i
          · rw [c]; exact q5 (hab h).2.2
          · rw [if_neg c] at hd'
            have h3 := hs.dn j hj hd'
            exact (hs.good (hab h).2.1 j hj hd').ext (hI j hj) hp h3 q3
      by_cases he : e = 0
      · rw [iNe_f he, Bool.false_and, cond_false]
        exact of_l11 hp hc hlen hI hK (m - 1) f _ hm'.1 (by omega) (inv _ _ fun h => ⟨hs.fb h, h, he⟩)
      · rw [iNe_t he, Bool.true_and]
        by_cases hfi : (i : Int) < s.1
        · rw [iLt_t hfi, cond_true]
          exact of_l11 hp hc hlen hI hK (m - 1) f _ hm'.1 (by omega) (inv _ _ fun h => absurd h he)
        · rw [iLt_f (by omega), cond_false]
          exact of_l11 hp hc hlen hI hK (m - 1) f _ hm'.1 (by omega) (inv _ _ fun h => by have := hs.fb h; omega)
theorem of_l5 {p : T_api_Program} {k : Int} {code : List T_api_Ins} (hc : (p.Funcs.getD k.toNat default).Code = code) (hlen : code.length ≤ 200) {P : Option (List Int × Int × Int) → Prop} (hK : ∀ D : List Int, D.length = code.length → D.getD 0 default = 0 → (∀ j, 1 ≤ j → j < code.length → D.getD j default = -1) → P (withK (fun s9 : Int × Int × (List Int) => cond (iNe s9.2.1 0) (some ([], s9.1, s9.2.1)) (some (s9.2.2, 0, 0))) fun K8 => ref11_Of_l11 p k K8 fuel ((((p.Funcs.getD k.toNat default).Code).length : Int), 0, D, List.replicate (((p.Funcs.getD k.toNat default).Code).length : Int).toNat (false : Bool)))) : ∀ (n i f : Nat) (D : List Int), i + n = code.length → n < f → 1 ≤ i → D.length = code.length → D.getD 0 default = 0 → (∀ j, 1 ≤ j → j < i → D.getD j default = -1) → P (ref11_Of_l5 p k f ((i : Int), D))
  | n, i, 0, D, hi, hf, h1, hD, h0, hj => by omega
  | 0, i, f + 1, D, hi, hf, h1, hD, h0, hj => by
    rw [ref11_Of_l5]
    dsimp only
    rw [iLt_f (by rw [hc]; omega), cond_false]
    exact hK D hD h0 fun j h1 h2 => hj j h1 (by omega)
  | n + 1, i, f + 1, D, hi, hf, h1, hD, h0, hj => by
    rw [ref11_Of_l5]
    dsimp only
    rw [iLt_t (by rw [hc]; omega), cond_true, need_of (nIn_of ⟨by omega, by omega⟩), w64 (by omega), show (i : Int) + 1 = ((i + 1 : Nat) : Int) by omega, Int.toNat_natCast]
    have hset := set_getD D i (-1) (by omega)
    refine of_l5 hc hlen hK n (i + 1) f _ (by omega) (by omega) (by omega) (by rw [List.length_set]; exact hD) (by rw [hset, if_neg (by omega)]; exact h0) fun j h2 h3 => ?_
    rw [hset]
    by_cases c : j = i
    · rw [if_pos c]
    · rw [if_neg c]; exact hj j h2 (by omega)
theorem rep_getD {α : Type} [Inhabited α] (n : Nat) (a : α) (i : Nat) (h : i < n) : (List.replicate n a).getD i default = a := by
  rw [List.getD_eq_getElem?_getD, List.getElem?_replicate, if_pos h]; rfl
theorem Of_ref {p : T_api_Program} (hp : OkP p) (k : Int) : ∃ l a e, ref11_Of p k = some (l, a, e) ∧ (e = 0 → 0 ≤ k ∧ k < p.Funcs.length ∧ OkR p (p.Funcs.getD k.toNat default).Code l) := by
  unfold ref11_Of
  by_cases hk : k < 0 ∨ (p.Funcs.length : Int) ≤ k
  · rw [show (iLt k 0 || iLe (p.Funcs.length : Int) k) = true by rw [Bool.or_eq_true, iLt_iff, iLe_iff]; exact hk, cond_true]
    exact ⟨_, _, _, rfl, fun h => by cases h⟩
  · have hF := hp.fns k.toNat (by omega)
    have hpos := hF.pos
    have hmost := hF.most
    rw [show (iLt k 0 || iLe (p.Funcs.length : Int) k) = false by rw [Bool.or_eq_false_iff, iLt_iff', iLe_iff']; omega, cond_false, need_of (nIn_of ⟨by omega, by omega⟩), iEq_f (by omega), cond_false]
    have hm8 : nMk ((p.Funcs.getD k.toNat default).Code.length : Int) 8 = true := nMk_of ⟨by omega, by omega, by omega⟩
    have hm1 : nMk ((p.Funcs.getD k.toNat default).Code.length : Int) 1 = true := nMk_of ⟨by omega, by omega, by omega⟩
    rw [need_of hm8, need_of hm1, Int.toNat_natCast]
    have main : ResR p (p.Funcs.getD k.toNat default).Code (ref11_Of_l5 p k fuel (((1 : Nat) : Int), List.replicate (p.Funcs.getD k.toNat default).Code.length (0 : Int))) := by
      refine of_l5 (P := ResR p _) rfl hmost (fun D hD h0 hj => ?_) ((p.Funcs.getD k.toNat default).Code.length - 1) 1 fuel _ (by omega) (by have := fuel_big; omega) (by omega) (by rw [List.length_replicate]) (by rw [rep_getD _ _ _ (by omega)]) fun j h1 h2 => by omega
      rw [withK_eq, Int.toNat_natCast]
      have hfree : ∀ j, j < (p.Funcs.getD k.toNat default).Code.length → (List.replicate (p.Funcs.getD k.toNat default).Code.length (false : Bool)).getD j default = false := fun j hj => rep_getD _ _ _ hj
      refine of_l11 hp rfl hmost hF.ins (fun a b D => rfl) (p.Funcs.getD k.toNat default).Code.length fuel _ ?_ (by have := fuel_big; omega) ⟨hD, by rw [List.length_replicate], h0, fun j => ?_, fun j hj h => ?_, fun _ => rfl, fun _ j hj h => ?_⟩
      · exact Nat.le_trans List.countP_le_length (by rw [List.length_range]; exact Nat.le_refl _)
      · dsimp only
        by_cases c : j = 0
        · rw [c, h0]; decide
        · by_cases c2 : j < (p.Funcs.getD k.toNat default).Code.length
          · rw [hj j (by omega) c2]; decide
          · rw [List.getD_eq_getElem?_getD, List.getElem?_eq_none (by omega)]; decide
      · dsimp only at h
        rw [hfree j hj] at h; cases h
      · dsimp only at h
        rw [hfree j hj] at h; cases h
    obtain ⟨l, a, e, h1, h2⟩ := main
    exact ⟨l, a, e, h1, fun h => ⟨by omega, by omega, h2 h⟩⟩
end LJ
