/- A program that may run, as the document tells: all of the check. -/
import Derived.Test.YtcnfbifekdmacaaE15B
namespace LJ
open Go Go.RowKit
set_option linter.unusedVariables false
set_option linter.unusedSimpArgs false

/-! ### Objects of a letter -/
theorem kinds_tot (c : Int) : ∀ (n i f : Nat), i + n = 8 → n < f → ∃ l, ref08_kinds_l2 c f (i : Int) = some l ∧ l.length ≤ 2
  | n, i, 0, hi, hf => by omega
  | 0, i, f + 1, hi, hf => by
    rw [ref08_kinds_l2, iLt_f (by show (8 : Int) ≤ i; omega), cond_false]
    exact ⟨_, rfl, by simp⟩
  | n + 1, i, f + 1, hi, hf => by
    rw [ref08_kinds_l2, iLt_t (by show (i : Int) < 8; omega), cond_true, need_of (nIn_of ⟨by omega, by show (i : Int) < 8; omega⟩)]
    cases iEq (byteAt (⟨#[117, 115, 112, 99, 109, 98, 118, 113]⟩ : ByteArray) ((i : Int)).toNat) c with
    | true =>
      rw [cond_true, need_of (nIn_of ⟨by omega, by show (i : Int) < 8; omega⟩), Int.toNat_natCast]
      have key : ∀ k : Fin 8, (([([1, 2] : List Int), ([3] : List Int), ([6] : List Int), ([4] : List Int), ([1] : List Int), ([5] : List Int), ([7] : List Int), ([1, 6] : List Int)] : List (List Int)).getD k default).length ≤ 2 := by decide
      exact ⟨_, rfl, key ⟨i, by omega⟩⟩
    | false =>
      rw [cond_false, w64 (by omega), show (i : Int) + 1 = ((i + 1 : Nat) : Int) by omega]
      exact kinds_tot c n (i + 1) f (by omega) (by omega)
theorem fits_l3_tot (L : List T_api_Decl) (o : Int) (ks : List Int) : ∀ (n i f : Nat), i + n = ks.length → ks.length ≤ 2 → n < f → ∃ b, ref08_Fits_l3 L o ks f (i : Int) = some b
  | n, i, 0, hi, hk, hf => by omega
  | 0, i, f + 1, hi, hk, hf => by
    rw [ref08_Fits_l3, iLt_f (by omega), Bool.false_and, Bool.false_and, cond_false]
    exact ⟨_, rfl⟩
  | n + 1, i, f + 1, hi, hk, hf => by
    rw [ref08_Fits_l3, iLt_t (by omega), Bool.true_and]
    cases h : (iLe 0 o && iLt o (L.length : Int)) with
    | false => exact ⟨_, rfl⟩
    | true =>
      rw [Bool.and_eq_true, iLe_iff, iLt_iff] at h
      rw [cond_true, need_of (nIn_of h), need_of (nIn_of ⟨by omega, by omega⟩), w64 (by omega), show (i : Int) + 1 = ((i + 1 : Nat) : Int) by omega]
      cases iEq ((L.getD o.toNat default).Kind) (ks.getD ((i : Int)).toNat default) with
      | true => exact ⟨_, rfl⟩
      | false => rw [cond_false]; exact fits_l3_tot L o ks n (i + 1) f (by omega) hk (by omega)
theorem fits_all (L : List T_api_Decl) (c o : Int) : ∃ b, ref08_Fits L c o = some b := by
  obtain ⟨l, h1, h2⟩ := kinds_tot c 8 0 fuel rfl (by have := fuel_big; omega)
  unfold ref08_Fits ref08_kinds
  rw [show (0 : Int) = ((0 : Nat) : Int) from rfl, h1, bind_some']
  exact fits_l3_tot L o l l.length 0 fuel (by omega) h2 (by have := fuel_big; omega)
/-! ### Operands -/
theorem operand_tot (p : T_api_Program) (F : T_api_Func) (x : T_api_Ins) (c n : Int) (hn : c = 102 → 0 ≤ n) : ∃ e, ref12_operand p F x c n = some e ∧ (e = 0 → c = 102 → n < p.Funcs.length) := by
  unfold ref12_operand ref12_object
  cases h1 : (((iEq c 107 && iLe F.Locals n) || (iEq c 116 && iLe (F.Code.length : Int) n)) || (iEq c 119 && iLe (p.Waits.length : Int) n)) with
  | true => exact ⟨1, rfl, fun h => by cases h⟩
  | false =>
    rw [cond_false, bind_some']
    have tail : ∀ b : Bool, ∃ e, ((cond b (ref08_Fits p.Decls c n) (some default)).bind fun (x5 : Bool) => cond (b && (!x5)) (some (6 : Int)) (some 0)) = some e := fun b => by
      obtain ⟨z, hz⟩ := fits_all p.Decls c n
      cases b with
      | true => rw [cond_true, hz, bind_some']; cases z <;> exact ⟨_, rfl⟩
      | false => exact ⟨_, rfl⟩
    by_cases hc : c = 102
    · have h0 := hn hc
      rw [iEq_t hc]
      by_cases h2 : (p.Funcs.length : Int) ≤ n
      · rw [iLe_t h2]
        exact ⟨1, rfl, fun h => by cases h⟩
      · rw [iLe_f (by omega), nIn_of ⟨h0, by omega⟩, Bool.or_true, need_of rfl, Bool.true_and, Bool.false_or]
        cases (iEq x.Op 40 && iNe (p.Funcs.getD n.toNat default).Args 1) with
        | true => exact ⟨1, rfl, fun h => by cases h⟩
        | false =>
          rw [cond_false]
          obtain ⟨e, he⟩ := tail (((((iNe c 110 && iNe c 107) && iNe c 116) && iNe c 102) && iNe c 119) && iNe c 106)
          exact ⟨e, he, fun _ _ => by omega⟩
    · rw [iEq_f hc]
      simp only [Bool.false_and, Bool.not_false, Bool.true_or]
      rw [need_of rfl, cond_false]
      obtain ⟨e, he⟩ := tail (((((iNe c 110 && iNe c 107) && iNe c 116) && iNe c 102) && iNe c 119) && iNe c 106)
      exact ⟨e, he, fun _ h => absurd h hc⟩
/-- It answers; and where it answers that nothing is wrong, P. -/
def Tot3 (P : Prop) (z : Option (Int × Int × Int)) : Prop := ∃ a b e, z = some (a, b, e) ∧ (e = 0 → P)
/-- A call's function is there. -/
def CallOk (p : T_api_Program) (x : T_api_Ins) : Prop := x.Op = 20 → x.A < p.Funcs.length
theorem form20 : 0 < (formL 20).size ∧ byteAt (formL 20) 0 = 102 := by decide +kernel
theorem prog_l18 {p : T_api_Program} {s t : Int} {F : T_api_Func} {x : T_api_Ins} (hF : p.Funcs.getD s.toNat default = F) (hx0 : F.Code.getD t.toNat default = x) (hx : OkI x) {K : Unit → Option (Int × Int × Int)} {P : Prop} (hK : CallOk p x → Tot3 P (K ())) : ∀ (n i f : Nat), i + n = (formL x.Op).size → n < f → (0 < i → CallOk p x) → Tot3 P (ref12_Program_l18 p s t (formL x.Op) K f (i : Int))
  | n, i, 0, hi, hf, hc => by omega
  | 0, i, f + 1, hi, hf, hc => by
    rw [ref12_Program_l18, iLt_f (by omega), cond_false]
    refine hK fun h20 => hc ?_ h20
    have := form20.1
    rw [h20] at hi
    omega
  | n + 1, i, f + 1, hi, hf, hc => by
    have hf2 := formL_size x.Op
    have h2 : nIn (i : Int) (([x.A, x.B] : List Int).length : Int) = true := nIn_of ⟨by omega, by simp only [List.length_cons, List.length_nil]; omega⟩
    rw [ref12_Program_l18, hF, hx0, iLt_t (by omega), cond_true, need_of (nIn_of ⟨by omega, by omega⟩), need_of h2, Int.toNat_natCast]
    have hnn : byteAt (formL x.Op) i = 102 → 0 ≤ ([x.A, x.B] : List Int).getD i default := fun hb => by
      have : i = 0 ∨ i = 1 := by omega
      rcases this with rfl | rfl
      · exact (inL_rng (hx.a1 (by omega))).2.2 (by rw [hb]; decide)
      · exact (inL_rng (hx.b1 (by omega))).2.2 (by rw [hb]; decide)
    obtain ⟨e, he, he2⟩ := operand_tot p F x (byteAt (formL x.Op) i) (([x.A, x.B] : List Int).getD i default) hnn
    rw [he, bind_some', w64 (by omega), show (i : Int) + 1 = ((i + 1 : Nat) : Int) by omega]
    by_cases h0 : e = 0
    · rw [iNe_f h0, cond_false]
      refine prog_l18 hF hx0 hx hK n (i + 1) f (by omega) (by omega) fun _ => ?_
      by_cases hi0 : i = 0
      · intro h20
        subst hi0
        have := he2 h0 (by rw [h20]; exact form20.2)
        exact this
      · exact hc (by omega)
    · rw [iNe_t h0, cond_true]
      exact ⟨_, _, _, rfl, fun h => absurd h h0⟩
/-- All that is known of a function. -/
structure FnR (p : T_api_Program) (k : Nat) : Prop where
  calls : ∀ j, j < (p.Funcs.getD k default).Code.length → CallOk p ((p.Funcs.getD k default).Code.getD j default)
  depth : ∃ D a, ref11_Of p (k : Int) = some (D, a, 0) ∧ OkR p (p.Funcs.getD k default).Code D
theorem prog_l12 {p : T_api_Program} (hp : OkP p) {k : Nat} (hk : k < p.Funcs.length) {K : Unit → Option (Int × Int × Int)} {P : Prop} (hK : FnR p k → Tot3 P (K ())) : ∀ (n i f : Nat), i + n = (p.Funcs.getD k default).Code.length → n < f → (∀ j, j < i → CallOk p ((p.Funcs.getD k default).Code.getD j default)) → Tot3 P (ref12_Program_l12 p (k : Int) K f (i : Int))
  | n, i, 0, hi, hf, hc => by omega
  | 0, i, f + 1, hi, hf, hc => by
    rw [ref12_Program_l12, Int.toNat_natCast, iLt_f (by omega), cond_false]
    obtain ⟨l, a, e, h1, h2⟩ := Of_ref hp (k : Int)
    rw [h1, bind_some']
    by_cases h0 : e = 0
    · rw [iNe_f h0, cond_false]
      subst h0
      have := (h2 rfl).2.2
      rw [Int.toNat_natCast] at this
      exact hK ⟨fun j hj => hc j (by omega), l, a, h1, this⟩
    · rw [iNe_t h0, cond_true]
      exact ⟨_, _, _, rfl, fun h => absurd h h0⟩
  | n + 1, i, f + 1, hi, hf, hc => by
    have hF := hp.fns k hk
    have hm := hF.most
    rw [ref12_Program_l12, Int.toNat_natCast, iLt_t (by omega), cond_true, withK_eq, need_of (nIn_of ⟨by omega, by omega⟩), Int.toNat_natCast, ref06_Form_eq, bind_some']
    refine prog_l18 (F := p.Funcs.getD k default) (x := (p.Funcs.getD k default).Code.getD i default) rfl rfl (hF.ins i (by omega)) (fun hcall => ?_) (formL ((p.Funcs.getD k default).Code.getD i default).Op).size 0 fuel (by omega) (by have := formL_size ((p.Funcs.getD k default).Code.getD i default).Op; have := fuel_big; omega) (fun h => by omega)
    rw [w64 (by omega), show (i : Int) + 1 = ((i + 1 : Nat) : Int) by omega]
    refine prog_l12 hp hk hK n (i + 1) f (by omega) (by omega) fun j hj => ?_
    rcases Nat.lt_or_ge j i with h | h
    · exact hc j h
    · rw [show j = i by omega]; exact hcall
theorem prog_l6 {p : T_api_Program} (hp : OkP p) : ∀ (n i f : Nat), i + n = p.Funcs.length → n < f → (∀ j, j < i → FnR p j) → Tot3 (∀ j, j < p.Funcs.length → FnR p j) (ref12_Program_l6 p f (i : Int))
  | n, i, 0, hi, hf, hc => by omega
  | 0, i, f + 1, hi, hf, hc => by
    rw [ref12_Program_l6, iLt_f (by omega), cond_false]
    exact ⟨_, _, _, rfl, fun _ j hj => hc j (by omega)⟩
  | n + 1, i, f + 1, hi, hf, hc => by
    have hm := hp.most
    rw [ref12_Program_l6, iLt_t (by omega), cond_true, withK_eq, need_of (nIn_of ⟨by omega, by omega⟩)]
    refine prog_l12 hp (k := i) (by omega) (fun h => ?_) (p.Funcs.getD i default).Code.length 0 fuel (by omega) (by have := (hp.fns i (by omega)).most; have := fuel_big; omega) fun j hj => by omega
    rw [w64 (by omega), show (i : Int) + 1 = ((i + 1 : Nat) : Int) by omega]
    refine prog_l6 hp n (i + 1) f (by omega) (by omega) fun j hj => ?_
    rcases Nat.lt_or_ge j i with h1 | h1
    · exact hc j h1
    · rw [show j = i by omega]; exact h
/-- A program that may run. -/
structure Runs (p : T_api_Program) : Prop where
  ok : OkP p
  fns : ∀ j, j < p.Funcs.length → FnR p j
theorem Good_ref (p : T_api_Program) : ∃ b, ref12_Good p = some b ∧ (b = true → Runs p) := by
  unfold ref12_Good ref12_Program
  obtain ⟨e, h1, h2⟩ := prog_tot p
  rw [h1, bind_some']
  by_cases h0 : e = 0
  · have hp := h2 h0
    rw [iNe_f h0, cond_false]
    have hl := hp.pos
    · rw [need_of (nIn_of ⟨by decide, by omega⟩)]
      by_cases ha : (p.Funcs.getD (0 : Int).toNat default).Args = 0
      · rw [iNe_f ha, cond_false]
        obtain ⟨a, b, e, q1, q2⟩ := prog_l6 hp p.Funcs.length 0 fuel (by omega) (by have := hp.most; have := fuel_big; omega) fun j hj => by omega
        rw [show (0 : Int) = ((0 : Nat) : Int) from rfl, q1, bind_some']
        exact ⟨_, rfl, fun h => ⟨hp, q2 (iEq_iff.1 h)⟩⟩
      · rw [iNe_t ha, cond_true]
        exact ⟨_, rfl, fun h => by cases h⟩
  · rw [iNe_t h0, cond_true]
    exact ⟨_, rfl, fun h => absurd (iEq_iff.1 h) h0⟩
end LJ
