/- Plain laws of a program that may be: the document's check answers, and what it lets by. -/
import Derived.Test.YtcnfbifekdmacaaK11A
namespace LJ
open Go Go.RowKit
set_option linter.unusedVariables false
set_option linter.unusedSimpArgs false

theorem withK_eq {α β γ : Type} (K : α → β) (f : (α → β) → γ) : withK K f = f K := rfl
/-- It answers; and where it answers 0, P. -/
def Tot (P : Prop) (z : Option Int) : Prop := ∃ e, z = some e ∧ (e = 0 → P)
theorem Tot.ok {P : Prop} (h : P) (e : Int) : Tot P (some e) := ⟨e, rfl, fun _ => h⟩
theorem Tot.bad {P : Prop} {e : Int} (h : e ≠ 0) : Tot P (some e) := ⟨e, rfl, fun h' => absurd h' h⟩
theorem Tot.br {P : Prop} {b : Bool} {z z' : Option Int} (h : b = true → Tot P z) (h' : b = false → Tot P z') : Tot P (cond b z z') := by
  cases b with
  | true => exact h rfl
  | false => exact h' rfl
theorem Tot.nd {P : Prop} {b : Bool} {z : Option Int} (hb : b = true) (h : Tot P z) : Tot P (need b z) := by subst hb; exact h
theorem Tot.next {P Q : Prop} {z r : Option Int} (h : Tot Q z) (k : Q → Tot P r) : Tot P (z.bind fun x => cond (iNe x 0) (some x) r) := by
  obtain ⟨e, rfl, he⟩ := h
  show Tot P (cond (iNe e 0) (some e) r)
  by_cases h0 : e = 0
  · rw [iNe_f h0]; exact k (he h0)
  · rw [iNe_t h0]; exact .bad h0
theorem Tot.mono {P Q : Prop} {z : Option Int} (h : Tot P z) (k : P → Q) : Tot Q z := by
  obtain ⟨e, h1, h2⟩ := h
  exact ⟨e, h1, fun h => k (h2 h)⟩

theorem ins_tot (x : T_api_Ins) : Tot (OkI x) (ref07_Check x) := ⟨_, ref07_Check_eq x, chkI_ok⟩
theorem fn_l5 (F : T_api_Func) (hF : F.Code.length ≤ 200) : ∀ (n i f : Nat), i + n = F.Code.length → n < f → Tot (∀ j, i ≤ j → j < F.Code.length → OkI (F.Code.getD j default)) (ref10_function_l5 F f (i : Int))
  | n, i, 0, hi, hf => by omega
  | 0, i, f + 1, hi, hf => by
    rw [ref10_function_l5, iLt_f (by omega), cond_false]
    exact .ok (fun j h1 h2 => by omega) _
  | n + 1, i, f + 1, hi, hf => by
    rw [ref10_function_l5, iLt_t (by omega), cond_true, need_of (nIn_of ⟨by omega, by omega⟩), Int.toNat_natCast, w64 (by omega), show (i : Int) + 1 = ((i + 1 : Nat) : Int) by omega]
    refine .next (ins_tot _) fun h => (fn_l5 F hF n (i + 1) f (by omega) (by omega)).mono fun h' j h1 h2 => ?_
    rcases Nat.eq_or_lt_of_le h1 with rfl | h1
    · exact h
    · exact h' j h1 h2
structure OkFn (F : T_api_Func) : Prop where
  args : 0 ≤ F.Args ∧ F.Args ≤ 8
  pos : 1 ≤ F.Code.length
  most : F.Code.length ≤ 200
  ins : ∀ j, j < F.Code.length → OkI (F.Code.getD j default)
theorem fn_tot (F : T_api_Func) : Tot (OkFn F) (ref10_function F) := by
  unfold ref10_function
  refine .br (fun _ => .bad (by decide)) fun h1 => .br (fun _ => .bad (by decide)) fun h2 => .br (fun _ => .bad (by decide)) fun h3 => ?_
  simp only [Bool.or_eq_false_iff, iLt_iff'] at h1 h3
  have h2' : (F.Code.length : Int) ≠ 0 := fun h => by rw [iEq_t h] at h2; cases h2
  exact (fn_l5 F (by omega) F.Code.length 0 fuel (by omega) (by have := fuel_big; omega)).mono fun h => ⟨by omega, by omega, by omega, fun j hj => h j (Nat.zero_le _) hj⟩
theorem fns_tot (p : T_api_Program) (hF : p.Funcs.length ≤ 16) : ∀ (n i f : Nat), i + n = p.Funcs.length → n < f → Tot (∀ j, i ≤ j → j < p.Funcs.length → OkFn (p.Funcs.getD j default)) (ref10_Check_l13 p f (i : Int))
  | n, i, 0, hi, hf => by omega
  | 0, i, f + 1, hi, hf => by
    rw [ref10_Check_l13, iLt_f (by omega), cond_false]
    exact .ok (fun j h1 h2 => by omega) _
  | n + 1, i, f + 1, hi, hf => by
    rw [ref10_Check_l13, iLt_t (by omega), cond_true, need_of (nIn_of ⟨by omega, by omega⟩), Int.toNat_natCast, w64 (by omega), show (i : Int) + 1 = ((i + 1 : Nat) : Int) by omega]
    refine .next (fn_tot _) fun h => (fns_tot p hF n (i + 1) f (by omega) (by omega)).mono fun h' j h1 h2 => ?_
    rcases Nat.eq_or_lt_of_le h1 with rfl | h1
    · exact h
    · exact h' j h1 h2

/-! ### What is waited for -/
theorem need_tot (L : List T_api_Decl) (x : T_api_Need) : Tot True (ref09_one L x) := by
  unfold ref09_one
  refine .br (fun _ => .ok trivial _) fun h1 => ?_
  simp only [Bool.or_eq_false_iff, iLt_iff'] at h1
  by_cases ho : 0 ≤ x.Obj ∧ x.Obj < L.length
  · have hn : nIn x.Obj (L.length : Int) = true := nIn_of ho
    have hk : nIn x.Kind (([0, 1, 2, 2, 3, 6] : List Int).length : Int) = true := nIn_of ⟨by omega, by simp only [List.length_cons, List.length_nil]; omega⟩
    refine .nd (by rw [hn, Bool.or_true]) (.nd (by rw [hk, Bool.or_true]) ?_)
    simp only [hn, need_of, cond_some]
    exact .ok trivial _
  · have hc : (iLt x.Obj 0 || iLe (L.length : Int) x.Obj) = true := by
      rw [Bool.or_eq_true, iLt_iff, iLe_iff]; omega
    refine .nd (by rw [hc]; rfl) (.nd (by rw [hc]; rfl) ?_)
    rw [hc, Bool.true_or, cond_true]
    exact .ok trivial _
theorem n_l23 {W : List (List T_api_Need)} {s : Int} {j : Nat} {K : Unit → Option Int} (hK : Tot True (K ())) (hj : j < (W.getD s.toNat default).length) (h4 : (W.getD s.toNat default).length ≤ 4) : ∀ (n i f : Nat), i + n = j → n < f → Tot True (ref09_Check_l23 W s (j : Int) K f (i : Int))
  | n, i, 0, hi, hf => by omega
  | 0, i, f + 1, hi, hf => by
    rw [ref09_Check_l23, iLt_f (by omega), cond_false]
    exact hK
  | n + 1, i, f + 1, hi, hf => by
    have e1 : nIn (i : Int) ((W.getD s.toNat default).length : Int) = true := nIn_of ⟨by omega, by omega⟩
    have e2 : nIn (j : Int) ((W.getD s.toNat default).length : Int) = true := nIn_of ⟨by omega, by omega⟩
    rw [ref09_Check_l23, iLt_t (by omega), cond_true, e1, e2, Bool.or_true, Bool.or_true, w64 (by omega), show (i : Int) + 1 = ((i + 1 : Nat) : Int) by omega]
    exact .nd rfl (.nd rfl (.nd rfl (.nd rfl (.br (fun _ => .ok trivial _) fun _ => n_l23 hK hj h4 n (i + 1) f (by omega) (by omega)))))
theorem n_l18 {W : List (List T_api_Need)} {s : Int} {K : Unit → Option Int} (hK : Tot True (K ())) (h4 : (W.getD s.toNat default).length ≤ 4) : ∀ (n i f : Nat), i + n = (W.getD s.toNat default).length → n < f → Tot True (ref09_Check_l18 W s K f (i : Int))
  | n, i, 0, hi, hf => by omega
  | 0, i, f + 1, hi, hf => by
    rw [ref09_Check_l18, iLt_f (by omega), cond_false]
    exact hK
  | n + 1, i, f + 1, hi, hf => by
    rw [ref09_Check_l18, iLt_t (by omega), cond_true, withK_eq, w64 (by omega), show (i : Int) + 1 = ((i + 1 : Nat) : Int) by omega]
    have ih := n_l18 hK h4 n (i + 1) f (by omega) (by omega)
    exact n_l23 (K := fun _ => ref09_Check_l18 W s K f ((i + 1 : Nat) : Int)) ih (by omega) h4 i 0 fuel (by omega) (by have := fuel_big; omega)
theorem n_l12 {L : List T_api_Decl} {W : List (List T_api_Need)} {s : Int} {K : Unit → Option Int} (hK : Tot True (K ())) (h4 : (W.getD s.toNat default).length ≤ 4) : ∀ (n i f : Nat), i + n = (W.getD s.toNat default).length → n < f → Tot True (ref09_Check_l12 L W s K f (i : Int))
  | n, i, 0, hi, hf => by omega
  | 0, i, f + 1, hi, hf => by
    rw [ref09_Check_l12, iLt_f (by omega), cond_false]
    exact n_l18 hK h4 (W.getD s.toNat default).length 0 fuel (by omega) (by have := fuel_big; omega)
  | n + 1, i, f + 1, hi, hf => by
    rw [ref09_Check_l12, iLt_t (by omega), cond_true, need_of (nIn_of ⟨by omega, by omega⟩), w64 (by omega), show (i : Int) + 1 = ((i + 1 : Nat) : Int) by omega]
    exact .next (need_tot _ _) fun _ => n_l12 hK h4 n (i + 1) f (by omega) (by omega)
theorem n_l4 {L : List T_api_Decl} {W : List (List T_api_Need)} (hW : W.length ≤ 4) : ∀ (n i f : Nat), i + n = W.length → n < f → Tot True (ref09_Check_l4 L W f (i : Int))
  | n, i, 0, hi, hf => by omega
  | 0, i, f + 1, hi, hf => by
    rw [ref09_Check_l4, iLt_f (by omega), cond_false]
    exact .ok trivial _
  | n + 1, i, f + 1, hi, hf => by
    rw [ref09_Check_l4, iLt_t (by omega), cond_true, withK_eq, w64 (by omega), show (i : Int) + 1 = ((i + 1 : Nat) : Int) by omega]
    refine .nd (nIn_of ⟨by omega, by omega⟩) (.br (fun _ => .ok trivial _) fun _ => .br (fun _ => .ok trivial _) fun h => ?_)
    rw [iLt_iff'] at h
    have ih := n_l4 (L := L) hW n (i + 1) f (by omega) (by omega)
    exact n_l12 (K := fun _ => ref09_Check_l4 L W f ((i + 1 : Nat) : Int)) ih (by omega) (W.getD (i : Int).toNat default).length 0 fuel (by omega) (by have := fuel_big; omega)
theorem wait_tot (L : List T_api_Decl) (W : List (List T_api_Need)) : Tot True (ref09_Check L W) := by
  unfold ref09_Check
  refine .br (fun _ => .ok trivial _) fun _ => .br (fun _ => .ok trivial _) fun h => ?_
  rw [iLt_iff'] at h
  exact n_l4 (by omega) W.length 0 fuel (by omega) (by have := fuel_big; omega)

/-! ### Objects -/
theorem kinds117 : ref08_kinds 117 = some [1, 2] := by decide +kernel
theorem fits_tot (L : List T_api_Decl) (o : Int) : ∀ (n i f : Nat), i + n = 2 → n < f → ∃ b, ref08_Fits_l3 L o [1, 2] f (i : Int) = some b
  | n, i, 0, hi, hf => by omega
  | 0, i, f + 1, hi, hf => by
    rw [ref08_Fits_l3, iLt_f (by simp only [List.length_cons, List.length_nil]; omega)]
    exact ⟨_, rfl⟩
  | n + 1, i, f + 1, hi, hf => by
    rw [ref08_Fits_l3]
    cases h : ((iLt (i : Int) (([1, 2] : List Int).length : Int) && iLe 0 o) && iLt o (L.length : Int)) with
    | false => exact ⟨_, rfl⟩
    | true =>
      simp only [Bool.and_eq_true, iLt_iff, iLe_iff] at h
      rw [cond_true, need_of (nIn_of ⟨h.1.2, h.2⟩), need_of (nIn_of ⟨by omega, h.1.1⟩), w64 (by omega), show (i : Int) + 1 = ((i + 1 : Nat) : Int) by omega]
      obtain ⟨b, hb⟩ := fits_tot L o n (i + 1) f (by omega) (by omega)
      rw [hb, cond_some]
      exact ⟨_, rfl⟩
theorem fits117 (L : List T_api_Decl) (o : Int) : ∃ b, ref08_Fits L 117 o = some b := by
  unfold ref08_Fits
  rw [kinds117, bind_some']
  exact fits_tot L o 2 0 fuel (by omega) (by have := fuel_big; omega)
theorem decl_tot (L : List T_api_Decl) (x : T_api_Decl) : Tot True (ref08_one L x) := by
  unfold ref08_one
  refine .br (fun _ => .ok trivial _) fun _ => .br (fun _ => .ok trivial _) fun _ => .br (fun _ => .ok trivial _) fun _ => ?_
  obtain ⟨b, hb⟩ := fits117 L x.B
  have : ∃ c, cond (iEq x.Kind 7) (ref03_Fits x.A) (some default) = some c := by cases iEq x.Kind 7 <;> exact ⟨_, rfl⟩
  obtain ⟨c, hc⟩ := this
  rw [hc, bind_some', hb, cond_some, bind_some']
  exact .br (fun _ => .ok trivial _) fun _ => .br (fun _ => .ok trivial _) fun _ => .ok trivial _
theorem decls_l3 (L : List T_api_Decl) (hL : L.length ≤ 32) : ∀ (n i f : Nat), i + n = L.length → n < f → ∃ p, ref08_Check_l3 L f (i : Int) = some p
  | n, i, 0, hi, hf => by omega
  | 0, i, f + 1, hi, hf => by
    rw [ref08_Check_l3, iLt_f (by omega), cond_false]
    exact ⟨_, rfl⟩
  | n + 1, i, f + 1, hi, hf => by
    rw [ref08_Check_l3, iLt_t (by omega), cond_true, need_of (nIn_of ⟨by omega, by omega⟩), Int.toNat_natCast, w64 (by omega), show (i : Int) + 1 = ((i + 1 : Nat) : Int) by omega]
    obtain ⟨e, he, _⟩ := decl_tot L (L.getD i default)
    obtain ⟨p, hp⟩ := decls_l3 L hL n (i + 1) f (by omega) (by omega)
    rw [he, bind_some', hp, cond_some]
    exact ⟨_, rfl⟩
theorem decls_tot (L : List T_api_Decl) : ∃ p, ref08_Check L = some p := by
  unfold ref08_Check
  cases h : iLt 32 (L.length : Int) with
  | true => exact ⟨_, rfl⟩
  | false =>
    rw [iLt_iff'] at h
    rw [cond_false]
    exact decls_l3 L (by omega) L.length 0 fuel (by omega) (by have := fuel_big; omega)

/-! ### The program -/
structure OkP (p : T_api_Program) : Prop where
  most : p.Funcs.length ≤ 16
  fns : ∀ j, j < p.Funcs.length → OkFn (p.Funcs.getD j default)
  pos : 0 < p.Funcs.length
theorem waits_l5 (p : T_api_Program) (hW : p.Waits.length ≤ 32) : ∀ (n i f : Nat), i + n = p.Waits.length → n < f → Tot (OkP p) (ref10_Check_l5 p f (i : Int))
  | n, i, 0, hi, hf => by omega
  | 0, i, f + 1, hi, hf => by
    rw [ref10_Check_l5, iLt_f (by omega), cond_false]
    refine .br (fun _ => .bad (by decide)) fun h1 => .br (fun _ => .bad (by decide)) fun h => ?_
    rw [iLt_iff'] at h
    rw [iEq_iff'] at h1
    exact (fns_tot p (by omega) p.Funcs.length 0 fuel (by omega) (by have := fuel_big; omega)).mono fun h' => ⟨by omega, fun j hj => h' j (Nat.zero_le _) hj, by omega⟩
  | n + 1, i, f + 1, hi, hf => by
    rw [ref10_Check_l5, iLt_t (by omega), cond_true, need_of (nIn_of ⟨by omega, by omega⟩), Int.toNat_natCast, w64 (by omega), show (i : Int) + 1 = ((i + 1 : Nat) : Int) by omega]
    exact .next (wait_tot _ _) fun _ => waits_l5 p hW n (i + 1) f (by omega) (by omega)
theorem prog_tot (p : T_api_Program) : Tot (OkP p) (ref10_Check p) := by
  unfold ref10_Check
  obtain ⟨q, hq⟩ := decls_tot p.Decls
  rw [hq, bind_some']
  refine .br (fun h => ⟨_, rfl, fun h0 => ?_⟩) fun _ => .br (fun _ => .bad (by decide)) fun h => ?_
  · rw [iNe_f h0] at h; cases h
  · rw [iLt_iff'] at h
    exact waits_l5 p (by omega) p.Waits.length 0 fuel (by omega) (by have := fuel_big; omega)

/-! ### Its copy -/
/-- A program with the same functions. -/
def Same (p : T_api_Program) (z : Option T_api_Program) : Prop := ∃ d w, z = some ⟨d, w, p.Funcs⟩
end LJ
