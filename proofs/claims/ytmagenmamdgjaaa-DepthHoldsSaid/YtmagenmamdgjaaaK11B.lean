/- Plain laws of a program that may be: the document's check answers, and what it lets by. -/
import Derived.Test.YtmagenmamdgjaaaK11A
namespace LJ
open Go Go.RowKit
set_option linter.unusedVariables false
set_option linter.unusedSimpArgs false

theorem withK_eq {α β γ : Type} (K : α → β) (f : (α → β) → γ) : withK K f = f K := rfl
/-- It answers; and where it answers 0, P. -/
def Tot (P : Prop) (z : Option Int) : Prop := ∃ e, z = some e ∧ (e = 0 → P)
theorem Tot.ok {P : Prop} (h : P) (e : Int) : Tot P (some e) := ⟨e, rfl, fun _ => h⟩
theorem Tot.bad {P : Prop} {e : Int} (h : e ≠ 0) : Tot P (some e) := ⟨e, rfl, fun h' => absurd h' h⟩
theorem Tot.br {P : Prop} {b : Bool} {z z' : Option Int} (h : b = true → Tot P z) (h' : b = false → Tot P z') : Tot P (cond b z z') := by
  cases b with
  | true => exact h rfl
  | false => exact h' rfl
theorem Tot.nd {P : Prop} {b : Bool} {z : Option Int} (hb : b = true) (h : Tot P z) : Tot P (need b z) := by subst hb; exact h
theorem Tot.next {P Q : Prop} {z r : Option Int} (h : Tot Q z) (k : Q → Tot P r) : Tot P (z.bind fun x => cond (iNe x 0) (some x) r) := by
  obtain ⟨e, rfl, he⟩ := h
  show Tot P (cond (iNe e 0) (some e) r)
  by_cases h0 : e = 0
  · rw [iNe_f h0]; exact k (he h0)
  · rw [iNe_t h0]; exact .bad h0
theorem Tot.mono {P Q : Prop} {z : Option Int} (h : Tot P z) (k : P → Q) : Tot Q z := by
  obtain ⟨e, h1, h2⟩ := h
  exact ⟨e, h1, fun h => k (h2 h)⟩

theorem ins_tot (x : T_api_Ins) : Tot (OkI x) (ref07_Check x) := ⟨_, ref07_Check_eq x, chkI_ok⟩
theorem fn_l5 (F : T_api_Func) (hF : F.Code.length ≤ 200) : ∀ (n i f : Nat), i + n = F.Code.length → n < f → Tot (∀ j, i ≤ j → j < F.Code.length → OkI (F.Code.getD j default)) (ref10_function_l5 F f (i : Int))
  | n, i, 0, hi, hf => by omega
  | 0, i, f + 1, hi, hf => by
    rw [ref10_function_l5, iLt_f (by omega), cond_false]
    exact .ok (fun j h1 h2 => by omega) _
  | n + 1, i, f + 1, hi, hf => by
    rw [ref10_function_l5, iLt_t (by omega), cond_true, need_of (nIn_of ⟨by omega, by omega⟩), Int.toNat_natCast, w64 (by omega), show (i : Int) + 1 = ((i + 1 : Nat) : Int) by omega]
    refine .next (ins_tot _) fun h => (fn_l5 F hF n (i + 1) f (by omega) (by omega)).mono fun h' j h1 h2 => ?_
    rcases Nat.eq_or_lt_of_le h1 with rfl | h1
    · exact h
    · exact h' j h1 h2
structure OkFn (F : T_api_Func) : Prop where
  args : 0 ≤ F.Args ∧ F.Args ≤ 8
  pos : 1 ≤ F.Code.length
  most : F.Code.length ≤ 200
  ins : ∀ j, j < F.Code.length → OkI (F.Code.getD j default)
theorem fn_tot (F : T_api_Func) : Tot (OkFn F) (ref10_function F) := by
  unfold ref10_function
  refine .br (fun _ => .bad (by decide)) fun h1 => .br (fun _ => .bad (by decide)) fun h2 => .br (fun _ => .bad (by decide)) fun h3 => ?_
  simp only [Bool.or_eq_false_iff, iLt_iff'] at h1 h3
  have h2' : (F.Code.length : Int) ≠ 0 := fun h => by rw [iEq_t h] at h2; cases h2
  exact (fn_l5 F (by omega) F.Code.length 0 fuel (by omega) (by have := fuel_big; omega)).mono fun h => ⟨by omega, by omega, by omega, fun j hj => h j (Nat.zero_le _) hj⟩
theorem fns_tot (p : T_api_Program) (hF : p.Funcs.length ≤ 16) : ∀ (n i f : Nat), i + n = p.Funcs.length → n < f → Tot (∀ j, i ≤ j → j < p.Funcs.length → OkFn (p.Funcs.getD j default)) (ref10_Check_l13 p f (i : Int))
  | n, i, 0, hi, hf => by omega
  | 0, i, f + 1, hi, hf => by
    rw [ref10_Check_l13, iLt_f (by omega), cond_false]
    exact .ok (fun j h1 h2 => by omega) _
  | n + 1, i, f + 1, hi, hf => by
    rw [ref10_Check_l13, iLt_t (by omega), cond_true, need_of (nIn_of ⟨by omega, by omega⟩), Int.toNat_natCast, w64 (by omega), show (i : Int) + 1 = ((i + 1 : Nat) : Int) by omega]
    refine .next (fn_tot _) fun h => (fns_tot p hF n (i + 1) f (by omega) (by omega)).mono fun h' j h1 h2 => ?_
    rcases Nat.eq_or_lt_of_le h1 with rfl | h1
    · exact h
    · exact h' j h1 h2

/-! ### What is waited for -/
theorem need_tot (L : List T_api_Decl) (x : T_api_Need) : Tot True (ref09_one L x) := by
  unfold ref09_one
  refine .br (fun _ => .ok trivial _) fun h1 => ?_
  simp only [Bool.or_eq_false_iff, iLt_iff'] at h1
  by_cases ho : 0 ≤ x.Obj ∧ x.Obj < L.length
  · have hn : nIn x.Obj (L.length : Int) = true := nIn_of ho
    have hk : nIn x.Kind (([0, 1, 2, 2, 3, 6] : List Int).length : Int) = true := nIn_of ⟨by omega, by simp only [List.length_cons, List.length_nil]; omega⟩
    refine .nd (by rw [hn, Bool.or_true]) (.nd (by rw [hk, Bool.or_true]) ?_)
    simp only [hn, need_of, cond_some]
    exact .ok trivial _
  · have hc : (iLt x.Obj 0 || iLe (L.length : Int) x.Obj) = true := by
      rw [Bool.or_eq_true, iLt_iff, iLe_iff]; omega
    refine .nd (by rw [hc]; rfl) (.nd (by rw [hc]; rfl) ?_)
    rw [hc, Bool.true_or, cond_true]
    exact .ok trivial _
theorem n_l23 {W : List (List T_api_Need)} {s : Int} {j : Nat} {K : Unit → Option Int} (hK : Tot True (K ())) (hj : j < (W.getD s.toNat default).length) (h4 : (W.getD s.toNat default).length ≤ 4) : ∀ (n i f : Nat), i + n = j → n < f → Tot True (ref09_Check_l23 W s (j : Int) K f (i : Int))
  | n, i, 0, hi, hf => by omega
  | 0, i, f + 1, hi, hf => by
    rw [ref09_Check_l23, iLt_f (by omega), cond_false]
    exact hK
  | n + 1, i, f + 1, hi, hf => by
    have e1 : nIn (i : Int) ((W.getD s.toNat default).length : Int) = true := nIn_of ⟨by omega, by omega⟩
    have e2 : nIn (j : Int) ((W.getD s.toNat default).length : Int) = true := nIn_of ⟨by omega, by omega⟩
    rw [ref09_Check_l23, iLt_t (by omega), cond_true, e1, e2, Bool.or_true, Bool.or_true, w64 (by omega), show (i : Int) + 1 = ((i + 1 : Nat) : Int) by omega]
    exact .nd rfl (.nd rfl (.nd rfl (.nd rfl (.br (fun _ => .ok trivial _) fun _ => n_l23 hK hj h4 n (i + 1) f (by omega) (by omega)))))
theorem n_l18 {W : List (List T_api_Need)} {s : Int} {K : Unit → Option Int} (hK : Tot True (K ())) (h4 : (W.getD s.toNat default).length ≤ 4) : ∀ (n i f : Nat), i + n = (W.getD s.toNat default).length → n < f → Tot True (ref09_Check_l18 W s K f (i : Int))
  | n, i, 0, hi, hf => by omega
  | 0, i, f + 1, hi, hf => by
    rw [ref09_Check_l18, iLt_f (by omega), cond_false]
    exact hK
  | n + 1, i, f + 1, hi, hf => by
    rw [ref09_Check_l18, iLt_t (by omega), cond_true, withK_eq, w64 (by omega), show (i : Int) + 1 = ((i + 1 : Nat) : Int) by omega]
    have ih := n_l18 hK h4 n (i + 1) f (by omega) (by omega)
    exact n_l23 (K := fun _ => ref09_Check_l18 W s K f ((i + 1 : Nat) : Int)) ih (by omega) h4 i 0 fuel (by omega) (by have := fuel_big; omega)
theorem n_l12 {L : List T_api_Decl} {W : List (List T_api_Need)} {s : Int} {K : Unit → Option Int} (hK : Tot True (K ())) (h4 : (W.getD s.toNat default).length ≤ 4) : ∀ (n i f : Nat), i + n = (W.getD s.toNat default).length → n < f → Tot True (ref09_Check_l12 L W s K f (i : Int))
  | n, i, 0, hi, hf => by omega
  | 0, i, f + 1, hi, hf => by
    rw [ref09_Check_l12, iLt_f (by omega), cond_false]
    exact n_l18 hK h4 (W.getD s.toNat default).length 0 fuel (by omega) (by have := fuel_big; omega)
  | n + 1, i, f + 1, hi, hf => by
    rw [ref09_Check_l12, iLt_t (by omega), cond_true, need_of (nIn_of ⟨by omega, by omega⟩), w64 (by omega), show (i : Int) + 1 = ((i + 1 : Nat) : Int) by omega]
    exact .next (need_tot _ _) fun _ => n_l12 hK h4 n (i + 1) f (by omega) (by omega)
theorem n_l4 {L : List T_api_Decl} {W : List (List T_api_Need)} (hW : W.length ≤ 4) : ∀ (n i f : Nat), i + n = W.length → n < f → Tot True (ref09_Check_l4 L W f (i : Int))
  | n, i, 0, hi, hf => by omega
  | 0, i, f + 1, hi, hf => by
    rw [ref09_Check_l4, iLt_f (by omega), cond_false]
    exact .ok trivial _
  | n + 1, i, f + 1, hi, hf => by
    rw [ref09_Check_l4, iLt_t (by omega), cond_true, withK_eq, w64 (by omega), show (i : Int) + 1 = ((i + 1 : Nat) : Int) by omega]
    refine .nd (nIn_of ⟨by omega, by omega⟩) (.br (fun _ => .ok trivial _) fun _ => .br (fun _ => .ok trivial _) fun h => ?_)
    rw [iLt_iff'] at h
    have ih := n_l4 (L := L) hW n (i + 1) f (by omega) (by omega)
    exact n_l12 (K := fun _ => ref09_Check_l4 L W f ((i + 1 : Nat) : Int)) ih (by omega) (W.getD (i : Int).toNat default).length 0 fuel (by omega) (by have := fuel_big; omega)
theorem wait_tot (L : List T_api_Decl) (W : List (List T_api_Need)) : Tot True (ref09_Check L W) := by
  unfold ref09_Check
  refine .br (fun _ => .ok trivial _) fun _ => .br (fun _ => .ok trivial _) fun h => ?_
  rw [iLt_iff'] at h
  exact n_l4 (by omega) W.length 0 fuel (by omega) (by have := fuel_big; omega)

/-! ### Objects -/
theorem kinds117 : ref08_kinds 117 = some [1, 2] := by decide +kernel
theorem fits_tot (L : List T_api_Decl) (o : Int) : ∀ (n i f : Nat), i + n = 2 → n < f → ∃ b, ref08_Fits_l3 L o [1, 2] f (i : Int) = some b
  | n, i, 0, hi, hf => by omega
  | 0, i, f + 1, hi, hf => by
    rw [ref08_Fits_l3, iLt_f (by simp only [List.length_cons, List.length_nil]; omega)]
    exact ⟨_, rfl⟩
  | n + 1, i, f + 1, hi, hf => by
    rw [ref08_Fits_l3]
    cases h : ((iLt (i : Int) (([1, 2] : List Int).length : Int) && iLe 0 o) && iLt o (L.length : Int)) with
    | false => exact ⟨_, rfl⟩
    | true =>
      simp only [Bool.and_eq_true, iLt_iff, iLe_iff] at h
      rw [cond_true, need_of (nIn_of ⟨h.1.2, h.2⟩), need_of (nIn_of ⟨by omega, h.1.1⟩), w64 (by omega), show (i : Int) + 1 = ((i + 1 : Nat) : Int) by omega]
      obtain ⟨b, hb⟩ := fits_tot L o n (i + 1) f (by omega) (by omega)
      rw [hb, cond_some]
      exact ⟨_, rfl⟩
theorem fits117 (L : List T_api_Decl) (o : Int) : ∃ b, ref08_Fits L 117 o = some b := by
  unfold ref08_Fits
  rw [kinds117, bind_some']
  exact fits_tot L o 2 0 fuel (by omega) (by have := fuel_big; omega)
theorem decl_tot (L : List T_api_Decl) (x : T_api_Decl) : Tot True (ref08_one L x) := by
  unfold ref08_one
  refine .br (fun _ => .ok trivial _) fun _ => .br (fun _ => .ok trivial _) fun _ => .br (fun _ => .ok trivial _) fun _ => ?_
  obtain ⟨b, hb⟩ := fits117 L x.B
  have : ∃ c, cond (iEq x.Kind 7) (ref03_Fits x.A) (some default) = some c := by cases iEq x.Kind 7 <;> exact ⟨_, rfl⟩
  obtain ⟨c, hc⟩ := this
  rw [hc, bind_some', hb, cond_some, bind_some']
  exact .br (fun _ => .ok trivial _) fun _ => .br (fun _ => .ok trivial _) fun _ => .ok trivial _
theorem decls_l3 (L : List T_api_Decl) (hL : L.length ≤ 32) : ∀ (n i f : Nat), i + n = L.length → n < f → ∃ p, ref08_Check_l3 L f (i : Int) = some p
  | n, i, 0, hi, hf => by omega
  | 0, i, f + 1, hi, hf => by
    rw [ref08_Check_l3, iLt_f (by omega), cond_false]
    exact ⟨_, rfl⟩
  | n + 1, i, f + 1, hi, hf => by
    rw [ref08_Check_l3, iLt_t (by omega), cond_true, need_of (nIn_of ⟨by omega, by omega⟩), Int.toNat_natCast, w64 (by omega), show (i : Int) + 1 = ((i + 1 : Nat) : Int) by omega]
    obtain ⟨e, he, _⟩ := decl_tot L (L.getD i default)
    obtain ⟨p, hp⟩ := decls_l3 L hL n (i + 1) f (by omega) (by omega)
    rw [he, bind_some', hp, cond_some]
    exact ⟨_, rfl⟩
theorem decls_tot (L : List T_api_Decl) : ∃ p, ref08_Check L = some p := by
  unfold ref08_Check
  cases h : iLt 32 (L.length : Int) with
  | true => exact ⟨_, rfl⟩
  | false =>
    rw [iLt_iff'] at h
    rw [cond_false]
    exact decls_l3 L (by omega) L.length 0 fuel (by omega) (by have := fuel_big; omega)

/-! ### The program -/
structure OkP (p : T_api_Program) : Prop where
  most : p.Funcs.length ≤ 16
  fns : ∀ j, j < p.Funcs.length → OkFn (p.Funcs.getD j default)
theorem waits_l5 (p : T_api_Program) (hW : p.Waits.length ≤ 32) : ∀ (n i f : Nat), i + n = p.Waits.length → n < f → Tot (OkP p) (ref10_Check_l5 p f (i : Int))
  | n, i, 0, hi, hf => by omega
  | 0, i, f + 1, hi, hf => by
    rw [ref10_Check_l5, iLt_f (by omega), cond_false]
    refine .br (fun _ => .bad (by decide)) fun h1 => .br (fun _ => .bad (by decide)) fun h => ?_
    rw [iLt_iff'] at h
    exact (fns_tot p (by omega) p.Funcs.length 0 fuel (by omega) (by have := fuel_big; omega)).mono fun h' => ⟨by omega, fun j hj => h' j (Nat.zero_le _) hj⟩
  | n + 1, i, f + 1, hi, hf => by
    rw [ref10_Check_l5, iLt_t (by omega), cond_true, need_of (nIn_of ⟨by omega, by omega⟩), Int.toNat_natCast, w64 (by omega), show (i : Int) + 1 = ((i + 1 : Nat) : Int) by omega]
    exact .next (wait_tot _ _) fun _ => waits_l5 p hW n (i + 1) f (by omega) (by omega)
theorem prog_tot (p : T_api_Program) : Tot (OkP p) (ref10_Check p) := by
  unfold ref10_Check
  obtain ⟨q, hq⟩ := decls_tot p.Decls
  rw [hq, bind_some']
  refine .br (fun h => ⟨_, rfl, fun h0 => ?_⟩) fun _ => .br (fun _ => .bad (by decide)) fun h => ?_
  · rw [iNe_f h0] at h; cases h
  · rw [iLt_iff'] at h
    exact waits_l5 p (by omega) p.Waits.length 0 fuel (by omega) (by have := fuel_big; omega)

/-! ### Its copy -/
theorem take_succ {α : Type} [Inhabited α] (L : List α) (i : Nat) (h : i < L.length) : L.take i ++ [L.getD i default] = L.take (i + 1) := by
  rw [List.take_succ_eq_append_getElem h, List.getD_eq_getElem?_getD, List.getElem?_eq_getElem h]
  rfl
theorem own9_l2 (W : List (List T_api_Need)) : ∀ (n i f : Nat) (acc : List (List T_api_Need)), i + n = 6 → n < f → acc.length = i → ∃ r, law09_Own_l2 W f ((i : Int), acc) = some r
  | n, i, 0, acc, hi, hf, ha => by omega
  | 0, i, f + 1, acc, hi, hf, ha => by
    rw [law09_Own_l2, iLt_f (b := 6) (by dsimp only; omega), Bool.and_false, cond_false]
    exact ⟨_, rfl⟩
  | n + 1, i, f + 1, acc, hi, hf, ha => by
    rw [law09_Own_l2]
    dsimp only
    cases h : (iLt (i : Int) (W.length : Int) && iLt (i : Int) 6) with
    | false => exact ⟨_, rfl⟩
    | true =>
      simp only [Bool.and_eq_true, iLt_iff] at h
      rw [cond_true, need_of (nIn_of ⟨by omega, h.1⟩), w64 (by omega), show (i : Int) + 1 = ((i + 1 : Nat) : Int) by omega]
      cases h6 : iLt 6 ((W.getD (i : Int).toNat default).length : Int) with
      | true =>
        rw [iLt_iff] at h6
        rw [cond_true, need_of (nSl_of ⟨by omega, by omega, by omega⟩), need_of (nCap_of (by simp; omega)), need_of (nCap_of (by simp; omega))]
        exact own9_l2 W n (i + 1) f _ (by omega) (by omega) (by simp [ha])
      | false =>
        rw [iLt_iff'] at h6
        rw [cond_false, need_of (nCap_of (by rw [List.length_nil]; omega)), need_of (nCap_of (by simp; omega))]
        exact own9_l2 W n (i + 1) f _ (by omega) (by omega) (by simp [ha])
theorem own9 (W : List (List T_api_Need)) : ∃ r, law09_Own W = some r := own9_l2 W 6 0 fuel [] (by omega) (by have := fuel_big; omega) rfl
/-- A program with the same functions. -/
def Same (p : T_api_Program) (z : Option T_api_Program) : Prop := ∃ d w, z = some ⟨d, w, p.Funcs⟩
theorem own_l19 {p : T_api_Program} {k : Nat} {G : List T_api_Func} {K : List T_api_Func → Option T_api_Program} (hk : k < p.Funcs.length) (hp : OkP p) (hG : G.length ≤ 16) (hK : Same p (K (G ++ [p.Funcs.getD k default]))) : ∀ (n i f : Nat), i + n = (p.Funcs.getD k default).Code.length → n < f → Same p (law10_Own_l19 p ((k : Int), G) K f ((i : Int), (p.Funcs.getD k default).Code.take i))
  | n, i, 0, hi, hf => by omega
  | 0, i, f + 1, hi, hf => by
    have := hp.most
    rw [law10_Own_l19]
    dsimp only
    rw [need_of (nIn_of ⟨by omega, by omega⟩), Int.toNat_natCast, iLt_f (by omega), Bool.false_and, cond_false, need_of (nCap_of (by simp; omega)), List.take_of_length_le (by omega)]
    exact hK
  | n + 1, i, f + 1, hi, hf => by
    have := (hp.fns k hk).most
    rw [law10_Own_l19]
    dsimp only
    rw [need_of (nIn_of ⟨by omega, by omega⟩), Int.toNat_natCast, Int.toNat_natCast, iLt_t (by omega), iLt_t (by omega), Bool.and_self, cond_true, need_of (nIn_of ⟨by omega, by omega⟩), need_of (nIn_of ⟨by omega, by omega⟩), need_of (nCap_of (by simp; omega)), take_succ _ _ (by omega), w64 (by omega), show (i : Int) + 1 = ((i + 1 : Nat) : Int) by omega]
    exact own_l19 hk hp hG hK n (i + 1) f (by omega) (by omega)
theorem own_l11 {p : T_api_Program} {s2 : Int × List T_api_Decl} {s6 : Int × List (List (List T_api_Need))} (hp : OkP p) : ∀ (n i f : Nat), i + n = p.Funcs.length → n < f → Same p (law10_Own_l11 p s2 s6 f ((i : Int), p.Funcs.take i))
  | n, i, 0, hi, hf => by omega
  | 0, i, f + 1, hi, hf => by
    rw [law10_Own_l11]
    dsimp only
    rw [iLt_f (by omega), Bool.false_and, cond_false, List.take_of_length_le (by omega)]
    exact ⟨_, _, rfl⟩
  | n + 1, i, f + 1, hi, hf => by
    have := hp.most
    rw [law10_Own_l11]
    dsimp only
    rw [iLt_t (by omega), iLt_t (by omega), Bool.and_self, cond_true, withK_eq, need_of (nIn_of ⟨by omega, by omega⟩), need_of (nIn_of ⟨by omega, by omega⟩), w64 (by omega), show (i : Int) + 1 = ((i + 1 : Nat) : Int) by omega]
    refine own_l19 (k := i) (G := p.Funcs.take i) (K := fun s14 => law10_Own_l11 p s2 s6 f (((i + 1 : Nat) : Int), s14)) (by omega) hp (by simp; omega) ?_ (p.Funcs.getD i default).Code.length 0 fuel (by omega) (by have := (hp.fns i (by omega)).most; have := fuel_big; omega)
    rw [take_succ _ _ (by omega)]
    exact own_l11 hp n (i + 1) f (by omega) (by omega)
theorem own_l7 {p : T_api_Program} {s2 : Int × List T_api_Decl} (hp : OkP p) : ∀ (n i f : Nat) (acc : List (List (List T_api_Need))), i + n = 40 → n < f → acc.length = i → Same p (law10_Own_l7 p s2 f ((i : Int), acc))
  | n, i, 0, acc, hi, hf, ha => by omega
  | 0, i, f + 1, acc, hi, hf, ha => by
    rw [law10_Own_l7, iLt_f (b := 40) (by dsimp only; omega), Bool.and_false, cond_false]
    exact own_l11 hp p.Funcs.length 0 fuel (by omega) (by have := hp.most; have := fuel_big; omega)
  | n + 1, i, f + 1, acc, hi, hf, ha => by
    rw [law10_Own_l7]
    dsimp only
    cases h : (iLt (i : Int) (p.Waits.length : Int) && iLt (i : Int) 40) with
    | false =>
      rw [cond_false]
      exact own_l11 hp p.Funcs.length 0 fuel (by omega) (by have := hp.most; have := fuel_big; omega)
    | true =>
      simp only [Bool.and_eq_true, iLt_iff] at h
      obtain ⟨r, hr⟩ := own9 (p.Waits.getD (i : Int).toNat default)
      rw [cond_true, need_of (nIn_of ⟨by omega, h.1⟩), hr, bind_some', need_of (nCap_of (by simp; omega)), w64 (by omega), show (i : Int) + 1 = ((i + 1 : Nat) : Int) by omega]
      exact own_l7 hp n (i + 1) f _ (by omega) (by omega) (by simp [ha])
theorem own_l3 {p : T_api_Program} (hp : OkP p) : ∀ (n i f : Nat) (acc : List T_api_Decl), i + n = 40 → n < f → acc.length = i → Same p (law10_Own_l3 p f ((i : Int), acc))
  | n, i, 0, acc, hi, hf, ha => by omega
  | 0, i, f + 1, acc, hi, hf, ha => by
    rw [law10_Own_l3, iLt_f (b := 40) (by dsimp only; omega), Bool.and_false, cond_false]
    exact own_l7 hp 40 0 fuel [] (by omega) (by have := fuel_big; omega) rfl
  | n + 1, i, f + 1, acc, hi, hf, ha => by
    rw [law10_Own_l3]
    dsimp only
    cases h : (iLt (i : Int) (p.Decls.length : Int) && iLt (i : Int) 40) with
    | false =>
      rw [cond_false]
      exact own_l7 hp 40 0 fuel [] (by omega) (by have := fuel_big; omega) rfl
    | true =>
      simp only [Bool.and_eq_true, iLt_iff] at h
      rw [cond_true, need_of (nIn_of ⟨by omega, h.1⟩), need_of (nCap_of (by simp; omega)), w64 (by omega), show (i : Int) + 1 = ((i + 1 : Nat) : Int) by omega]
      exact own_l3 hp n (i + 1) f _ (by omega) (by omega) (by simp [ha])
theorem own10 {p : T_api_Program} (hp : OkP p) : Same p (law10_Own p) := own_l3 hp 40 0 fuel [] (by omega) (by have := fuel_big; omega) rfl
end LJ
