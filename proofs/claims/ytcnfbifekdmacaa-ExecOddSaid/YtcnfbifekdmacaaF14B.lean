/- Frames: what the document's functions make of well made ones. -/
import Derived.Test.YtcnfbifekdmacaaF14A
namespace LJ
open Go Go.RowKit
set_option linter.unusedVariables false
set_option linter.unusedSimpArgs false

/-- A frame with all its places. -/
def FW (f : Fr) : Prop := f.L.length = 8 ∧ f.S.length = 16
theorem put_take {l : List Fr} (h : 0 < l.length) (f : Fr) : l.take (l.length - 1) ++ [f] = putF l f := by
  unfold putF
  rw [List.set_eq_take_append_cons_drop, if_pos (by omega), List.drop_eq_nil_of_le (by omega)]
theorem lastD {l : List Fr} (h : 0 < l.length) (hl : l.length ≤ 1000) : (IntKind.i64.wrap ((l.length : Int) - 1)) = ((l.length - 1 : Nat) : Int) := by
  rw [w64 (by omega)]
  omega
/-! ### Taking -/
def fillS : Nat → Nat → List Int → List Int
  | 0, _, S => S
  | n + 1, i, S => fillS n (i + 1) (aset 16 S i 0)
def subS : Nat → Nat → List Int → List Int
  | 0, _, S => []
  | n + 1, i, S => S.getD i default :: subS n (i + 1) (aset 16 S i 0)
theorem aset_len {α : Type} [Inhabited α] (M : Nat) (S : List α) (j : Nat) (v : α) : (aset M S j v).length = M := by simp [aset]
theorem afill_len {α : Type} [Inhabited α] (M : Nat) (S : List α) (i j : Int) (v : α) : (afill M S i j v).length = M := by simp [afill]
theorem ext_getD {α : Type} [Inhabited α] {l l' : List α} (M : Nat) (h : l.length = M) (h' : l'.length = M) (hg : ∀ k, k < M → l.getD k default = l'.getD k default) : l = l' := by
  refine List.ext_getElem (by omega) fun k h1 h2 => ?_
  have := hg k (by omega)
  rw [List.getD_eq_getElem?_getD, List.getD_eq_getElem?_getD, List.getElem?_eq_getElem h1, List.getElem?_eq_getElem h2] at this
  exact this
theorem fillS_eq : ∀ (n i : Nat) (S : List Int), S.length = 16 → i + n ≤ 16 → fillS n i S = afill 16 S (i : Int) ((i + n : Nat) : Int) 0
  | 0, i, S, hS, hi => ext_getD 16 hS (afill_len ..) fun k hk => by
    rw [fillS, afill_getD 16 S _ _ 0 k hk, if_neg (by omega)]
  | n + 1, i, S, hS, hi => by
    rw [fillS, fillS_eq n (i + 1) _ (aset_len ..) (by omega)]
    refine ext_getD 16 (afill_len ..) (afill_len ..) fun k hk => ?_
    rw [afill_getD _ _ _ _ _ k hk, afill_getD _ _ _ _ _ k hk, aset_getD _ _ _ _ k hk]
    by_cases h1 : k = i
    · subst h1
      rw [if_neg (by omega), if_pos rfl, if_pos (by omega)]
    · rw [if_neg h1]
      by_cases h2 : i + 1 ≤ k ∧ k < i + 1 + n
      · rw [if_pos (by omega), if_pos (by omega)]
      · rw [if_neg (by omega), if_neg (by omega)]
theorem subS_eq : ∀ (n i : Nat) (S : List Int), i + n ≤ 16 → subS n i S = asub S (i : Int) ((i + n : Nat) : Int)
  | 0, i, S, hi => by
    unfold asub
    rw [show (((i + 0 : Nat) : Int) - (i : Int)).toNat = 0 by omega]
    rfl
  | n + 1, i, S, hi => by
    rw [subS, subS_eq n (i + 1) _ (by omega)]
    unfold asub
    rw [show (((i + 1 + n : Nat) : Int) - ((i + 1 : Nat) : Int)).toNat = n by omega, show (((i + (n + 1) : Nat) : Int) - (i : Int)).toNat = n + 1 by omega, List.range_succ_eq_map, List.map_cons, List.map_map, Int.toNat_natCast, Int.toNat_natCast, Nat.add_zero]
    congr 1
    refine List.map_congr_left fun k hk => ?_
    have := List.mem_range.1 hk
    rw [aset_getD _ _ _ _ _ (by omega), if_neg (by omega)]
    simp only [Function.comp]
    congr 1
    omega
theorem nlF_len (a : List Int) : ∀ (n i : Nat) (L : List Int), L.length = 8 → (nlF a n i L).length = 8
  | 0, i, L, h => h
  | n + 1, i, L, h => nlF_len a n (i + 1) _ (aset_len ..)
theorem newF_w (fn : Int) (a : List Int) : FW (newF fn a) := ⟨nlF_len a _ 0 _ rfl, rfl⟩
theorem popF_zero {l : List Fr} {n : Int} (h0 : l.length = 0) : (popF l n).2.2 = false := by unfold popF; rw [if_pos (.inl h0)]
theorem lastF_put {l : List Fr} (h : 0 < l.length) (f : Fr) : lastF (putF l f) = f := by
  unfold lastF putF
  rw [List.length_set]
  exact getD_set1 (by omega) f
theorem put_put (l : List Fr) (f g : Fr) : putF (putF l f) g = putF l g := by
  unfold putF
  rw [List.length_set, List.set_set]
theorem psh_pop {f : Fr} {v : Int} (h : 0 < f.N ∧ f.N ≤ 16) : pshF (popF1 f 1) v = trnF f v := by
  have hN : f.N - 1 + 1 = f.N := by omega
  have hS : aset 16 (afill 16 f.S (f.N - 1) f.N 0) (f.N - 1).toNat (lowW v) = aset 16 f.S (f.N - 1).toNat (lowW v) := by
    refine ext_getD 16 (aset_len ..) (aset_len ..) fun k hk => ?_
    rw [aset_getD _ _ _ _ k hk, aset_getD _ _ _ _ k hk]
    by_cases h1 : k = (f.N - 1).toNat
    · rw [if_pos h1, if_pos h1]
    · rw [if_neg h1, if_neg h1, afill_getD _ _ _ _ _ k hk, if_neg (by omega)]
  show T_api_Frame.mk f.Fn f.Pc (f.N - 1 + 1) f.L (aset 16 (afill 16 f.S (f.N - 1) f.N 0) (f.N - 1).toNat (lowW v)) = _
  rw [hN, hS]
  rfl
/-! ### The same -/
theorem withK_eqF {α β γ : Type} (K : α → β) {f : (α → β) → γ} : withK K f = f K := rfl
theorem iNe_same (a : Int) : iNe a a = false := iNe_f rfl
theorem Same_l9_eq (l : List Fr) (s : Int) (K : Unit → Option Bool) : ∀ (n i f : Nat), i + n = 16 → n < f → ref14_Same_l9 l l s K f (i : Int) = K ()
  | n, i, 0, hi, hf => by omega
  | 0, i, f + 1, hi, hf => by
    rw [ref14_Same_l9, iLt_f (by omega), cond_false]
  | n + 1, i, f + 1, hi, hf => by
    rw [ref14_Same_l9, iLt_t (by omega), cond_true, need_of (nIn_of ⟨by omega, by omega⟩), need_of (nIn_of ⟨by omega, by omega⟩), iNe_same, cond_false, w64 (by omega), show (i : Int) + 1 = ((i + 1 : Nat) : Int) by omega, Same_l9_eq l s K n (i + 1) f (by omega) (by omega)]
    by_cases h : i < 8
    · rw [iLt_t (by omega), cond_true, need_of (nIn_of ⟨by omega, by omega⟩), need_of (nIn_of ⟨by omega, by omega⟩), iNe_same, cond_false]
    · rw [iLt_f (by omega), cond_false]
theorem Same_l3_eq (l : List Fr) (hl : l.length ≤ 1000) : ∀ (n i f : Nat), i + n = l.length → n < f → ref14_Same_l3 l l f (i : Int) = some true
  | n, i, 0, hi, hf => by omega
  | 0, i, f + 1, hi, hf => by
    rw [ref14_Same_l3, iLt_f (by omega), cond_false]
  | n + 1, i, f + 1, hi, hf => by
    rw [ref14_Same_l3, iLt_t (by omega), cond_true, withK_eqF _, need_of (nIn_of ⟨by omega, by omega⟩), need_of (nIn_of ⟨by omega, by omega⟩), iNe_same, iNe_same, iNe_same, Bool.or_self, Bool.or_self, cond_false]
    have := Same_l9_eq l (i : Int) (fun s6 : Unit => ref14_Same_l3 l l f (IntKind.i64.wrap ((i : Int) + 1))) 16 0 fuel rfl (by have := fuel_big; omega)
    refine this.trans ?_
    rw [w64 (by omega), show (i : Int) + 1 = ((i + 1 : Nat) : Int) by omega]
    exact Same_l3_eq l hl n (i + 1) f (by omega) (by omega)
theorem ref_Same_eq (l : List Fr) (hl : l.length ≤ 1000) : ref14_Same l l = some true := by
  unfold ref14_Same
  rw [iNe_same, cond_false]
  exact Same_l3_eq l hl l.length 0 fuel (by omega) (by have := fuel_big; omega)
end LJ
