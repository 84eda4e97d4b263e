/- Frames: what the document's functions make of well made ones. -/
import Derived.Test.YtcnfbifekdmacaaF14A
namespace LJ
open Go Go.RowKit
set_option linter.unusedVariables false
set_option linter.unusedSimpArgs false

/-- A frame with all its places. -/
def FW (f : Fr) : Prop := f.L.length = 8 ∧ f.S.length = 16
theorem put_take {l : List Fr} (h : 0 < l.length) (f : Fr) : l.take (l.length - 1) ++ [f] = putF l f := by
  unfold putF
  rw [List.set_eq_take_append_cons_drop, if_pos (by omega), List.drop_eq_nil_of_le (by omega)]
theorem lastD {l : List Fr} (h : 0 < l.length) (hl : l.length ≤ 1000) : (IntKind.i64.wrap ((l.length : Int) - 1)) = ((l.length - 1 : Nat) : Int) := by
  rw [w64 (by omega)]
  omega
theorem with_eq {l : List Fr} (h : 0 < l.length) (hl : l.length ≤ 1000) (f : Fr) : ref14_with l f = some (putF l f) := by
  unfold ref14_with
  rw [lastD h hl, need_of (nSl_of ⟨by omega, by omega, by omega⟩), Int.toNat_natCast, show (0 : Int).toNat = 0 from rfl, List.drop_zero, need_of (nCap_of (by simp; omega)), need_of (nCap_of (by simp; omega)), List.nil_append, put_take h]
theorem ref_Push_eq {l : List Fr} (hl : l.length ≤ 1000) (v : Int) : ref14_Push l v = some (pushF l v) := by
  unfold ref14_Push pushF
  by_cases h0 : l.length = 0
  · rw [iEq_t (by omega)]
    simp only [Bool.not_true, Bool.not_false, Bool.true_or, Bool.or_true, Bool.true_and, Bool.false_or]
    rw [need_of rfl, need_of rfl, cond_true, if_pos (.inl h0)]
  · rw [iEq_f (by omega), lastD (by omega) hl, Int.toNat_natCast]
    rw [nIn_of (show (0 : Int) ≤ ((l.length - 1 : Nat) : Int) ∧ ((l.length - 1 : Nat) : Int) < (l.length : Int) by omega), Bool.or_true, Bool.or_true, need_of rfl, need_of rfl, Bool.false_or]
    rw [show l.getD (l.length - 1) default = lastF l from rfl]
    by_cases h1 : (lastF l).N < 0
    · rw [iLt_t h1, Bool.or_true, cond_true, if_pos (.inr (.inl h1))]
    · rw [iLt_f (a := (lastF l).N) (by omega), Bool.or_false]
      by_cases h2 : 16 ≤ (lastF l).N
      · rw [iLt_t (by omega), cond_true, if_pos (.inr (.inr h2))]
      · rw [iLt_f (by omega), cond_false, need_of rfl, ref03_Low_eq, bind_some', need_of (nIn_of ⟨by omega, by omega⟩), w64 (by omega), with_eq (by omega) hl, bind_some', if_neg (by omega)]
        rfl
/-! ### Taking -/
def fillS : Nat → Nat → List Int → List Int
  | 0, _, S => S
  | n + 1, i, S => fillS n (i + 1) (aset 16 S i 0)
def subS : Nat → Nat → List Int → List Int
  | 0, _, S => []
  | n + 1, i, S => S.getD i default :: subS n (i + 1) (aset 16 S i 0)
theorem aset_len {α : Type} [Inhabited α] (M : Nat) (S : List α) (j : Nat) (v : α) : (aset M S j v).length = M := by simp [aset]
theorem afill_len {α : Type} [Inhabited α] (M : Nat) (S : List α) (i j : Int) (v : α) : (afill M S i j v).length = M := by simp [afill]
theorem ext_getD {α : Type} [Inhabited α] {l l' : List α} (M : Nat) (h : l.length = M) (h' : l'.length = M) (hg : ∀ k, k < M → l.getD k default = l'.getD k default) : l = l' := by
  refine List.ext_getElem (by omega) fun k h1 h2 => ?_
  have := hg k (by omega)
  rw [List.getD_eq_getElem?_getD, List.getD_eq_getElem?_getD, List.getElem?_eq_getElem h1, List.getElem?_eq_getElem h2] at this
  exact this
theorem fillS_eq : ∀ (n i : Nat) (S : List Int), S.length = 16 → i + n ≤ 16 → fillS n i S = afill 16 S (i : Int) ((i + n : Nat) : Int) 0
  | 0, i, S, hS, hi => ext_getD 16 hS (afill_len ..) fun k hk => by
    rw [fillS, afill_getD 16 S _ _ 0 k hk, if_neg (by omega)]
  | n + 1, i, S, hS, hi => by
    rw [fillS, fillS_eq n (i + 1) _ (aset_len ..) (by omega)]
    refine ext_getD 16 (afill_len ..) (afill_len ..) fun k hk => ?_
    rw [afill_getD _ _ _ _ _ k hk, afill_getD _ _ _ _ _ k hk, aset_getD _ _ _ _ k hk]
    by_cases h1 : k = i
    · subst h1
      rw [if_neg (by omega), if_pos rfl, if_pos (by omega)]
    · rw [if_neg h1]
      by_cases h2 : i + 1 ≤ k ∧ k < i + 1 + n
      · rw [if_pos (by omega), if_pos (by omega)]
      · rw [if_neg (by omega), if_neg (by omega)]
theorem subS_eq : ∀ (n i : Nat) (S : List Int), i + n ≤ 16 → subS n i S = asub S (i : Int) ((i + n : Nat) : Int)
  | 0, i, S, hi => by
    unfold asub
    rw [show (((i + 0 : Nat) : Int) - (i : Int)).toNat = 0 by omega]
    rfl
  | n + 1, i, S, hi => by
    rw [subS, subS_eq n (i + 1) _ (by omega)]
    unfold asub
    rw [show (((i + 1 + n : Nat) : Int) - ((i + 1 : Nat) : Int)).toNat = n by omega, show (((i + (n + 1) : Nat) : Int) - (i : Int)).toNat = n + 1 by omega, List.range_succ_eq_map, List.map_cons, List.map_map, Int.toNat_natCast, Int.toNat_natCast, Nat.add_zero]
    congr 1
    refine List.map_congr_left fun k hk => ?_
    have := List.mem_range.1 hk
    rw [aset_getD _ _ _ _ _ (by omega), if_neg (by omega)]
    simp only [Function.comp]
    congr 1
    omega
theorem Pop_l6_eq {l : List Fr} (h : 0 < l.length) (hl : l.length ≤ 1000) (n : Int) (hn : 0 ≤ n ∧ n ≤ (lastF l).N ∧ (lastF l).N ≤ 16) : ∀ (m i f : Nat) (S out : List Int), ((i + m : Nat) : Int) = (lastF l).N → m < f → out.length ≤ i →
    ref14_Pop_l6 l n f ((i : Int), S, out) = some (putF l ⟨(lastF l).Fn, (lastF l).Pc, (lastF l).N - n, (lastF l).L, fillS m i S⟩, out ++ subS m i S, true)
  | m, i, 0, S, out, hi, hf, ho => by omega
  | 0, i, f + 1, S, out, hi, hf, ho => by
    rw [ref14_Pop_l6]
    dsimp only
    rw [lastD h hl, Int.toNat_natCast, show l.getD (l.length - 1) default = lastF l from rfl, iLt_f (by omega), cond_false, with_eq h hl, bind_some', w64 (by omega), subS, List.append_nil, fillS]
  | m + 1, i, f + 1, S, out, hi, hf, ho => by
    rw [ref14_Pop_l6]
    dsimp only
    rw [lastD h hl, Int.toNat_natCast, show l.getD (l.length - 1) default = lastF l from rfl, iLt_t (by omega), cond_true, need_of (nIn_of ⟨by omega, by omega⟩), need_of (nCap_of (by simp; omega)), need_of (nIn_of ⟨by omega, by omega⟩), w64 (by omega), show (i : Int) + 1 = ((i + 1 : Nat) : Int) by omega, Int.toNat_natCast]
    rw [Pop_l6_eq h hl n hn m (i + 1) f _ _ (by omega) (by omega) (by simp; omega), subS, fillS, List.append_assoc]
    rfl
theorem ref_Pop_eq {l : List Fr} (hl : l.length ≤ 1000) (hw : 0 < l.length → FW (lastF l)) (n : Int) : ref14_Pop l n = some (popF l n) := by
  unfold ref14_Pop popF
  by_cases h0 : l.length = 0
  · rw [iEq_t (by omega)]
    simp only [Bool.not_true, Bool.not_false, Bool.true_or, Bool.or_true, Bool.true_and, Bool.false_or]
    rw [need_of rfl, need_of rfl, cond_true, if_pos (.inl h0)]
  · rw [iEq_f (by omega), lastD (by omega) hl, Int.toNat_natCast]
    rw [nIn_of (show (0 : Int) ≤ ((l.length - 1 : Nat) : Int) ∧ ((l.length - 1 : Nat) : Int) < (l.length : Int) by omega), Bool.or_true, Bool.or_true, need_of rfl, need_of rfl, Bool.false_or]
    rw [show l.getD (l.length - 1) default = lastF l from rfl]
    by_cases h1 : n < 0
    · rw [iLt_t h1, Bool.true_or, Bool.true_or, cond_true, if_pos (.inr (.inl h1))]
    · rw [iLt_f (a := n) (by omega), Bool.false_or]
      by_cases h2 : (lastF l).N < n
      · rw [iLt_t h2, Bool.true_or, cond_true, if_pos (.inr (.inr (.inl h2)))]
      · rw [iLt_f (a := (lastF l).N) (by omega), Bool.false_or]
        by_cases h3 : 16 < (lastF l).N
        · rw [iLt_t h3, cond_true, if_pos (.inr (.inr (.inr h3)))]
        · rw [iLt_f (by omega), cond_false, need_of rfl, w64 (by omega), if_neg (by omega)]
          obtain ⟨i, hi⟩ : ∃ i : Nat, (lastF l).N - n = (i : Int) := ⟨((lastF l).N - n).toNat, by omega⟩
          rw [hi, Pop_l6_eq (by omega) hl n (by omega) n.toNat i fuel _ _ (by omega) (by have := fuel_big; omega) (by simp), List.nil_append, subS_eq _ _ _ (by omega), fillS_eq _ _ _ (hw (by omega)).2 (by omega)]
          unfold popF1
          rw [show ((i + n.toNat : Nat) : Int) = (lastF l).N by omega, hi]
theorem ref_New_l2_eq (fn : Int) (a : List Int) : ∀ (n i f : Nat) (L : List Int), i + n = min a.length 8 → n < f → ref14_New_l2 fn a f ((i : Int), L) = some [⟨fn, 0, 0, nlF a n i L, [0, 0, 0, 0, 0, 0, 0, 0, 0, 0, 0, 0, 0, 0, 0, 0]⟩]
  | n, i, 0, L, hi, hf => by omega
  | 0, i, f + 1, L, hi, hf => by
    rw [ref14_New_l2]
    dsimp only
    rw [show (iLt (i : Int) (a.length : Int) && iLt (i : Int) 8) = false by rw [Bool.and_eq_false_iff, iLt_iff', iLt_iff']; omega, cond_false]
    rfl
  | n + 1, i, f + 1, L, hi, hf => by
    rw [ref14_New_l2]
    dsimp only
    rw [iLt_t (by omega), iLt_t (by omega), Bool.and_self, cond_true, need_of (nIn_of ⟨by omega, by omega⟩), ref03_Low_eq, bind_some', need_of (nIn_of ⟨by omega, by omega⟩), Int.toNat_natCast, w64 (by omega), show (i : Int) + 1 = ((i + 1 : Nat) : Int) by omega]
    rw [ref_New_l2_eq fn a n (i + 1) f _ (by omega) (by omega)]
    rfl
theorem ref_New_eq (fn : Int) (a : List Int) : ref14_New fn a = some [newF fn a] :=
  ref_New_l2_eq fn a (min a.length 8) 0 fuel _ (by omega) (by have := fuel_big; omega)
theorem nlF_len (a : List Int) : ∀ (n i : Nat) (L : List Int), L.length = 8 → (nlF a n i L).length = 8
  | 0, i, L, h => h
  | n + 1, i, L, h => nlF_len a n (i + 1) _ (aset_len ..)
theorem newF_w (fn : Int) (a : List Int) : FW (newF fn a) := ⟨nlF_len a _ 0 _ rfl, rfl⟩
theorem ref_Call_eq {l : List Fr} (hl : l.length ≤ 1000) (hw : 0 < l.length → FW (lastF l)) (fn n : Int) : ref14_Call l fn n = some (callF l fn n) := by
  unfold ref14_Call callF
  rw [ref_Pop_eq hl hw, bind_some']
  cases h : (popF l n).2.2 with
  | false => rw [if_pos (.inl rfl)]; rfl
  | true =>
    rw [Bool.not_true, Bool.false_or]
    by_cases h1 : 8 < n
    · rw [iLt_t h1, Bool.true_or, cond_true, if_pos (.inr (.inl h1))]
    · rw [iLt_f (a := 8) (by omega), Bool.false_or]
      by_cases h2 : 8 ≤ l.length
      · rw [iLt_t (by omega), cond_true, if_pos (.inr (.inr h2))]
      · have hlen := popF_len l n (by rw [h]; decide)
        rw [iLt_f (by omega), cond_false, ref_New_eq, bind_some', need_of (nCap_of (by simp [hlen]; omega)), if_neg (by simp; omega)]
theorem popF_zero {l : List Fr} {n : Int} (h0 : l.length = 0) : (popF l n).2.2 = false := by unfold popF; rw [if_pos (.inl h0)]
theorem ref_Ret_eq {l : List Fr} (hl : l.length ≤ 1000) (hw : 0 < l.length → FW (lastF l)) : ref14_Ret l = some (retF l) := by
  unfold ref14_Ret retF topF
  rw [ref_Pop_eq hl hw, bind_some']
  cases h : (popF l 1).2.2 with
  | false => simp
  | true =>
    have h0 : l.length ≠ 0 := by
      intro h0
      rw [popF_zero h0] at h; cases h
    have h1 := popF_one h
    rw [if_neg (show ¬ (true = false) by decide)]
    dsimp only
    rw [Bool.not_true, cond_false, if_neg (show ¬ (true = false) by decide)]
    by_cases h2 : l.length = 1
    · rw [iEq_t (by omega), cond_true, if_pos h2, need_of (nIn_of ⟨by omega, by omega⟩)]
      rfl
    · rw [iEq_f (by omega), cond_false, if_neg h2, w64 (by omega), need_of (nSl_of ⟨by omega, by omega, by omega⟩), need_of (nIn_of ⟨by omega, by omega⟩), show ((l.length : Int) - 1).toNat = l.length - 1 by omega, show (0 : Int).toNat = 0 from rfl, List.drop_zero, ref_Push_eq (by rw [List.length_take]; omega), bind_some']
      cases h3 : (pushF (l.take (l.length - 1)) ((popF l 1).2.1.getD 0 default)).2 with
      | false => rw [if_pos rfl]; rfl
      | true => rw [if_neg (by decide), Bool.not_true, cond_false, need_of (nIn_of ⟨by omega, by omega⟩)]
theorem lastF_put {l : List Fr} (h : 0 < l.length) (f : Fr) : lastF (putF l f) = f := by
  unfold lastF putF
  rw [List.length_set]
  exact getD_set1 (by omega) f
theorem put_put (l : List Fr) (f g : Fr) : putF (putF l f) g = putF l g := by
  unfold putF
  rw [List.length_set, List.set_set]
theorem ref_Store_eq {l : List Fr} (hl : l.length ≤ 1000) (k v : Int) : ref14_Store l k v = some (storeF l k v) := by
  unfold ref14_Store storeF
  by_cases hc : l.length = 0 ∨ k < 0 ∨ 8 ≤ k
  · rw [if_pos hc, show ((iEq (l.length : Int) 0 || iLt k 0) || iLt 7 k) = true by
      rw [Bool.or_eq_true, Bool.or_eq_true, iEq_iff, iLt_iff, iLt_iff]; omega, cond_true]
  · rw [if_neg hc, show ((iEq (l.length : Int) 0 || iLt k 0) || iLt 7 k) = false by
      rw [Bool.or_eq_false_iff, Bool.or_eq_false_iff, iEq_iff', iLt_iff', iLt_iff']; omega, cond_false, lastD (by omega) hl, Int.toNat_natCast, show l.getD (l.length - 1) default = lastF l from rfl, need_of (nIn_of ⟨by omega, by omega⟩), ref03_Low_eq, bind_some', need_of (nIn_of ⟨by omega, by omega⟩), with_eq (by omega) hl, bind_some']
theorem ref_Go_eq {l : List Fr} (hl : l.length ≤ 1000) (pc : Int) : ref14_Go l pc = some (goF l pc) := by
  unfold ref14_Go goF
  by_cases h0 : l.length = 0
  · rw [iEq_t (by omega), cond_true, if_pos h0]
  · rw [iEq_f (by omega), cond_false, if_neg h0, lastD (by omega) hl, Int.toNat_natCast, show l.getD (l.length - 1) default = lastF l from rfl, need_of (nIn_of ⟨by omega, by omega⟩), with_eq (by omega) hl, bind_some']
/-! ### The same -/
theorem withK_eqF {α β γ : Type} (K : α → β) {f : (α → β) → γ} : withK K f = f K := rfl
theorem iNe_same (a : Int) : iNe a a = false := iNe_f rfl
theorem Same_l9_eq (l : List Fr) (s : Int) (K : Unit → Option Bool) : ∀ (n i f : Nat), i + n = 16 → n < f → ref14_Same_l9 l l s K f (i : Int) = K ()
  | n, i, 0, hi, hf => by omega
  | 0, i, f + 1, hi, hf => by
    rw [ref14_Same_l9, iLt_f (by omega), cond_false]
  | n + 1, i, f + 1, hi, hf => by
    rw [ref14_Same_l9, iLt_t (by omega), cond_true, need_of (nIn_of ⟨by omega, by omega⟩), need_of (nIn_of ⟨by omega, by omega⟩), iNe_same, cond_false, w64 (by omega), show (i : Int) + 1 = ((i + 1 : Nat) : Int) by omega, Same_l9_eq l s K n (i + 1) f (by omega) (by omega)]
    by_cases h : i < 8
    · rw [iLt_t (by omega), cond_true, need_of (nIn_of ⟨by omega, by omega⟩), need_of (nIn_of ⟨by omega, by omega⟩), iNe_same, cond_false]
    · rw [iLt_f (by omega), cond_false]
theorem Same_l3_eq (l : List Fr) (hl : l.length ≤ 1000) : ∀ (n i f : Nat), i + n = l.length → n < f → ref14_Same_l3 l l f (i : Int) = some true
  | n, i, 0, hi, hf => by omega
  | 0, i, f + 1, hi, hf => by
    rw [ref14_Same_l3, iLt_f (by omega), cond_false]
  | n + 1, i, f + 1, hi, hf => by
    rw [ref14_Same_l3, iLt_t (by omega), cond_true, withK_eqF _, need_of (nIn_of ⟨by omega, by omega⟩), need_of (nIn_of ⟨by omega, by omega⟩), iNe_same, iNe_same, iNe_same, Bool.or_self, Bool.or_self, cond_false]
    have := Same_l9_eq l (i : Int) (fun s6 : Unit => ref14_Same_l3 l l f (IntKind.i64.wrap ((i : Int) + 1))) 16 0 fuel rfl (by have := fuel_big; omega)
    refine this.trans ?_
    rw [w64 (by omega), show (i : Int) + 1 = ((i + 1 : Nat) : Int) by omega]
    exact Same_l3_eq l hl n (i + 1) f (by omega) (by omega)
theorem ref_Same_eq (l : List Fr) (hl : l.length ≤ 1000) : ref14_Same l l = some true := by
  unfold ref14_Same
  rw [iNe_same, cond_false]
  exact Same_l3_eq l hl l.length 0 fuel (by omega) (by have := fuel_big; omega)
end LJ
