/- Frames: what the program's functions make of any frames, and the document's of well made ones: the same. -/
import Derived.Test.YtcnfbifekdmacaaPF
import Derived.Test.YtcnfbifekdmacaaXPB
namespace LJ
open Go Go.RowKit
set_option linter.unusedVariables false
set_option linter.unusedSimpArgs false

/-! ### Words -/
def lowW (v : Int) : Int := (v + 2147483648) % 4294967296 - 2147483648
theorem word_Low_eq (v : Int) : word_Low v = some (lowW v) := by
  unfold word_Low
  have e : IntKind.i32.wrap (IntKind.u32.wrap v) = lowW v := by
    rw [IntKind.wrap_u32, IntKind.wrap_i32]
    unfold lowW
    omega
  have h : -2147483648 ≤ lowW v ∧ lowW v < 2147483648 := by unfold lowW; omega
  rw [e, w64 (by omega)]
theorem ref03_Low_eq (v : Int) : ref03_Low v = some (lowW v) := by
  unfold ref03_Low
  have ht : ∃ t, Int.tmod v 4294967296 = t ∧ -4294967296 < t ∧ t < 4294967296 ∧ ∃ q, v = 4294967296 * q + t := by
    refine ⟨_, rfl, ?_, ?_, Int.tdiv v 4294967296, ?_⟩
    · have := Int.lt_tmod_of_pos v (show (0 : Int) < 4294967296 by decide); omega
    · exact Int.tmod_lt_of_pos v (by decide)
    · exact (Int.mul_tdiv_add_tmod v 4294967296).symm
  obtain ⟨t, e, h1, h2, q, hq⟩ := ht
  rw [e]
  unfold lowW
  by_cases c1 : 2147483648 ≤ t
  · rw [iLe_t c1, cond_true, w64 (by omega)]
    congr 1
    omega
  · rw [iLe_f (by omega), cond_false]
    by_cases c2 : t < -2147483648
    · rw [iLt_t c2, cond_true, w64 (by omega)]
      congr 1
      omega
    · rw [iLt_f (by omega), cond_false]
      congr 1
      omega

/-! ### What is made of frames -/
abbrev Fr := T_api_Frame
def lastF (l : List Fr) : Fr := l.getD (l.length - 1) default
def putF (l : List Fr) (f : Fr) : List Fr := l.set (l.length - 1) f
def pshF (f : Fr) (v : Int) : Fr := ⟨f.Fn, f.Pc, f.N + 1, f.L, aset 16 f.S f.N.toNat (lowW v)⟩
def popF1 (f : Fr) (n : Int) : Fr := ⟨f.Fn, f.Pc, f.N - n, f.L, afill 16 f.S (f.N - n) f.N 0⟩
def trnF (f : Fr) (v : Int) : Fr := ⟨f.Fn, f.Pc, f.N, f.L, aset 16 f.S (f.N - 1).toNat (lowW v)⟩
def pushF (l : List Fr) (v : Int) : List Fr × Bool := if l.length = 0 ∨ (lastF l).N < 0 ∨ 16 ≤ (lastF l).N then ([], false) else (putF l (pshF (lastF l) v), true)
def popF (l : List Fr) (n : Int) : List Fr × List Int × Bool := if l.length = 0 ∨ n < 0 ∨ (lastF l).N < n ∨ 16 < (lastF l).N then ([], [], false) else (putF l (popF1 (lastF l) n), asub (lastF l).S ((lastF l).N - n) (lastF l).N, true)
def turnF (l : List Fr) (v : Int) : List Fr := if l.length = 0 ∨ (lastF l).N ≤ 0 ∨ 16 < (lastF l).N then l else putF l (trnF (lastF l) v)
def nlF (a : List Int) : Nat → Nat → List Int → List Int
  | 0, _, L => L
  | n + 1, i, L => nlF a n (i + 1) (aset 8 L i (lowW (a.getD i default)))
def newF (fn : Int) (a : List Int) : Fr := ⟨fn, 0, 0, nlF a (min a.length 8) 0 [0, 0, 0, 0, 0, 0, 0, 0], [0, 0, 0, 0, 0, 0, 0, 0, 0, 0, 0, 0, 0, 0, 0, 0]⟩
def callF (l : List Fr) (fn n : Int) : List Fr × Bool := if (popF l n).2.2 = false ∨ 8 < n ∨ 8 ≤ l.length then ([], false) else ((popF l n).1 ++ [newF fn (popF l n).2.1], true)
def topF (l : List Fr) : Int × Bool := if (popF l 1).2.2 = false then (0, false) else ((popF l 1).2.1.getD 0 default, true)
def retF (l : List Fr) : List Fr × Int × Bool := if (topF l).2 = false then ([], 0, false) else if l.length = 1 then ([], (topF l).1, true) else if (pushF (l.take (l.length - 1)) (topF l).1).2 = false then ([], 0, false) else ((pushF (l.take (l.length - 1)) (topF l).1).1, (topF l).1, true)
def storeF (l : List Fr) (k v : Int) : List Fr := if l.length = 0 ∨ k < 0 ∨ 8 ≤ k then l else putF l ⟨(lastF l).Fn, (lastF l).Pc, (lastF l).N, aset 8 (lastF l).L k.toNat (lowW v), (lastF l).S⟩
def goF (l : List Fr) (pc : Int) : List Fr := if l.length = 0 then l else putF l ⟨(lastF l).Fn, pc, (lastF l).N, (lastF l).L, (lastF l).S⟩

/-! ### The program's -/
theorem nil_of_len {α : Type} {l : List α} (h : l.length = 0) : l = [] := List.eq_nil_of_length_eq_zero h
theorem lastI {l : List Fr} (h : 0 < l.length) (hl : l.length ≤ 1000) : IntKind.i64.wrap ((((([] : List T_api_Frame) ++ l).map enc_api_Frame).length : Int) - 1) = ((l.length - 1 : Nat) : Int) := by
  rw [List.nil_append, List.length_map, w64 (by omega)]
  omega
theorem last_o {l : List Fr} (h : 0 < l.length) (hl : l.length ≤ 1000) : frame_last_o l = some l := by
  unfold frame_last_o
  rw [need_of (nCap_of (by simp; omega)), lastI h hl, need_of (nIn_of ⟨by omega, by rw [List.nil_append]; omega⟩), List.nil_append]
theorem getD_set1 {l : List Fr} {i : Nat} (h : i < l.length) (f : Fr) : (l.set i f).getD i default = f := by
  rw [List.getD_eq_getElem?_getD, List.getElem?_set_self h]
  rfl
theorem frame_Push_eq {l : List Fr} (hl : l.length ≤ 1000) (v : Int) : frame_Push l v = some (pushF l v) := by
  unfold frame_Push pushF
  by_cases h0 : l.length = 0
  · rw [iEq_t (by omega), cond_true, if_pos (.inl h0)]; rfl
  · rw [iEq_f (by omega), cond_false, last_o (by omega) hl, bind_some', lastI (by omega) hl, need_of (nIn_of ⟨by omega, by omega⟩), Int.toNat_natCast]
    rw [show l.getD (l.length - 1) default = lastF l from rfl]
    by_cases h1 : (lastF l).N < 0
    · rw [iLt_t h1, cond_true, if_pos (.inr (.inl h1))]
    · rw [iLt_f (by omega), cond_false]
      by_cases h2 : 16 ≤ (lastF l).N
      · rw [iLe_t h2, cond_true, if_pos (.inr (.inr h2))]
      · rw [iLe_f (by omega), cond_false, word_Low_eq, bind_some', need_of (nIn_of ⟨by omega, by omega⟩), if_neg (by omega)]
        rw [getD_set1 (by omega), List.set_set]
        dsimp only
        rw [w64 (by omega)]
        rfl
theorem frame_Pop_eq {l : List Fr} (hl : l.length ≤ 1000) (n : Int) : frame_Pop l n = some (popF l n) := by
  unfold frame_Pop popF
  by_cases h0 : l.length = 0
  · rw [iEq_t (by omega), cond_true, if_pos (.inl h0)]; rfl
  · rw [iEq_f (by omega), cond_false, last_o (by omega) hl, bind_some', lastI (by omega) hl, need_of (nIn_of ⟨by omega, by omega⟩), Int.toNat_natCast]
    rw [show l.getD (l.length - 1) default = lastF l from rfl]
    by_cases h1 : n < 0
    · rw [iLt_t h1, cond_true, if_pos (.inr (.inl h1))]
    · rw [iLt_f (by omega), cond_false]
      by_cases h2 : (lastF l).N < n
      · rw [iLt_t h2, cond_true, if_pos (.inr (.inr (.inl h2)))]
      · rw [iLt_f (by omega), cond_false]
        by_cases h3 : 16 < (lastF l).N
        · rw [iLt_t h3, cond_true, if_pos (.inr (.inr (.inr h3)))]
        · rw [iLt_f (by omega), cond_false, w64 (a := (lastF l).N - n) (by omega), need_of (nSl_of ⟨by omega, by omega, by omega⟩), need_of (nCap_of (by simp; omega)), need_of (nSl_of ⟨by omega, by omega, by omega⟩), if_neg (by omega)]
          rw [getD_set1 (by omega), List.set_set]
          dsimp only
          rw [w64 (by omega), List.nil_append]
          rfl
theorem frame_Store_eq {l : List Fr} (hl : l.length ≤ 1000) (k v : Int) : frame_Store l k v = some (storeF l k v) := by
  unfold frame_Store storeF
  by_cases h0 : l.length = 0
  · rw [iEq_t (by omega), cond_true, if_pos (.inl h0), nil_of_len h0]; rfl
  · rw [iEq_f (by omega), cond_false, last_o (by omega) hl, bind_some', lastI (by omega) hl, need_of (nIn_of ⟨by omega, by omega⟩), Int.toNat_natCast]
    rw [show l.getD (l.length - 1) default = lastF l from rfl]
    by_cases h1 : k < 0
    · rw [iLe_f h1, Bool.false_and, cond_false, if_pos (.inr (.inl h1))]
    · rw [iLe_t (by omega), Bool.true_and]
      by_cases h2 : 8 ≤ k
      · rw [iLt_f h2, cond_false, if_pos (.inr (.inr h2))]
      · rw [iLt_t (by omega), cond_true, word_Low_eq, bind_some', need_of (nIn_of ⟨by omega, by omega⟩), if_neg (by omega)]
        rfl
theorem frame_Go_eq {l : List Fr} (hl : l.length ≤ 1000) (pc : Int) : frame_Go l pc = some (goF l pc) := by
  unfold frame_Go goF
  by_cases h0 : l.length = 0
  · rw [iEq_t (by omega), cond_true, if_pos h0, nil_of_len h0]; rfl
  · rw [iEq_f (by omega), cond_false, last_o (by omega) hl, bind_some', lastI (by omega) hl, need_of (nIn_of ⟨by omega, by omega⟩), Int.toNat_natCast, if_neg h0]
    rfl
theorem frame_New_l3_eq (fn : Int) (a : List Int) : ∀ (n i f : Nat) (L : List Int), i + n = min a.length 8 → n < f → frame_New_l3 fn a f ((i : Int), L) = some [⟨fn, 0, 0, nlF a n i L, [0, 0, 0, 0, 0, 0, 0, 0, 0, 0, 0, 0, 0, 0, 0, 0]⟩]
  | n, i, 0, L, hi, hf => by omega
  | 0, i, f + 1, L, hi, hf => by
    have hm : (iMin (a.length : Int) (8 : Int)).toNat = min a.length 8 := by unfold iMin; split <;> omega
    rw [frame_New_l3]
    dsimp only
    rw [hm, show (0 : Int).toNat = 0 from rfl, List.drop_zero, List.length_take, iLt_f (by omega), cond_false]
    rfl
  | n + 1, i, f + 1, L, hi, hf => by
    have hm : (iMin (a.length : Int) (8 : Int)).toNat = min a.length 8 := by unfold iMin; split <;> omega
    rw [frame_New_l3]
    dsimp only
    rw [hm, show (0 : Int).toNat = 0 from rfl, List.drop_zero, List.length_take, iLt_t (by omega), cond_true, need_of (nIn_of ⟨by omega, by omega⟩), word_Low_eq, bind_some', need_of (nIn_of ⟨by omega, by omega⟩), Int.toNat_natCast, w64 (by omega), show (i : Int) + 1 = ((i + 1 : Nat) : Int) by omega]
    rw [frame_New_l3_eq fn a n (i + 1) f _ (by omega) (by omega)]
    have : (a.take (min a.length 8)).getD i default = a.getD i default := by
      rw [List.getD_eq_getElem?_getD, List.getElem?_take, if_pos (by omega), List.getD_eq_getElem?_getD]
    rw [this]
    rfl
theorem frame_New_eq (fn : Int) (a : List Int) : frame_New fn a = some [newF fn a] := by
  unfold frame_New
  rw [need_of (nSl_of ⟨by decide, by unfold iMin; split <;> omega, by unfold iMin; split <;> omega⟩)]
  exact frame_New_l3_eq fn a (min a.length 8) 0 fuel _ (by omega) (by have := fuel_big; omega)
theorem putF_len (l : List Fr) (f : Fr) : (putF l f).length = l.length := by unfold putF; rw [List.length_set]
theorem popF_len (l : List Fr) (n : Int) (h : (popF l n).2.2 ≠ false) : (popF l n).1.length = l.length := by
  unfold popF at h ⊢
  split
  · rename_i c; rw [if_pos c] at h; exact absurd rfl h
  · exact putF_len _ _
theorem frame_Call_eq {l : List Fr} (hl : l.length ≤ 1000) (fn n : Int) : frame_Call l fn n = some (callF l fn n) := by
  unfold frame_Call callF
  rw [frame_Pop_eq hl, bind_some']
  cases h : (popF l n).2.2 with
  | false => rw [if_pos (.inl rfl)]; rfl
  | true =>
    rw [Bool.not_true, Bool.false_or]
    by_cases h1 : 8 < n
    · rw [iLt_t h1, Bool.true_or, cond_true, if_pos (.inr (.inl h1))]
    · rw [iLt_f (by omega), Bool.false_or]
      by_cases h2 : 8 ≤ l.length
      · rw [iLe_t (by omega), cond_true, if_pos (.inr (.inr h2))]
      · have hlen := popF_len l n (by rw [h]; decide)
        rw [iLe_f (by omega), cond_false, frame_New_eq, bind_some', need_of (nCap_of (by simp [hlen]; omega)), if_neg (by simp; omega)]
theorem asub_len (S : List Int) (i j : Int) : (asub S i j).length = (j - i).toNat := by simp [asub]
theorem popF_one {l : List Fr} (h : (popF l 1).2.2 = true) : (popF l 1).2.1.length = 1 := by
  unfold popF at h ⊢
  split
  · rename_i c; rw [if_pos c] at h; cases h
  · rw [asub_len]; omega
theorem frame_Top_eq {l : List Fr} (hl : l.length ≤ 1000) : frame_Top l = some (topF l) := by
  unfold frame_Top topF
  rw [frame_Pop_eq hl, bind_some']
  cases h : (popF l 1).2.2 with
  | false => rw [if_pos rfl]; rfl
  | true =>
    have := popF_one h
    rw [Bool.not_true, cond_false, need_of (nIn_of ⟨by omega, by omega⟩), if_neg (by decide)]
    rfl
theorem frame_Ret_eq {l : List Fr} (hl : l.length ≤ 1000) : frame_Ret l = some (retF l) := by
  unfold frame_Ret retF
  rw [frame_Top_eq hl, bind_some']
  cases h : (topF l).2 with
  | false => rw [if_pos rfl]; rfl
  | true =>
    have h0 : l.length ≠ 0 := by
      intro h0
      have : (topF l).2 = false := by
        unfold topF
        rw [if_pos (show (popF l 1).2.2 = false by unfold popF; rw [if_pos (.inl h0)])]
      rw [this] at h; cases h
    rw [Bool.not_true, cond_false, if_neg (by decide)]
    by_cases h1 : l.length = 1
    · rw [iEq_t (by omega), cond_true, if_pos h1]
    · rw [iEq_f (by omega), cond_false, if_neg h1, w64 (by omega), need_of (nSl_of ⟨by omega, by omega, by omega⟩), show ((l.length : Int) - 1).toNat = l.length - 1 by omega, show (0 : Int).toNat = 0 from rfl, List.drop_zero, frame_Push_eq (by rw [List.length_take]; omega), bind_some']
      cases h2 : (pushF (l.take (l.length - 1)) (topF l).1).2 with
      | false => rw [if_pos rfl]; rfl
      | true => rw [if_neg (by decide)]; rfl
end LJ
