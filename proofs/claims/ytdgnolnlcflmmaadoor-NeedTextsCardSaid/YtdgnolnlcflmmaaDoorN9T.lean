/- The law NeedTexts, plainly. -/
import Derived.Test.YtdgnolnlcflmmaaDoorL09
import Derived.Test.YtdgnolnlcflmmaaDoorL02C
namespace LJ
open Go Go.RowKit
set_option linter.unusedVariables false
set_option linter.unusedSimpArgs false

structure I64N (x : T_api_Need) : Prop where
  o : -9223372036854775808 ≤ x.Obj ∧ x.Obj ≤ 9223372036854775807
  n : -9223372036854775808 ≤ x.N ∧ x.N ≤ 9223372036854775807
theorem decF_len : ∀ f u, (decF f u).length ≤ f
  | 0, u => Nat.le_refl _
  | f + 1, u => by
    rw [decF]; split
    · simp
    · rw [List.length_append]; have := decF_len f (u / 10); simp; omega
theorem itoaL_len (n : Int) : (itoaL n).length ≤ 21 := by
  unfold itoaL; split
  · rw [List.length_cons]; have := decF_len 20 n.natAbs; omega
  · have := decF_len 20 n.toNat; omega
theorem itoaT_eq (n : Int) : itoaT n = bs (itoaL n) := rfl
theorem decF_any : ∀ (f g u : Nat), u < 10 ^ f → 0 < f → f ≤ g → decF g u = decF f u := fun f g u h h0 hg => by
  rw [decF_eq f u h h0, decF_eq g u (Nat.lt_of_lt_of_le h (Nat.pow_le_pow_right (by decide) hg)) (by omega)]
theorem Digits_r : ∀ (m f u : Nat), u < 10 ^ m → 0 < m → m ≤ f → m ≤ 20 ∧ u < 9223372036854775808 → ref02_Digits_r f (u : Int) = some (bs (decF m u))
  | 0, f, u, h, h0, hf, h20 => by omega
  | m + 1, 0, u, h, h0, hf, h20 => by omega
  | m + 1, f + 1, u, h, h0, hf, h20 => by
    rw [ref02_Digits_r, decF]
    by_cases hu : u < 10
    · rw [iLt_t (by omega), cond_true, w64 (by omega), wu8 (by omega), need_of (nIn_of ⟨by omega, by omega⟩), if_pos hu, show ((48 : Int) + (u : Int)).toNat = 48 + u by omega]
      exact congrArg some (bl_inj (by simp))
    · have hm : 0 < m := by
        rcases Nat.eq_zero_or_pos m with rfl | h'
        · simp at h; omega
        · exact h'
      rw [Nat.pow_succ] at h
      have e1 : Int.tdiv (u : Int) 10 = ((u / 10 : Nat) : Int) := by rw [Int.tdiv_eq_ediv_of_nonneg (by omega)]; omega
      have e2 : Int.tmod (u : Int) 10 = ((u % 10 : Nat) : Int) := by rw [Int.tmod_eq_emod_of_nonneg (by omega)]; omega
      have hl := decF_len m (u / 10)
      rw [iLt_f (by omega), cond_false, e1, e2, w64 (a := ((u / 10 : Nat) : Int)) (by omega), Digits_r m f (u / 10) (by omega) hm (by omega) (by omega), bind_some', w64 (by omega), wu8 (by omega), need_of (nIn_of ⟨by omega, by omega⟩), need_of (nStr_of (by rw [bs_size]; have : (ByteArray.empty.push (UInt8.ofNat ((48 : Int) + ((u % 10 : Nat) : Int)).toNat)).size = 1 := rfl; omega)), if_neg hu, show ((48 : Int) + ((u % 10 : Nat) : Int)).toNat = 48 + u % 10 by omega]
      exact congrArg some (bl_inj (by simp))
theorem ref_Digits {u : Nat} (h : u < 9223372036854775808) : ref02_Digits (u : Int) = some (bs (decF 20 u)) := Digits_r 20 fuel u (by omega) (by decide) (by have := fuel_big; omega) ⟨by decide, h⟩
theorem ref_Int {n : Int} (h : -9223372036854775808 ≤ n ∧ n ≤ 9223372036854775807) : ref09_Int n = some (bs (itoaL n)) := by
  unfold ref09_Int
  by_cases h0 : n = -9223372036854775808
  · rw [iEq_t h0, cond_true, h0]
    decide +kernel
  · rw [iEq_f h0, cond_false]
    unfold itoaL
    by_cases hn : n < 0
    · have hl := decF_len 20 n.natAbs
      rw [iLt_t hn, cond_true, w64 (by omega), show (0 : Int) - n = ((n.natAbs : Nat) : Int) by omega, ref_Digits (by omega), bind_some', need_of (nStr_of (by rw [bs_size]; show 1 + _ ≤ _; omega)), if_pos hn]
      exact congrArg some (bl_inj (by simp; rfl))
    · rw [iLt_f (by omega), cond_false, if_neg hn]
      obtain ⟨u, rfl⟩ : ∃ u : Nat, n = u := ⟨n.toNat, by omega⟩
      rw [ref_Digits (by omega), bind_some', Int.toNat_natCast]
theorem Itoa_eq {n : Int} (h : -9223372036854775808 ≤ n ∧ n ≤ 9223372036854775807) : strconv_Itoa n = some (bs (itoaL n)) := by
  unfold strconv_Itoa
  rw [need_of (nI64_of h)]; rfl
/-- The word of a kind. -/
def nameL (k : Int) : List UInt8 := cond (iEq k 1) [108, 111, 99, 107] (cond (iEq k 2) [114, 101, 97, 100] (cond (iEq k 3) [119, 114, 105, 116, 101] (cond (iEq k 4) [100, 111, 119, 110] (cond (iEq k 5) [116, 97, 107, 101] [110, 111, 110, 101]))))
theorem name_eq (k : Int) : need_name k = some (bs (nameL k)) := by
  unfold need_name nameL
  cases iEq k 1 <;> cases iEq k 2 <;> cases iEq k 3 <;> cases iEq k 4 <;> cases iEq k 5 <;> rfl
theorem nameL_len (k : Int) : (nameL k).length ≤ 5 := by
  unfold nameL
  cases iEq k 1 <;> cases iEq k 2 <;> cases iEq k 3 <;> cases iEq k 4 <;> cases iEq k 5 <;> decide
def words : List ByteArray := [(⟨#[110, 111, 110, 101]⟩ : ByteArray), (⟨#[108, 111, 99, 107]⟩ : ByteArray), (⟨#[114, 101, 97, 100]⟩ : ByteArray), (⟨#[119, 114, 105, 116, 101]⟩ : ByteArray), (⟨#[100, 111, 119, 110]⟩ : ByteArray), (⟨#[116, 97, 107, 101]⟩ : ByteArray)]
theorem words_in {k : Int} (h : 1 ≤ k ∧ k ≤ 5) : words.getD k.toNat default = bs (nameL k) := by
  have h5 : k = 1 ∨ k = 2 ∨ k = 3 ∨ k = 4 ∨ k = 5 := by omega
  rcases h5 with rfl | rfl | rfl | rfl | rfl <;> rfl
theorem words_out {k : Int} (h : ¬ (1 ≤ k ∧ k ≤ 5)) : words.getD (0 : Int).toNat default = bs (nameL k) := by
  unfold nameL
  rw [iEq_f (by omega), iEq_f (by omega), iEq_f (by omega), iEq_f (by omega), iEq_f (by omega)]; rfl
def textN (x : T_api_Need) : List UInt8 := nameL x.Kind ++ [32] ++ itoaL x.Obj ++ cond (iEq x.Kind 4 || iEq x.Kind 5) ([58] ++ itoaL x.N) []
theorem textN_len (x : T_api_Need) : (textN x).length ≤ 49 := by
  have h1 := nameL_len x.Kind
  have h2 := itoaL_len x.Obj
  have h3 := itoaL_len x.N
  unfold textN
  cases iEq x.Kind 4 || iEq x.Kind 5 with
  | true => simp; omega
  | false => simp; omega
def textJ : Bool → List T_api_Need → List UInt8
  | _, [] => []
  | z, x :: t => cond z [] [32, 43, 32] ++ textN x ++ textJ false t
def textK : Bool → List (List T_api_Need) → List UInt8
  | _, [] => []
  | z, l :: t => cond z [] [32, 124, 32] ++ textJ true l ++ textK false t
theorem WS_eq (u : Bool) (b s : ByteArray) : strings_Builder_WriteString ⟨u, b⟩ s = need (nCap (b.size + s.size)) (some ((s.size : Int), (), (⟨true, b ++ s⟩ : T_strings_Builder))) := by
  unfold strings_Builder_WriteString strings_Builder_copyCheck
  cases u <;> rfl
theorem lits : (⟨#[32, 43, 32]⟩ : ByteArray) = bs [32, 43, 32] ∧ (⟨#[32]⟩ : ByteArray) = bs [32] ∧ (⟨#[58]⟩ : ByteArray) = bs [58] ∧ (⟨#[32, 124, 32]⟩ : ByteArray) = bs [32, 124, 32] := ⟨rfl, rfl, rfl, rfl⟩
theorem T_l10 {W : List (List T_api_Need)} {s1 : Int × Bool × ByteArray} {K : (Bool × ByteArray) → Option ByteArray} {l : List T_api_Need} (hl : W.getD s1.1.toNat default = l) (h6 : l.length ≤ 6) (hr : ∀ x ∈ l, I64N x) : ∀ (n i f : Nat) (u : Bool) (b : ByteArray), i + n = l.length → n < f → b.size + 60 * n ≤ 100000 →
    ∃ u', need_Text_l10 W s1 K f ((i : Int), u, b) = K (u', b ++ bs (textJ (Nat.beq i 0) (l.drop i)))
  | n, i, 0, u, b, hi, hf, hb => by omega
  | 0, i, f + 1, u, b, hi, hf, hb => by
    refine ⟨u, ?_⟩
    rw [need_Text_l10]
    dsimp only
    rw [hl, iLt_f (by omega), cond_false, List.drop_eq_nil_of_le (by omega)]
    congr 2
    apply bl_inj
    simp [textJ]
  | n + 1, i, f + 1, u, b, hi, hf, hb => by
    rw [need_Text_l10]
    dsimp only
    have hm : l.getD i default ∈ l := by
      rw [List.getD_eq_getElem?_getD, List.getElem?_eq_getElem (by omega)]
      exact List.getElem_mem _
    have hx := hr _ hm
    rw [hl, iLt_t (by omega), cond_true, need_of (nIn_of ⟨by omega, by omega⟩), Int.toNat_natCast, getD_drop l i (by omega)]
    generalize l.getD i default = x at *
    have g1 := nameL_len x.Kind
    have g2 := itoaL_len x.Obj
    have g3 := itoaL_len x.N
    have g4 := textN_len x
    have w : IntKind.i64.wrap ((i : Int) + 1) = ((i + 1 : Nat) : Int) := by rw [w64 (by omega)]; omega
    obtain ⟨l1, l2, l3, _⟩ := lits
    have ih : ∀ b' : ByteArray, b'.size + 60 * n ≤ 100000 → ∃ u', need_Text_l10 W s1 K f (((i + 1 : Nat) : Int), true, b') = K (u', b' ++ bs (textJ false (l.drop (i + 1)))) := fun b' hb' => T_l10 hl h6 hr n (i + 1) f true b' (by omega) (by omega) hb'
    unfold need_counted
    rw [l1, l2, l3, Itoa_eq hx.o, Itoa_eq hx.n, name_eq]
    simp only [bind_some', WS_eq]
    rw [textJ]
    by_cases h0 : i = 0
    · subst h0
      rw [iLt_f (by decide), cond_false, need_of (nStr_of (by simp only [bs_size, ByteArray.size_append, List.length_cons, List.length_nil]; omega)), need_of (nStr_of (by simp only [bs_size, ByteArray.size_append, List.length_cons, List.length_nil]; omega)), need_of (nCap_of (by simp only [bs_size, ByteArray.size_append, List.length_cons, List.length_nil]; omega)), bind_some']
      dsimp only
      unfold textN at *
      cases hc : (iEq x.Kind 4 || iEq x.Kind 5) with
      | true =>
        rw [hc] at g4
        rw [cond_true, WS_eq, need_of (nStr_of (by simp only [bs_size, ByteArray.size_append, List.length_cons, List.length_nil]; omega)), need_of (nCap_of (by simp only [bs_size, ByteArray.size_append, List.length_cons, List.length_nil]; omega)), bind_some']
        dsimp only
        rw [w]
        obtain ⟨u', hu⟩ := ih (b ++ (bs (nameL x.Kind) ++ bs [32] ++ bs (itoaL x.Obj)) ++ (bs [58] ++ bs (itoaL x.N))) (by simp only [bs_size, ByteArray.size_append, List.length_cons, List.length_nil]; omega)
        refine ⟨u', Eq.trans hu ?_⟩
        congr 2
        apply bl_inj
        simp [Nat.beq]
      | false =>
        rw [cond_false, w]
        obtain ⟨u', hu⟩ := ih (b ++ (bs (nameL x.Kind) ++ bs [32] ++ bs (itoaL x.Obj))) (by simp only [bs_size, ByteArray.size_append, List.length_cons, List.length_nil]; omega)
        refine ⟨u', Eq.trans hu ?_⟩
        congr 2
        apply bl_inj
        simp [Nat.beq]
    · have hbq : Nat.beq i 0 = false := by cases i with
        | zero => exact absurd rfl h0
        | succ i => rfl
      rw [iLt_t (by omega), cond_true, need_of (nCap_of (by simp only [bs_size, ByteArray.size_append, List.length_cons, List.length_nil]; omega)), bind_some']
      dsimp only
      rw [WS_eq, need_of (nStr_of (by simp only [bs_size, ByteArray.size_append, List.length_cons, List.length_nil]; omega)), need_of (nStr_of (by simp only [bs_size, ByteArray.size_append, List.length_cons, List.length_nil]; omega)), need_of (nCap_of (by simp only [bs_size, ByteArray.size_append, List.length_cons, List.length_nil]; omega)), bind_some']
      dsimp only
      unfold textN at *
      cases hc : (iEq x.Kind 4 || iEq x.Kind 5) with
      | true =>
        rw [hc] at g4
        rw [cond_true, WS_eq, need_of (nStr_of (by simp only [bs_size, ByteArray.size_append, List.length_cons, List.length_nil]; omega)), need_of (nCap_of (by simp only [bs_size, ByteArray.size_append, List.length_cons, List.length_nil]; omega)), bind_some']
        dsimp only
        rw [w]
        obtain ⟨u', hu⟩ := ih (b ++ bs [32, 43, 32] ++ (bs (nameL x.Kind) ++ bs [32] ++ bs (itoaL x.Obj)) ++ (bs [58] ++ bs (itoaL x.N))) (by simp only [bs_size, ByteArray.size_append, List.length_cons, List.length_nil]; omega)
        refine ⟨u', Eq.trans hu ?_⟩
        congr 2
        apply bl_inj
        simp [hbq]
      | false =>
        rw [cond_false, w]
        obtain ⟨u', hu⟩ := ih (b ++ bs [32, 43, 32] ++ (bs (nameL x.Kind) ++ bs [32] ++ bs (itoaL x.Obj))) (by simp only [bs_size, ByteArray.size_append, List.length_cons, List.length_nil]; omega)
        refine ⟨u', Eq.trans hu ?_⟩
        congr 2
        apply bl_inj
        simp [hbq]
theorem T_l36 {W : List (List T_api_Need)} {s1 : Int × Bool × ByteArray} {K : (Bool × ByteArray) → Option ByteArray} {l : List T_api_Need} (hl : W.getD s1.1.toNat default = l) (h6 : l.length ≤ 6) (hr : ∀ x ∈ l, I64N x) : ∀ (n i f : Nat) (u : Bool) (b : ByteArray), i + n = l.length → n < f → b.size + 60 * n ≤ 100000 →
    ∃ u', need_Text_l36 W s1 K f ((i : Int), u, b) = K (u', b ++ bs (textJ (Nat.beq i 0) (l.drop i)))
  | n, i, 0, u, b, hi, hf, hb => by omega
  | 0, i, f + 1, u, b, hi, hf, hb => by
    refine ⟨u, ?_⟩
    rw [need_Text_l36]
    dsimp only
    rw [hl, iLt_f (by omega), cond_false, List.drop_eq_nil_of_le (by omega)]
    congr 2
    apply bl_inj
    simp [textJ]
  | n + 1, i, f + 1, u, b, hi, hf, hb => by
    rw [need_Text_l36]
    dsimp only
    have hm : l.getD i default ∈ l := by
      rw [List.getD_eq_getElem?_getD, List.getElem?_eq_getElem (by omega)]
      exact List.getElem_mem _
    have hx := hr _ hm
    rw [hl, iLt_t (by omega), cond_true, need_of (nIn_of ⟨by omega, by omega⟩), Int.toNat_natCast, getD_drop l i (by omega)]
    generalize l.getD i default = x at *
    have g1 := nameL_len x.Kind
    have g2 := itoaL_len x.Obj
    have g3 := itoaL_len x.N
    have g4 := textN_len x
    have w : IntKind.i64.wrap ((i : Int) + 1) = ((i + 1 : Nat) : Int) := by rw [w64 (by omega)]; omega
    obtain ⟨l1, l2, l3, _⟩ := lits
    have ih : ∀ b' : ByteArray, b'.size + 60 * n ≤ 100000 → ∃ u', need_Text_l36 W s1 K f (((i + 1 : Nat) : Int), true, b') = K (u', b' ++ bs (textJ false (l.drop (i + 1)))) := fun b' hb' => T_l36 hl h6 hr n (i + 1) f true b' (by omega) (by omega) hb'
    unfold need_counted
    rw [l1, l2, l3, Itoa_eq hx.o, Itoa_eq hx.n, name_eq]
    simp only [bind_some', WS_eq]
    rw [textJ]
    by_cases h0 : i = 0
    · subst h0
      rw [iLt_f (by decide), cond_false, need_of (nStr_of (by simp only [bs_size, ByteArray.size_append, List.length_cons, List.length_nil]; omega)), need_of (nStr_of (by simp only [bs_size, ByteArray.size_append, List.length_cons, List.length_nil]; omega)), need_of (nCap_of (by simp only [bs_size, ByteArray.size_append, List.length_cons, List.length_nil]; omega)), bind_some']
      dsimp only
      unfold textN at *
      cases hc : (iEq x.Kind 4 || iEq x.Kind 5) with
      | true =>
        rw [hc] at g4
        rw [cond_true, WS_eq, need_of (nStr_of (by simp only [bs_size, ByteArray.size_append, List.length_cons, List.length_nil]; omega)), need_of (nCap_of (by simp only [bs_size, ByteArray.size_append, List.length_cons, List.length_nil]; omega)), bind_some']
        dsimp only
        rw [w]
        obtain ⟨u', hu⟩ := ih (b ++ (bs (nameL x.Kind) ++ bs [32] ++ bs (itoaL x.Obj)) ++ (bs [58] ++ bs (itoaL x.N))) (by simp only [bs_size, ByteArray.size_append, List.length_cons, List.length_nil]; omega)
        refine ⟨u', Eq.trans hu ?_⟩
        congr 2
        apply bl_inj
        simp [Nat.beq]
      | false =>
        rw [cond_false, w]
        obtain ⟨u', hu⟩ := ih (b ++ (bs (nameL x.Kind) ++ bs [32] ++ bs (itoaL x.Obj))) (by simp only [bs_size, ByteArray.size_append, List.length_cons, List.length_nil]; omega)
        refine ⟨u', Eq.trans hu ?_⟩
        congr 2
        apply bl_inj
        simp [Nat.beq]
    · have hbq : Nat.beq i 0 = false := by cases i with
        | zero => exact absurd rfl h0
        | succ i => rfl
      rw [iLt_t (by omega), cond_true, need_of (nCap_of (by simp only [bs_size, ByteArray.size_append, List.length_cons, List.length_nil]; omega)), bind_some']
      dsimp only
      rw [WS_eq, need_of (nStr_of (by simp only [bs_size, ByteArray.size_append, List.length_cons, List.length_nil]; omega)), need_of (nStr_of (by simp only [bs_size, ByteArray.size_append, List.length_cons, List.length_nil]; omega)), need_of (nCap_of (by simp only [bs_size, ByteArray.size_append, List.length_cons, List.length_nil]; omega)), bind_some']
      dsimp only
      unfold textN at *
      cases hc : (iEq x.Kind 4 || iEq x.Kind 5) with
      | true =>
        rw [hc] at g4
        rw [cond_true, WS_eq, need_of (nStr_of (by simp only [bs_size, ByteArray.size_append, List.length_cons, List.length_nil]; omega)), need_of (nCap_of (by simp only [bs_size, ByteArray.size_append, List.length_cons, List.length_nil]; omega)), bind_some']
        dsimp only
        rw [w]
        obtain ⟨u', hu⟩ := ih (b ++ bs [32, 43, 32] ++ (bs (nameL x.Kind) ++ bs [32] ++ bs (itoaL x.Obj)) ++ (bs [58] ++ bs (itoaL x.N))) (by simp only [bs_size, ByteArray.size_append, List.length_cons, List.length_nil]; omega)
        refine ⟨u', Eq.trans hu ?_⟩
        congr 2
        apply bl_inj
        simp [hbq]
      | false =>
        rw [cond_false, w]
        obtain ⟨u', hu⟩ := ih (b ++ bs [32, 43, 32] ++ (bs (nameL x.Kind) ++ bs [32] ++ bs (itoaL x.Obj))) (by simp only [bs_size, ByteArray.size_append, List.length_cons, List.length_nil]; omega)
        refine ⟨u', Eq.trans hu ?_⟩
        congr 2
        apply bl_inj
        simp [hbq]
theorem textJ_len : ∀ (l : List T_api_Need) (z : Bool), (textJ z l).length ≤ 52 * l.length
  | [], z => by simp [textJ]
  | x :: t, z => by
    have := textJ_len t false
    have := textN_len x
    rw [textJ, List.length_cons]
    cases z <;> simp <;> omega
theorem T_l2 {W : List (List T_api_Need)} (h6 : W.length ≤ 6) (hw : ∀ l ∈ W, l.length ≤ 6 ∧ ∀ x ∈ l, I64N x) : ∀ (n i f : Nat) (u : Bool) (b : ByteArray), i + n = W.length → n < f → b.size + 500 * n ≤ 50000 →
    need_Text_l2 W f ((i : Int), u, b) = some (b ++ bs (textK (Nat.beq i 0) (W.drop i)))
  | n, i, 0, u, b, hi, hf, hb => by omega
  | 0, i, f + 1, u, b, hi, hf, hb => by
    rw [need_Text_l2]
    dsimp only
    rw [iLt_f (by omega), cond_false, List.drop_eq_nil_of_le (by omega)]
    unfold strings_Builder_String
    rw [bind_some']
    exact congrArg some (bl_inj (by simp [textK]))
  | n + 1, i, f + 1, u, b, hi, hf, hb => by
    have hm : W.getD i default ∈ W := by
      rw [List.getD_eq_getElem?_getD, List.getElem?_eq_getElem (by omega)]
      exact List.getElem_mem _
    obtain ⟨h1, h2⟩ := hw _ hm
    obtain ⟨_, _, _, l4⟩ := lits
    have hj := textJ_len (W.getD i default) true
    rw [need_Text_l2]
    dsimp only
    rw [iLt_t (by omega), cond_true, withK_eq, need_of (nIn_of ⟨by omega, by omega⟩), getD_drop W i (by omega), textK]
    have w : IntKind.i64.wrap ((i : Int) + 1) = ((i + 1 : Nat) : Int) := by rw [w64 (by omega)]; omega
    by_cases h0 : i = 0
    · subst h0
      rw [iLt_f (by decide), cond_false]
      obtain ⟨u', hu⟩ := T_l36 (W := W) (s1 := (((0 : Nat) : Int), u, b)) (K := fun s5 : Bool × ByteArray => need_Text_l2 W f (IntKind.i64.wrap (((0 : Nat) : Int) + 1), s5.1, s5.2)) (l := W.getD 0 default) rfl h1 h2 (W.getD 0 default).length 0 fuel u b (by omega) (by have := fuel_big; omega) (by omega)
      refine Eq.trans hu ?_
      dsimp only
      rw [w, T_l2 h6 hw n (0 + 1) f u' _ (by omega) (by omega) (by simp only [bs_size, ByteArray.size_append, List.drop_zero, Nat.beq]; omega)]
      exact congrArg some (bl_inj (by simp [Nat.beq]))
    · have hbq : Nat.beq i 0 = false := by cases i with
        | zero => exact absurd rfl h0
        | succ i => rfl
      rw [iLt_t (by omega), cond_true, l4, WS_eq, need_of (nCap_of (by simp only [bs_size, List.length_cons, List.length_nil]; omega)), bind_some']
      dsimp only
      obtain ⟨u', hu⟩ := T_l10 (W := W) (s1 := ((i : Int), u, b)) (K := fun s5 : Bool × ByteArray => need_Text_l2 W f (IntKind.i64.wrap ((i : Int) + 1), s5.1, s5.2)) (l := W.getD i default) (by rw [Int.toNat_natCast]) h1 h2 (W.getD i default).length 0 fuel true (b ++ bs [32, 124, 32]) (by omega) (by have := fuel_big; omega) (by simp only [bs_size, ByteArray.size_append, List.length_cons, List.length_nil]; omega)
      refine Eq.trans hu ?_
      dsimp only
      rw [w, T_l2 h6 hw n (i + 1) f u' _ (by omega) (by omega) (by simp only [bs_size, ByteArray.size_append, List.length_cons, List.length_nil, List.drop_zero, Nat.beq]; omega)]
      exact congrArg some (bl_inj (by simp [Nat.beq, hbq]))
theorem Text_eq {W : List (List T_api_Need)} (h6 : W.length ≤ 6) (hw : ∀ l ∈ W, l.length ≤ 6 ∧ ∀ x ∈ l, I64N x) : need_Text W = some (bs (textK true W)) := by
  unfold need_Text
  rw [show (0 : Int) = ((0 : Nat) : Int) from rfl, T_l2 h6 hw W.length 0 fuel false _ (by omega) (by have := fuel_big; omega) (by show 0 + _ ≤ _; omega)]
  exact congrArg some (bl_inj (by simp [Nat.beq]))
theorem R_l9 {W : List (List T_api_Need)} {s1 : ByteArray × Int} {K : ByteArray → Option ByteArray} {l : List T_api_Need} (hs : nIn s1.2 (W.length : Int) = true) (hl : W.getD s1.2.toNat default = l) (h6 : l.length ≤ 6) (hr : ∀ x ∈ l, I64N x) : ∀ (n i f : Nat) (b : ByteArray), i + n = l.length → n < f → b.size + 60 * n ≤ 100000 →
    ref09_Text_l9 W s1 K f (b, (i : Int)) = K (b ++ bs (textJ (Nat.beq i 0) (l.drop i)))
  | n, i, 0, b, hi, hf, hb => by omega
  | 0, i, f + 1, b, hi, hf, hb => by
    rw [ref09_Text_l9]
    dsimp only
    rw [need_of hs, hl, iLt_f (by omega), cond_false, List.drop_eq_nil_of_le (by omega)]
    congr 1
    apply bl_inj
    simp [textJ]
  | n + 1, i, f + 1, b, hi, hf, hb => by
    rw [ref09_Text_l9]
    dsimp only
    have hm : l.getD i default ∈ l := by
      rw [List.getD_eq_getElem?_getD, List.getElem?_eq_getElem (by omega)]
      exact List.getElem_mem _
    have hx := hr _ hm
    have hk : nIn (i : Int) (l.length : Int) = true := nIn_of ⟨by omega, by omega⟩
    rw [need_of hs, hl, iLt_t (by omega), cond_true, need_of hs, need_of hk, need_of hs, need_of hk, Int.toNat_natCast, getD_drop l i (by omega)]
    generalize l.getD i default = x at *
    have g1 := nameL_len x.Kind
    have g2 := itoaL_len x.Obj
    have g3 := itoaL_len x.N
    have g4 := textN_len x
    have w : IntKind.i64.wrap ((i : Int) + 1) = ((i + 1 : Nat) : Int) := by rw [w64 (by omega)]; omega
    obtain ⟨l1, l2, l3, _⟩ := lits
    have ih : ∀ b' : ByteArray, b'.size + 60 * n ≤ 100000 → ref09_Text_l9 W s1 K f (b', ((i + 1 : Nat) : Int)) = K (b' ++ bs (textJ false (l.drop (i + 1)))) := fun b' hb' => R_l9 hs hl h6 hr n (i + 1) f b' (by omega) (by omega) hb'
    rw [ref_Int hx.o, ref_Int hx.n, l1, l2, l3, w]
    simp only [bind_some']
    rw [textJ]
    unfold textN at *
    by_cases hkd : 1 ≤ x.Kind ∧ x.Kind ≤ 5
    · rw [show (iLt x.Kind 1 || iLt 5 x.Kind) = false by simp only [Bool.or_eq_false_iff, iLt_iff']; omega, cond_false, show ([(⟨#[110, 111, 110, 101]⟩ : ByteArray), (⟨#[108, 111, 99, 107]⟩ : ByteArray), (⟨#[114, 101, 97, 100]⟩ : ByteArray), (⟨#[119, 114, 105, 116, 101]⟩ : ByteArray), (⟨#[100, 111, 119, 110]⟩ : ByteArray), (⟨#[116, 97, 107, 101]⟩ : ByteArray)] : List ByteArray) = words from rfl, words_in hkd, nIn_of (show 0 ≤ x.Kind ∧ x.Kind < (words.length : Int) by constructor; omega; show x.Kind < 6; omega)]
      have hc : iLt 3 x.Kind = (iEq x.Kind 4 || iEq x.Kind 5) := by
        rw [Bool.eq_iff_iff, Bool.or_eq_true, iLt_iff, iEq_iff, iEq_iff]; omega
      rw [hc]
      by_cases h0 : i = 0
      · subst h0
        rw [iLt_f (by decide), cond_false, need_of rfl]
        cases hq : (iEq x.Kind 4 || iEq x.Kind 5) with
        | true =>
          rw [cond_true]
          iterate 5 rw [need_of (nStr_of (by simp only [bs_size, ByteArray.size_append, List.length_cons, List.length_nil]; omega))]
          rw [ih _ (by simp only [bs_size, ByteArray.size_append, List.length_cons, List.length_nil]; omega)]
          congr 1
          apply bl_inj
          simp [Nat.beq]
        | false =>
          rw [cond_false]
          iterate 3 rw [need_of (nStr_of (by simp only [bs_size, ByteArray.size_append, List.length_cons, List.length_nil]; omega))]
          rw [ih _ (by simp only [bs_size, ByteArray.size_append, List.length_cons, List.length_nil]; omega)]
          congr 1
          apply bl_inj
          simp [Nat.beq]
      · have hbq : Nat.beq i 0 = false := by cases i with
          | zero => exact absurd rfl h0
          | succ i => rfl
        rw [iLt_t (show (0 : Int) < (i : Int) by omega), cond_true, need_of (nStr_of (by simp only [bs_size, ByteArray.size_append, List.length_cons, List.length_nil]; omega)), need_of rfl]
        cases hq : (iEq x.Kind 4 || iEq x.Kind 5) with
        | true =>
          rw [cond_true]
          iterate 5 rw [need_of (nStr_of (by simp only [bs_size, ByteArray.size_append, List.length_cons, List.length_nil]; omega))]
          rw [ih _ (by simp only [bs_size, ByteArray.size_append, List.length_cons, List.length_nil]; omega)]
          congr 1
          apply bl_inj
          simp [hbq]
        | false =>
          rw [cond_false]
          iterate 3 rw [need_of (nStr_of (by simp only [bs_size, ByteArray.size_append, List.length_cons, List.length_nil]; omega))]
          rw [ih _ (by simp only [bs_size, ByteArray.size_append, List.length_cons, List.length_nil]; omega)]
          congr 1
          apply bl_inj
          simp [hbq]
    · rw [show (iLt x.Kind 1 || iLt 5 x.Kind) = true by rw [Bool.or_eq_true, iLt_iff, iLt_iff]; omega, cond_true, show ([(⟨#[110, 111, 110, 101]⟩ : ByteArray), (⟨#[108, 111, 99, 107]⟩ : ByteArray), (⟨#[114, 101, 97, 100]⟩ : ByteArray), (⟨#[119, 114, 105, 116, 101]⟩ : ByteArray), (⟨#[100, 111, 119, 110]⟩ : ByteArray), (⟨#[116, 97, 107, 101]⟩ : ByteArray)] : List ByteArray) = words from rfl, words_out hkd, nIn_of (show (0 : Int) ≤ 0 ∧ (0 : Int) < (words.length : Int) by decide)]
      have hq : (iEq x.Kind 4 || iEq x.Kind 5) = false := by rw [iEq_f (by omega), iEq_f (by omega)]; rfl
      rw [hq]
      by_cases h0 : i = 0
      · subst h0
        rw [iLt_f (by decide), cond_false, need_of rfl]
        iterate 3 rw [need_of (nStr_of (by simp only [bs_size, ByteArray.size_append, List.length_cons, List.length_nil]; omega))]
        rw [ih _ (by simp only [bs_size, ByteArray.size_append, List.length_cons, List.length_nil]; omega)]
        congr 1
        apply bl_inj
        simp [Nat.beq]
      · have hbq : Nat.beq i 0 = false := by cases i with
          | zero => exact absurd rfl h0
          | succ i => rfl
        rw [iLt_t (show (0 : Int) < (i : Int) by omega), cond_true, need_of (nStr_of (by simp only [bs_size, ByteArray.size_append, List.length_cons, List.length_nil]; omega)), need_of rfl]
        iterate 3 rw [need_of (nStr_of (by simp only [bs_size, ByteArray.size_append, List.length_cons, List.length_nil]; omega))]
        rw [ih _ (by simp only [bs_size, ByteArray.size_append, List.length_cons, List.length_nil]; omega)]
        congr 1
        apply bl_inj
        simp [hbq]
theorem R_l50 {W : List (List T_api_Need)} {s1 : ByteArray × Int} {K : ByteArray → Option ByteArray} {l : List T_api_Need} (hs : nIn s1.2 (W.length : Int) = true) (hl : W.getD s1.2.toNat default = l) (h6 : l.length ≤ 6) (hr : ∀ x ∈ l, I64N x) : ∀ (n i f : Nat) (b : ByteArray), i + n = l.length → n < f → b.size + 60 * n ≤ 100000 →
    ref09_Text_l50 W s1 K f (b, (i : Int)) = K (b ++ bs (textJ (Nat.beq i 0) (l.drop i)))
  | n, i, 0, b, hi, hf, hb => by omega
  | 0, i, f + 1, b, hi, hf, hb => by
    rw [ref09_Text_l50]
    dsimp only
    rw [need_of hs, hl, iLt_f (by omega), cond_false, List.drop_eq_nil_of_le (by omega)]
    congr 1
    apply bl_inj
    simp [textJ]
  | n + 1, i, f + 1, b, hi, hf, hb => by
    rw [ref09_Text_l50]
    dsimp only
    have hm : l.getD i default ∈ l := by
      rw [List.getD_eq_getElem?_getD, List.getElem?_eq_getElem (by omega)]
      exact List.getElem_mem _
    have hx := hr _ hm
    have hk : nIn (i : Int) (l.length : Int) = true := nIn_of ⟨by omega, by omega⟩
    rw [need_of hs, hl, iLt_t (by omega), cond_true, need_of hs, need_of hk, need_of hs, need_of hk, Int.toNat_natCast, getD_drop l i (by omega)]
    generalize l.getD i default = x at *
    have g1 := nameL_len x.Kind
    have g2 := itoaL_len x.Obj
    have g3 := itoaL_len x.N
    have g4 := textN_len x
    have w : IntKind.i64.wrap ((i : Int) + 1) = ((i + 1 : Nat) : Int) := by rw [w64 (by omega)]; omega
    obtain ⟨l1, l2, l3, _⟩ := lits
    have ih : ∀ b' : ByteArray, b'.size + 60 * n ≤ 100000 → ref09_Text_l50 W s1 K f (b', ((i + 1 : Nat) : Int)) = K (b' ++ bs (textJ false (l.drop (i + 1)))) := fun b' hb' => R_l50 hs hl h6 hr n (i + 1) f b' (by omega) (by omega) hb'
    rw [ref_Int hx.o, ref_Int hx.n, l1, l2, l3, w]
    simp only [bind_some']
    rw [textJ]
    unfold textN at *
    by_cases hkd : 1 ≤ x.Kind ∧ x.Kind ≤ 5
    · rw [show (iLt x.Kind 1 || iLt 5 x.Kind) = false by simp only [Bool.or_eq_false_iff, iLt_iff']; omega, cond_false, show ([(⟨#[110, 111, 110, 101]⟩ : ByteArray), (⟨#[108, 111, 99, 107]⟩ : ByteArray), (⟨#[114, 101, 97, 100]⟩ : ByteArray), (⟨#[119, 114, 105, 116, 101]⟩ : ByteArray), (⟨#[100, 111, 119, 110]⟩ : ByteArray), (⟨#[116, 97, 107, 101]⟩ : ByteArray)] : List ByteArray) = words from rfl, words_in hkd, nIn_of (show 0 ≤ x.Kind ∧ x.Kind < (words.length : Int) by constructor; omega; show x.Kind < 6; omega)]
      have hc : iLt 3 x.Kind = (iEq x.Kind 4 || iEq x.Kind 5) := by
        rw [Bool.eq_iff_iff, Bool.or_eq_true, iLt_iff, iEq_iff, iEq_iff]; omega
      rw [hc]
      by_cases h0 : i = 0
      · subst h0
        rw [iLt_f (by decide), cond_false, need_of rfl]
        cases hq : (iEq x.Kind 4 || iEq x.Kind 5) with
        | true =>
          rw [cond_true]
          iterate 5 rw [need_of (nStr_of (by simp only [bs_size, ByteArray.size_append, List.length_cons, List.length_nil]; omega))]
          rw [ih _ (by simp only [bs_size, ByteArray.size_append, List.length_cons, List.length_nil]; omega)]
          congr 1
          apply bl_inj
          simp [Nat.beq]
        | false =>
          rw [cond_false]
          iterate 3 rw [need_of (nStr_of (by simp only [bs_size, ByteArray.size_append, List.length_cons, List.length_nil]; omega))]
          rw [ih _ (by simp only [bs_size, ByteArray.size_append, List.length_cons, List.length_nil]; omega)]
          congr 1
          apply bl_inj
          simp [Nat.beq]
      · have hbq : Nat.beq i 0 = false := by cases i with
          | zero => exact absurd rfl h0
          | succ i => rfl
        rw [iLt_t (show (0 : Int) < (i : Int) by omega), cond_true, need_of (nStr_of (by simp only [bs_size, ByteArray.size_append, List.length_cons, List.length_nil]; omega)), need_of rfl]
        cases hq : (iEq x.Kind 4 || iEq x.Kind 5) with
        | true =>
          rw [cond_true]
          iterate 5 rw [need_of (nStr_of (by simp only [bs_size, ByteArray.size_append, List.length_cons, List.length_nil]; omega))]
          rw [ih _ (by simp only [bs_size, ByteArray.size_append, List.length_cons, List.length_nil]; omega)]
          congr 1
          apply bl_inj
          simp [hbq]
        | false =>
          rw [cond_false]
          iterate 3 rw [need_of (nStr_of (by simp only [bs_size, ByteArray.size_append, List.length_cons, List.length_nil]; omega))]
          rw [ih _ (by simp only [bs_size, ByteArray.size_append, List.length_cons, List.length_nil]; omega)]
          congr 1
          apply bl_inj
          simp [hbq]
    · rw [show (iLt x.Kind 1 || iLt 5 x.Kind) = true by rw [Bool.or_eq_true, iLt_iff, iLt_iff]; omega, cond_true, show ([(⟨#[110, 111, 110, 101]⟩ : ByteArray), (⟨#[108, 111, 99, 107]⟩ : ByteArray), (⟨#[114, 101, 97, 100]⟩ : ByteArray), (⟨#[119, 114, 105, 116, 101]⟩ : ByteArray), (⟨#[100, 111, 119, 110]⟩ : ByteArray), (⟨#[116, 97, 107, 101]⟩ : ByteArray)] : List ByteArray) = words from rfl, words_out hkd, nIn_of (show (0 : Int) ≤ 0 ∧ (0 : Int) < (words.length : Int) by decide)]
      have hq : (iEq x.Kind 4 || iEq x.Kind 5) = false := by rw [iEq_f (by omega), iEq_f (by omega)]; rfl
      rw [hq]
      by_cases h0 : i = 0
      · subst h0
        rw [iLt_f (by decide), cond_false, need_of rfl]
        iterate 3 rw [need_of (nStr_of (by simp only [bs_size, ByteArray.size_append, List.length_cons, List.length_nil]; omega))]
        rw [ih _ (by simp only [bs_size, ByteArray.size_append, List.length_cons, List.length_nil]; omega)]
        congr 1
        apply bl_inj
        simp [Nat.beq]
      · have hbq : Nat.beq i 0 = false := by cases i with
          | zero => exact absurd rfl h0
          | succ i => rfl
        rw [iLt_t (show (0 : Int) < (i : Int) by omega), cond_true, need_of (nStr_of (by simp only [bs_size, ByteArray.size_append, List.length_cons, List.length_nil]; omega)), need_of rfl]
        iterate 3 rw [need_of (nStr_of (by simp only [bs_size, ByteArray.size_append, List.length_cons, List.length_nil]; omega))]
        rw [ih _ (by simp only [bs_size, ByteArray.size_append, List.length_cons, List.length_nil]; omega)]
        congr 1
        apply bl_inj
        simp [hbq]
theorem R_l2 {W : List (List T_api_Need)} (h6 : W.length ≤ 6) (hw : ∀ l ∈ W, l.length ≤ 6 ∧ ∀ x ∈ l, I64N x) : ∀ (n i f : Nat) (b : ByteArray), i + n = W.length → n < f → b.size + 500 * n ≤ 50000 →
    ref09_Text_l2 W f (b, (i : Int)) = some (b ++ bs (textK (Nat.beq i 0) (W.drop i)))
  | n, i, 0, b, hi, hf, hb => by omega
  | 0, i, f + 1, b, hi, hf, hb => by
    rw [ref09_Text_l2]
    dsimp only
    rw [iLt_f (by omega), cond_false, List.drop_eq_nil_of_le (by omega)]
    exact congrArg some (bl_inj (by simp [textK]))
  | n + 1, i, f + 1, b, hi, hf, hb => by
    have hm : W.getD i default ∈ W := by
      rw [List.getD_eq_getElem?_getD, List.getElem?_eq_getElem (by omega)]
      exact List.getElem_mem _
    obtain ⟨h1, h2⟩ := hw _ hm
    obtain ⟨_, _, _, l4⟩ := lits
    have hj := textJ_len (W.getD i default) true
    have hN : nIn (i : Int) (W.length : Int) = true := nIn_of ⟨by omega, by omega⟩
    rw [ref09_Text_l2]
    dsimp only
    rw [iLt_t (by omega), cond_true, withK_eq, getD_drop W i (by omega), textK]
    have w : IntKind.i64.wrap ((i : Int) + 1) = ((i + 1 : Nat) : Int) := by rw [w64 (by omega)]; omega
    by_cases h0 : i = 0
    · subst h0
      rw [iLt_f (by decide), cond_false]
      have hu := R_l50 (W := W) (s1 := (b, ((0 : Nat) : Int))) (K := fun s5 : ByteArray => ref09_Text_l2 W f (s5, IntKind.i64.wrap (((0 : Nat) : Int) + 1))) (l := W.getD 0 default) hN rfl h1 h2 (W.getD 0 default).length 0 fuel b (by omega) (by have := fuel_big; omega) (by omega)
      refine Eq.trans hu ?_
      rw [w, R_l2 h6 hw n (0 + 1) f _ (by omega) (by omega) (by simp only [bs_size, ByteArray.size_append, List.drop_zero, Nat.beq]; omega)]
      exact congrArg some (bl_inj (by simp [Nat.beq]))
    · have hbq : Nat.beq i 0 = false := by cases i with
        | zero => exact absurd rfl h0
        | succ i => rfl
      rw [iLt_t (by omega), cond_true, l4, need_of (nStr_of (by simp only [bs_size, List.length_cons, List.length_nil]; omega))]
      have hu := R_l9 (W := W) (s1 := (b, (i : Int))) (K := fun s5 : ByteArray => ref09_Text_l2 W f (s5, IntKind.i64.wrap ((i : Int) + 1))) (l := W.getD i default) hN (by rw [Int.toNat_natCast]) h1 h2 (W.getD i default).length 0 fuel (b ++ bs [32, 124, 32]) (by omega) (by have := fuel_big; omega) (by simp only [bs_size, ByteArray.size_append, List.length_cons, List.length_nil]; omega)
      refine Eq.trans hu ?_
      rw [w, R_l2 h6 hw n (i + 1) f _ (by omega) (by omega) (by simp only [bs_size, ByteArray.size_append, List.length_cons, List.length_nil, List.drop_zero, Nat.beq]; omega)]
      exact congrArg some (bl_inj (by simp [Nat.beq, hbq]))
theorem rText_eq {W : List (List T_api_Need)} (h6 : W.length ≤ 6) (hw : ∀ l ∈ W, l.length ≤ 6 ∧ ∀ x ∈ l, I64N x) : ref09_Text W = some (bs (textK true W)) := by
  unfold ref09_Text
  rw [show (0 : Int) = ((0 : Nat) : Int) from rfl, R_l2 h6 hw W.length 0 fuel _ (by omega) (by have := fuel_big; omega) (by show 0 + _ ≤ _; omega)]
  exact congrArg some (bl_inj (by simp [Nat.beq]))
/-! ### Objects -/
def objN (k : Int) : Nat → List T_api_Need → Nat
  | s, [] => s
  | s, x :: t => objN k (cond (iEq x.Kind k) (withN s x.Obj) s) t
def objW (k : Int) : Nat → List (List T_api_Need) → Nat
  | s, [] => s
  | s, l :: t => objW k (objN k s l) t
theorem objN_lt (k : Int) : ∀ (l : List T_api_Need) (s : Nat), s < 18446744073709551616 → objN k s l < 18446744073709551616
  | [], s, h => h
  | x :: t, s, h => by
    rw [objN]
    refine objN_lt k t _ ?_
    cases iEq x.Kind k with
    | true => exact withN_lt h _
    | false => exact h
theorem O_l8 {W : List (List T_api_Need)} {k : Int} {s1 : Int × Int} {K : Int → Option Int} {l : List T_api_Need} (hl : W.getD s1.2.toNat default = l) (h6 : l.length ≤ 6) : ∀ (n i f s : Nat), i + n = l.length → n < f → s < 18446744073709551616 →
    need_Objects_l8 W k s1 K f ((s : Int), (i : Int)) = K ((objN k s (l.drop i) : Nat) : Int)
  | n, i, 0, s, hi, hf, hs => by omega
  | 0, i, f + 1, s, hi, hf, hs => by
    rw [need_Objects_l8]
    dsimp only
    rw [hl, iLt_f (by omega), cond_false, List.drop_eq_nil_of_le (by omega)]
    rfl
  | n + 1, i, f + 1, s, hi, hf, hs => by
    rw [need_Objects_l8]
    dsimp only
    rw [hl, iLt_t (by omega), cond_true, need_of (nIn_of ⟨by omega, by omega⟩), Int.toNat_natCast, getD_drop l i (by omega), objN, w64 (by omega), show (i : Int) + 1 = ((i + 1 : Nat) : Int) by omega]
    cases hc : iEq (l.getD i default).Kind k with
    | true => rw [cond_true, cond_true, SWith_eq hs, bind_some', O_l8 hl h6 n (i + 1) f _ (by omega) (by omega) (withN_lt hs _)]
    | false => rw [cond_false, cond_false, O_l8 hl h6 n (i + 1) f _ (by omega) (by omega) hs]
theorem O_l2 {W : List (List T_api_Need)} {k : Int} (h6 : W.length ≤ 6) (hw : ∀ l ∈ W, l.length ≤ 6) : ∀ (n i f s : Nat), i + n = W.length → n < f → s < 18446744073709551616 →
    need_Objects_l2 W k f ((s : Int), (i : Int)) = some ((objW k s (W.drop i) : Nat) : Int)
  | n, i, 0, s, hi, hf, hs => by omega
  | 0, i, f + 1, s, hi, hf, hs => by
    rw [need_Objects_l2]
    dsimp only
    rw [iLt_f (by omega), cond_false, List.drop_eq_nil_of_le (by omega)]
    rfl
  | n + 1, i, f + 1, s, hi, hf, hs => by
    have hm : W.getD i default ∈ W := by
      rw [List.getD_eq_getElem?_getD, List.getElem?_eq_getElem (by omega)]
      exact List.getElem_mem _
    rw [need_Objects_l2]
    dsimp only
    rw [iLt_t (by omega), cond_true, withK_eq, need_of (nIn_of ⟨by omega, by omega⟩), getD_drop W i (by omega), objW]
    have := O_l8 (W := W) (k := k) (s1 := ((s : Int), (i : Int))) (K := fun s5 : Int => need_Objects_l2 W k f (s5, IntKind.i64.wrap ((i : Int) + 1))) (l := W.getD i default) (by rw [Int.toNat_natCast]) (hw _ hm) (W.getD i default).length 0 fuel s (by omega) (by have := fuel_big; have := hw _ hm; omega) hs
    refine Eq.trans this ?_
    rw [List.drop_zero, w64 (by omega), show (i : Int) + 1 = ((i + 1 : Nat) : Int) by omega, O_l2 h6 hw n (i + 1) f _ (by omega) (by omega) (objN_lt k _ _ hs)]
theorem P_l7 {W : List (List T_api_Need)} {k : Int} {s1 : Int × Int} {K : Int → Option Int} {l : List T_api_Need} (hs1 : nIn s1.2 (W.length : Int) = true) (hl : W.getD s1.2.toNat default = l) (h6 : l.length ≤ 6) : ∀ (n i f s : Nat), i + n = l.length → n < f → s < 18446744073709551616 →
    ref09_Objects_l7 W k s1 K f ((s : Int), (i : Int)) = K ((objN k s (l.drop i) : Nat) : Int)
  | n, i, 0, s, hi, hf, hs => by omega
  | 0, i, f + 1, s, hi, hf, hs => by
    rw [ref09_Objects_l7]
    dsimp only
    rw [need_of hs1, hl, iLt_f (by omega), cond_false, List.drop_eq_nil_of_le (by omega)]
    rfl
  | n + 1, i, f + 1, s, hi, hf, hs => by
    have hk : nIn (i : Int) (l.length : Int) = true := nIn_of ⟨by omega, by omega⟩
    rw [ref09_Objects_l7]
    dsimp only
    rw [need_of hs1, hl, iLt_t (by omega), cond_true, need_of hs1, need_of hk, need_of hs1, need_of hk, Int.toNat_natCast, getD_drop l i (by omega), objN, w64 (by omega), show (i : Int) + 1 = ((i + 1 : Nat) : Int) by omega]
    cases hc : iEq (l.getD i default).Kind k with
    | true => rw [cond_true, cond_true, ref_With hs, bind_some', P_l7 hs1 hl h6 n (i + 1) f _ (by omega) (by omega) (withN_lt hs _)]
    | false => rw [cond_false, cond_false, P_l7 hs1 hl h6 n (i + 1) f _ (by omega) (by omega) hs]
theorem P_l2 {W : List (List T_api_Need)} {k : Int} (h6 : W.length ≤ 6) (hw : ∀ l ∈ W, l.length ≤ 6) : ∀ (n i f s : Nat), i + n = W.length → n < f → s < 18446744073709551616 →
    ref09_Objects_l2 W k f ((s : Int), (i : Int)) = some ((objW k s (W.drop i) : Nat) : Int)
  | n, i, 0, s, hi, hf, hs => by omega
  | 0, i, f + 1, s, hi, hf, hs => by
    rw [ref09_Objects_l2]
    dsimp only
    rw [iLt_f (by omega), cond_false, List.drop_eq_nil_of_le (by omega)]
    rfl
  | n + 1, i, f + 1, s, hi, hf, hs => by
    have hm : W.getD i default ∈ W := by
      rw [List.getD_eq_getElem?_getD, List.getElem?_eq_getElem (by omega)]
      exact List.getElem_mem _
    have hN : nIn (i : Int) (W.length : Int) = true := nIn_of ⟨by omega, by omega⟩
    rw [ref09_Objects_l2]
    dsimp only
    rw [iLt_t (by omega), cond_true, withK_eq, getD_drop W i (by omega), objW]
    have := P_l7 (W := W) (k := k) (s1 := ((s : Int), (i : Int))) (K := fun s5 : Int => ref09_Objects_l2 W k f (s5, IntKind.i64.wrap ((i : Int) + 1))) (l := W.getD i default) hN (by rw [Int.toNat_natCast]) (hw _ hm) (W.getD i default).length 0 fuel s (by omega) (by have := fuel_big; have := hw _ hm; omega) hs
    refine Eq.trans this ?_
    rw [List.drop_zero, w64 (by omega), show (i : Int) + 1 = ((i + 1 : Nat) : Int) by omega, P_l2 h6 hw n (i + 1) f _ (by omega) (by omega) (objN_lt k _ _ hs)]
theorem NeedTexts_pure {W : List (List T_api_Need)} (hw : ∀ l ∈ W, ∀ x ∈ l, I64N x) (k : Int) : law09_NeedTexts W k = some true := by
  have h6 : (ownW W).length ≤ 6 := by unfold ownW; rw [List.length_map, List.length_take]; omega
  have h6' : ∀ l ∈ ownW W, l.length ≤ 6 ∧ ∀ x ∈ l, I64N x := fun l hl => by
    unfold ownW at hl
    obtain ⟨l', h1, rfl⟩ := List.mem_map.1 hl
    refine ⟨by rw [List.length_take]; omega, fun x hx => hw l' (List.mem_of_mem_take h1) x (List.mem_of_mem_take hx)⟩
  have ho : need_Objects (ownW W) k = some ((objW k 0 (ownW W) : Nat) : Int) := by
    unfold need_Objects
    have := O_l2 (k := k) h6 (fun l hl => (h6' l hl).1) (ownW W).length 0 fuel 0 (by omega) (by have := fuel_big; omega) (by decide)
    rwa [List.drop_zero] at this
  have hp : ref09_Objects (ownW W) k = some ((objW k 0 (ownW W) : Nat) : Int) := by
    unfold ref09_Objects
    have := P_l2 (k := k) h6 (fun l hl => (h6' l hl).1) (ownW W).length 0 fuel 0 (by omega) (by have := fuel_big; omega) (by decide)
    rwa [List.drop_zero] at this
  unfold law09_NeedTexts
  rw [own09, bind_some', own09, own_own, bind_some', Text_eq h6 h6', bind_some', rText_eq h6 h6', bind_some', sEq_t rfl, cond_true, bind_some', cond_true, ho, bind_some', cond_true, hp, bind_some', iEq_t rfl, Bool.and_self, cond_true, lives09]
  rfl
end LJ
