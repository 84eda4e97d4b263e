/- Plain laws of instructions: what is wrong with one, and its bytes. -/
import Derived.Test.YtmofmaipkmedlaaDoorO6A
import Derived.Test.YtmofmaipkmedlaaDoorW3
import Derived.Test.YtmofmaipkmedlaaDoorOPC
namespace LJ
open Go Go.RowKit
set_option linter.unusedVariables false
set_option linter.unusedSimpArgs false

theorem form_small : ∀ k : Fin 52, (opForms.getD k default).size ≤ 2 := by decide +kernel
theorem formL_size (k : Int) : (formL k).size ≤ 2 := by
  unfold formL
  cases h : opK k with
  | false => simp
  | true =>
    have hk := opK_iff.1 h
    exact form_small ⟨k.toNat, by omega⟩
theorem ref06_Forms_eq : ref06_Forms = some opForms := rfl
theorem ref06_Form_eq (k : Int) : ref06_Form k = some (formL k) := by
  unfold ref06_Form formL
  rw [ref06_Known_eq, bind_some', ref06_Forms_eq, bind_some']
  cases h : opK k with
  | false => rfl
  | true =>
    have := opK_iff.1 h
    rw [Bool.not_true, cond_false, cond_true, need_of (nIn_of (by rw [opForms_len]; omega))]

/-- Is an operand in the range of its letter? -/
def inL (c n : Int) : Bool :=
  cond (iEq c 110) (fitW n) (cond (iEq c 107) (iLe 0 n && iLt n 8) (cond (iEq c 116) (iLe 0 n && iLt n 200) (cond (iEq c 102) (iLe 0 n && iLt n 16) (cond (iEq c 106) (iLe 1 n && iLe n 4) (iLe 0 n && iLt n 32)))))
theorem ins_in_eq (c n : Int) : ins_in c n = some (inL c n) := by
  unfold ins_in inL
  rw [word_Fits_eq, bind_some']
  simp only [cond_some]
  congr 1
  by_cases h : c = 119
  · subst h; rfl
  · rw [iEq_f h]; rfl
def mostL (c : Int) : Int := cond (iEq c 107) 7 (cond (iEq c 116) 199 (cond (iEq c 102) 15 (cond (iEq c 106) 4 31)))
def leastL (c : Int) : Int := cond (iEq c 106) 1 0
theorem most_eq (c : Int) : ref07_most c = some (mostL c) := by
  unfold ref07_most mostL
  simp only [cond_some]
theorem least_eq (c : Int) : ref07_least c = some (leastL c) := by
  unfold ref07_least leastL
  simp only [cond_some]
theorem inL_range (c n : Int) : inL c n = cond (iEq c 110) (fitW n) (!(iLt n (leastL c)) && !(iLt (mostL c) n)) := by
  have key : ∀ a b : Int, (!(iLt n a) && !(iLt b n)) = (iLe a n && iLt n (b + 1)) := fun a b => by
    rw [Bool.eq_iff_iff]
    simp only [Bool.and_eq_true, Bool.not_eq_true', iLt_iff', iLe_iff, iLt_iff]
    omega
  unfold inL leastL mostL
  cases iEq c 110 with
  | true => rfl
  | false =>
    rw [cond_false, cond_false]
    by_cases h1 : c = 107
    · subst h1; exact (key 0 7).symm
    · rw [iEq_f h1]
      by_cases h2 : c = 116
      · subst h2; exact (key 0 199).symm
      · rw [iEq_f h2]
        by_cases h3 : c = 102
        · subst h3; exact (key 0 15).symm
        · rw [iEq_f h3]
          by_cases h4 : c = 106
          · subst h4
            rw [iEq_t rfl]
            simp only [cond_true, cond_false]
            rw [key 1 4, Bool.eq_iff_iff]
            simp only [Bool.and_eq_true, iLe_iff, iLt_iff]
            omega
          · rw [iEq_f h4]; exact (key 0 31).symm
theorem inL_rng {c n : Int} (h : inL c n = true) : -2147483648 ≤ n ∧ n < 2147483648 ∧ (c ≠ 110 → 0 ≤ n) := by
  rw [inL_range] at h
  by_cases hc : c = 110
  · rw [iEq_t hc, cond_true] at h
    unfold fitW at h
    simp only [Bool.and_eq_true, iLe_iff, iLt_iff] at h
    exact ⟨h.1, h.2, fun h' => absurd hc h'⟩
  · rw [iEq_f hc, cond_false] at h
    simp only [Bool.and_eq_true, Bool.not_eq_true', iLt_iff'] at h
    have h1 : 0 ≤ leastL c ∧ mostL c ≤ 199 := by
      unfold leastL mostL
      cases iEq c 107 <;> cases iEq c 116 <;> cases iEq c 102 <;> cases iEq c 106 <;> simp only [cond_true, cond_false] <;> omega
    exact ⟨by omega, by omega, fun _ => by omega⟩

/-! ### What is wrong -/
def okF (f : ByteArray) (A B : Int) : Bool := (iLe (f.size : Int) 0 || inL (byteAt f 0) A) && (iLe (f.size : Int) 1 || inL (byteAt f 1) B)
def zF (f : ByteArray) (A B : Int) : Bool := (iLt 0 (f.size : Int) || iEq A 0) && (iLt 1 (f.size : Int) || iEq B 0)
def jjF (f : ByteArray) (A B : Int) : Bool := sEq f (⟨#[106, 106]⟩ : ByteArray) && iLt B A
def chkF (f : ByteArray) (A B : Int) : Int := cond (okF f A B) (cond (jjF f A B) 1 (cond (zF f A B) 0 2)) 1
def chkI (x : T_api_Ins) : Int := cond (opK x.Op) (chkF (formL x.Op) x.A x.B) 6
theorem size3 {f : ByteArray} (hf : f.size ≤ 2) : f.size = 0 ∨ f.size = 1 ∨ f.size = 2 := by omega
theorem fuel3 : ∃ F, fuel = F + 1 + 1 + 1 := ⟨fuel - 3, by have := fuel_big; omega⟩
theorem l13_step {x : T_api_Ins} {f : ByteArray} {F i : Nat} (hi : i + f.size < 2) : ins_Check_l13 x f (F + 1) (i : Int) = cond (iNe ([x.A, x.B].getD (f.size + i) default) 0) (some 2) (ins_Check_l13 x f F ((i + 1 : Nat) : Int)) := by
  rw [ins_Check_l13, iLt_t (by omega), cond_true, need_of (nNn_of (by omega)), need_of (nIn_of (by omega)), need_of (nIn_of (by omega)), w64 (by omega), show ((f.size : Int) + (i : Int)).toNat = f.size + i by omega, show (i : Int) + 1 = ((i + 1 : Nat) : Int) by omega]
theorem l13_end {x : T_api_Ins} {f : ByteArray} {F i : Nat} (hi : ¬ i + f.size < 2) : ins_Check_l13 x f (F + 1) (i : Int) = some 0 := by
  rw [ins_Check_l13, iLt_f (by omega), cond_false]
theorem ne_eq (a b : Int) : iNe a b = !iEq a b := by unfold iNe iEq; simp
theorem zF_l13 (x : T_api_Ins) {f : ByteArray} (hf : f.size ≤ 2) : ins_Check_l13 x f fuel 0 = some (cond (zF f x.A x.B) 0 2) := by
  obtain ⟨F, hF⟩ := fuel3
  rw [hF, show (0 : Int) = ((0 : Nat) : Int) from rfl]
  unfold zF
  rcases size3 hf with h | h | h
  · rw [l13_step (by omega), l13_step (by omega), l13_end (by omega), h, ne_eq, ne_eq]
    show cond (!iEq x.A 0) (some 2) (cond (!iEq x.B 0) (some 2) (some 0)) = _
    cases iEq x.A 0 <;> cases iEq x.B 0 <;> rfl
  · rw [l13_step (by omega), l13_end (by omega), h, ne_eq]
    show cond (!iEq x.B 0) (some 2) (some 0) = _
    cases iEq x.B 0 <;> rfl
  · rw [l13_end (by omega), h]
    rfl
theorem l33_step {x : T_api_Ins} {F i : Nat} (hi : i < 2) : ref07_Check_l33 x (F + 1) (i : Int) = cond (iNe ([x.A, x.B].getD i default) 0) (some 2) (ref07_Check_l33 x F ((i + 1 : Nat) : Int)) := by
  rw [ref07_Check_l33, iLt_t (by omega), cond_true, need_of (nIn_of ⟨by omega, by simp only [List.length_cons, List.length_nil]; omega⟩), w64 (by omega), Int.toNat_natCast, show (i : Int) + 1 = ((i + 1 : Nat) : Int) by omega]
theorem l33_end {x : T_api_Ins} {F i : Nat} (hi : ¬ i < 2) : ref07_Check_l33 x (F + 1) (i : Int) = some 0 := by
  rw [ref07_Check_l33, iLt_f (by omega), cond_false]
theorem zF_l33 (x : T_api_Ins) {f : ByteArray} (hf : f.size ≤ 2) : ref07_Check_l33 x fuel (f.size : Int) = some (cond (zF f x.A x.B) 0 2) := by
  obtain ⟨F, hF⟩ := fuel3
  rw [hF]
  unfold zF
  rcases size3 hf with h | h | h
  · rw [h, l33_step (by omega), l33_step (by omega), l33_end (by omega), ne_eq, ne_eq]
    show cond (!iEq x.A 0) (some 2) (cond (!iEq x.B 0) (some 2) (some 0)) = _
    cases iEq x.A 0 <;> cases iEq x.B 0 <;> rfl
  · rw [h, l33_step (by omega), l33_end (by omega), ne_eq]
    show cond (!iEq x.B 0) (some 2) (some 0) = _
    cases iEq x.B 0 <;> rfl
  · rw [h, l33_end (by omega)]
    rfl
theorem l4_step {x : T_api_Ins} {f : ByteArray} {F i : Nat} (hi : i < f.size) (hf : f.size ≤ 2) : ins_Check_l4 x f (F + 1) (i : Int) = cond (inL (byteAt f i) ([x.A, x.B].getD i default)) (ins_Check_l4 x f F ((i + 1 : Nat) : Int)) (some 1) := by
  rw [ins_Check_l4, iLt_t (by omega), cond_true, need_of (nIn_of (by omega)), need_of (nIn_of (by omega)), Int.toNat_natCast, ins_in_eq, bind_some', cond_not, w64 (by omega), show (i : Int) + 1 = ((i + 1 : Nat) : Int) by omega]
theorem l4_end {x : T_api_Ins} {f : ByteArray} {F i : Nat} (hi : ¬ i < f.size) (hf : f.size ≤ 2) : ins_Check_l4 x f (F + 1) (i : Int) = some (cond (jjF f x.A x.B) 1 (cond (zF f x.A x.B) 0 2)) := by
  rw [ins_Check_l4, iLt_f (by omega), cond_false, need_of (nSl_of (by omega)), zF_l13 x hf]
  unfold jjF
  simp only [cond_some]
theorem r4_step {x : T_api_Ins} {f : ByteArray} {F i : Nat} (hi : i < f.size) (hf : f.size ≤ 2) : ref07_Check_l4 x f (F + 1) (i : Int) = cond (inL (byteAt f i) ([x.A, x.B].getD i default)) (ref07_Check_l4 x f F ((i + 1 : Nat) : Int)) (some 1) := by
  have h2 : nIn (i : Int) (([x.A, x.B] : List Int).length : Int) = true := nIn_of ⟨by omega, by simp only [List.length_cons, List.length_nil]; omega⟩
  have h1 : nIn (i : Int) (f.size : Int) = true := nIn_of (by omega)
  rw [ref07_Check_l4, iLt_t (by omega), cond_true, h1, h2, ref03_Fits_eq, least_eq, most_eq, inL_range, w64 (by omega), Int.toNat_natCast, show (i : Int) + 1 = ((i + 1 : Nat) : Int) by omega]
  simp only [need_of, bind_some', cond_not, ne_eq]
  generalize byteAt f i = c
  generalize ([x.A, x.B].getD i default) = v
  cases iEq c 110 with
  | true => simp only [cond_true, cond_false]
  | false =>
    simp only [cond_true, cond_false]
    cases iLt v (leastL c) <;> cases iLt (mostL c) v <;> rfl
theorem r4_end {x : T_api_Ins} {f : ByteArray} {F i : Nat} (hi : ¬ i < f.size) (hf : f.size ≤ 2) : ref07_Check_l4 x f (F + 1) (i : Int) = some (cond (jjF f x.A x.B) 1 (cond (zF f x.A x.B) 0 2)) := by
  rw [ref07_Check_l4, iLt_f (by omega), cond_false, zF_l33 x hf]
  unfold jjF
  simp only [cond_some]
theorem chkF_of {x : T_api_Ins} {f : ByteArray} (hf : f.size ≤ 2) (g : Nat → Int → Option Int) (hs : ∀ F i : Nat, i < f.size → g (F + 1) (i : Int) = cond (inL (byteAt f i) ([x.A, x.B].getD i default)) (g F ((i + 1 : Nat) : Int)) (some 1)) (he : ∀ F i : Nat, ¬ i < f.size → g (F + 1) (i : Int) = some (cond (jjF f x.A x.B) 1 (cond (zF f x.A x.B) 0 2))) : g fuel 0 = some (chkF f x.A x.B) := by
  obtain ⟨F, hF⟩ := fuel3
  rw [hF, show (0 : Int) = ((0 : Nat) : Int) from rfl]
  unfold chkF okF
  rcases size3 hf with h | h | h
  · rw [he _ _ (by omega), h]; rfl
  · rw [hs _ _ (by omega), he _ _ (by omega), h]
    show cond (inL (byteAt f 0) x.A) _ _ = _
    cases inL (byteAt f 0) x.A <;> rfl
  · rw [hs _ _ (by omega), hs _ _ (by omega), he _ _ (by omega), h]
    show cond (inL (byteAt f 0) x.A) (cond (inL (byteAt f 1) x.B) _ _) _ = _
    cases inL (byteAt f 0) x.A <;> cases inL (byteAt f 1) x.B <;> rfl
theorem ins_Check_eq (x : T_api_Ins) : ins_Check x = some (chkI x) := by
  unfold ins_Check chkI
  rw [op_Name_eq, bind_some', nameL_empty, op_Form_eq, bind_some', cond_not]
  have hf := formL_size x.Op
  rw [chkF_of hf (ins_Check_l4 x (formL x.Op)) (fun F i hi => l4_step hi hf) (fun F i hi => l4_end hi hf), cond_some]
theorem ref07_Check_eq (x : T_api_Ins) : ref07_Check x = some (chkI x) := by
  unfold ref07_Check chkI
  rw [ref06_Known_eq, bind_some', ref06_Form_eq, bind_some', cond_not]
  have hf := formL_size x.Op
  rw [chkF_of hf (ref07_Check_l4 x (formL x.Op)) (fun F i hi => r4_step hi hf) (fun F i hi => r4_end hi hf), cond_some]
/-- What an instruction that may be is like. -/
structure OkI (x : T_api_Ins) : Prop where
  op : 0 ≤ x.Op ∧ x.Op < 52
  a1 : 0 < (formL x.Op).size → inL (byteAt (formL x.Op) 0) x.A = true
  b1 : 1 < (formL x.Op).size → inL (byteAt (formL x.Op) 1) x.B = true
  a0 : (formL x.Op).size = 0 → x.A = 0
  b0 : (formL x.Op).size ≤ 1 → x.B = 0
theorem chkI_ok {x : T_api_Ins} (h : chkI x = 0) : OkI x := by
  unfold chkI at h
  cases hk : opK x.Op with
  | false => rw [hk] at h; cases h
  | true =>
    rw [hk, cond_true] at h
    unfold chkF at h
    cases h1 : okF (formL x.Op) x.A x.B with
    | false => rw [h1] at h; cases h
    | true =>
      rw [h1, cond_true] at h
      cases h2 : jjF (formL x.Op) x.A x.B with
      | true => rw [h2] at h; cases h
      | false =>
        rw [h2, cond_false] at h
        cases h3 : zF (formL x.Op) x.A x.B with
        | false => rw [h3] at h; cases h
        | true =>
          unfold okF at h1
          unfold zF at h3
          simp only [Bool.and_eq_true, Bool.or_eq_true, iLe_iff, iLt_iff, iEq_iff] at h1 h3
          exact ⟨opK_iff.1 hk, fun hs => h1.1.resolve_left (by omega), fun hs => h1.2.resolve_left (by omega), fun hs => h3.1.resolve_left (by omega), fun hs => h3.2.resolve_left (by omega)⟩

/-! ### Bytes -/
def putA (c n : Int) : List UInt8 := cond (iEq c 110) (numL (zig n)) (numL n.toNat)
def putI (x : T_api_Ins) : List UInt8 := UInt8.ofNat x.Op.toNat :: (cond (iLt 0 ((formL x.Op).size : Int)) (putA (byteAt (formL x.Op) 0) x.A) [] ++ cond (iLt 1 ((formL x.Op).size : Int)) (putA (byteAt (formL x.Op) 1) x.B) [])
theorem putA_len {c n : Int} (h : inL c n = true) : (putA c n).length ≤ 10 := by
  obtain ⟨h1, h2, h3⟩ := inL_rng h
  unfold putA
  by_cases hc : c = 110
  · rw [iEq_t hc]; exact numL_len10 (zig_lt (by omega) (by omega))
  · have := h3 hc
    rw [iEq_f hc]; exact numL_len10 (by omega)
theorem putI_len {x : T_api_Ins} (h : OkI x) : (putI x).length ≤ 21 := by
  unfold putI
  rw [List.length_cons, List.length_append]
  have h1 : (cond (iLt 0 ((formL x.Op).size : Int)) (putA (byteAt (formL x.Op) 0) x.A) []).length ≤ 10 := by
    by_cases hs : 0 < (formL x.Op).size
    · rw [iLt_t (by omega)]; exact putA_len (h.a1 hs)
    · rw [iLt_f (by omega)]; simp
  have h2 : (cond (iLt 1 ((formL x.Op).size : Int)) (putA (byteAt (formL x.Op) 1) x.B) []).length ≤ 10 := by
    by_cases hs : 1 < (formL x.Op).size
    · rw [iLt_t (by omega)]; exact putA_len (h.b1 hs)
    · rw [iLt_f (by omega)]; simp
  omega
theorem put_step {x : T_api_Ins} {f : ByteArray} {F i : Nat} {b : ByteArray} (hi : i < f.size) (hf : f.size ≤ 2) (hin : inL (byteAt f i) ([x.A, x.B].getD i default) = true) (hb : b.size ≤ 1000) : ins_Put_l5 x f (F + 1) ((i : Int), b) = ins_Put_l5 x f F (((i + 1 : Nat) : Int), b ++ bs (putA (byteAt f i) ([x.A, x.B].getD i default))) := by
  have hl := putA_len hin
  obtain ⟨h1, h2, h3⟩ := inL_rng hin
  rw [ins_Put_l5]
  dsimp only
  rw [iLt_t (by omega), cond_true, need_of (nIn_of (by omega)), Int.toNat_natCast, need_of (nIn_of (by omega)), need_of (nIn_of (by omega)), w64 (by omega), show (i : Int) + 1 = ((i + 1 : Nat) : Int) by omega]
  generalize byteAt f i = c at *
  generalize ([x.A, x.B].getD i default) = v at *
  unfold putA at hl ⊢
  by_cases hc : c = 110
  · rw [iEq_t hc, cond_true] at hl ⊢
    rw [cond_true, Out_Int (by omega) (by omega) (by omega)]
    rfl
  · have := h3 hc
    rw [iEq_f hc, cond_false] at hl ⊢
    rw [cond_false, wu64 (by omega), Out_Num' this (by omega) (by omega)]
    rfl
theorem put_end {x : T_api_Ins} {f : ByteArray} {F i : Nat} {b : ByteArray} (hi : ¬ i < f.size) : ins_Put_l5 x f (F + 1) ((i : Int), b) = some (b, 0) := by
  rw [ins_Put_l5]
  dsimp only
  rw [iLt_f (by omega), cond_false]
  rfl
theorem ins_Put_ok {x : T_api_Ins} (h : chkI x = 0) : ins_Put x = some (bs (putI x), 0) := by
  have hx := chkI_ok h
  have hf := formL_size x.Op
  have ⟨hop, ha, hb, ha0, hb0⟩ := hx
  unfold ins_Put
  rw [ins_Check_eq, bind_some', iNe_f h, cond_false, op_Form_eq, bind_some', Out_Byte (by simp), bind_some']
  dsimp only
  obtain ⟨F, hF⟩ := fuel3
  rw [hF, show (0 : Int) = ((0 : Nat) : Int) from rfl, show (x.Op % 256).toNat = x.Op.toNat by omega]
  unfold putI
  generalize formL x.Op = f at *
  have s1 : (ByteArray.empty.push (UInt8.ofNat x.Op.toNat)).size = 1 := rfl
  rcases size3 hf with hs | hs | hs
  · rw [put_end (by omega), hs]
    exact congrArg (fun z => some (z, (0 : Int))) (bl_inj (by simp [iLt]))
  · rw [put_step (by omega) hf (ha (by omega)) (by rw [s1]; omega), put_end (by omega), hs]
    exact congrArg (fun z => some (z, (0 : Int))) (bl_inj (by simp [iLt]))
  · have hl := putA_len (ha (by omega))
    rw [put_step (by omega) hf (ha (by omega)) (by rw [s1]; omega), put_step (by omega) hf (hb (by omega)) (by rw [ByteArray.size_append, s1, bs_size]; exact (by omega : 1 + (putA (byteAt f 0) x.A).length ≤ 1000)), put_end (by omega), hs]
    exact congrArg (fun z => some (z, (0 : Int))) (bl_inj (by simp [iLt]))
theorem ins_Put_bad {x : T_api_Ins} (h : chkI x ≠ 0) : ins_Put x = some (ByteArray.empty, chkI x) := by
  unfold ins_Put
  rw [ins_Check_eq, bind_some', iNe_t h, cond_true]
theorem rput_step {x : T_api_Ins} {f : ByteArray} {F i : Nat} {b : ByteArray} (hi : i < f.size) (hf : f.size ≤ 2) (hin : inL (byteAt f i) ([x.A, x.B].getD i default) = true) (hb : b.size ≤ 1000) : ref07_Put_l3 x f (F + 1) (b, (i : Int)) = ref07_Put_l3 x f F (b ++ bs (putA (byteAt f i) ([x.A, x.B].getD i default)), ((i + 1 : Nat) : Int)) := by
  have hl := putA_len hin
  obtain ⟨h1, h2, h3⟩ := inL_rng hin
  have hn : nIn (i : Int) (([x.A, x.B] : List Int).length : Int) = true := nIn_of ⟨by omega, by simp only [List.length_cons, List.length_nil]; omega⟩
  rw [ref07_Put_l3]
  dsimp only
  rw [iLt_t (by omega), cond_true, need_of (nIn_of (by omega)), Int.toNat_natCast, need_of hn, need_of hn, w64 (by omega), show (i : Int) + 1 = ((i + 1 : Nat) : Int) by omega]
  generalize byteAt f i = c at *
  generalize ([x.A, x.B].getD i default) = v at *
  unfold putA at hl ⊢
  by_cases hc : c = 110
  · rw [iEq_t hc, cond_true] at hl ⊢
    rw [cond_true, refInt (by omega) (by omega), bind_some', bs_size, need_of (nStr_of (by omega))]
  · have := h3 hc
    rw [iEq_f hc, cond_false] at hl ⊢
    rw [cond_false, wu64 (by omega), refNum' this (by omega), bind_some', bs_size, need_of (nStr_of (by omega))]
theorem rput_end {x : T_api_Ins} {f : ByteArray} {F i : Nat} {b : ByteArray} (hi : ¬ i < f.size) : ref07_Put_l3 x f (F + 1) (b, (i : Int)) = some b := by
  rw [ref07_Put_l3]
  dsimp only
  rw [iLt_f (by omega), cond_false]
theorem ref07_Put_ok {x : T_api_Ins} (h : chkI x = 0) : ref07_Put x = some (bs (putI x)) := by
  have hx := chkI_ok h
  have hf := formL_size x.Op
  have ⟨hop, ha, hb, ha0, hb0⟩ := hx
  unfold ref07_Put
  rw [ref06_Form_eq, bind_some', wu8 (by omega), need_of (nIn_of (by omega))]
  obtain ⟨F, hF⟩ := fuel3
  rw [hF, show (0 : Int) = ((0 : Nat) : Int) from rfl]
  unfold putI
  generalize formL x.Op = f at *
  have s1 : (ByteArray.empty.push (UInt8.ofNat x.Op.toNat)).size = 1 := rfl
  rcases size3 hf with hs | hs | hs
  · rw [rput_end (by omega), hs]
    exact congrArg some (bl_inj (by simp [iLt]))
  · rw [rput_step (by omega) hf (ha (by omega)) (by rw [s1]; omega), rput_end (by omega), hs]
    exact congrArg some (bl_inj (by simp [iLt]))
  · have hl := putA_len (ha (by omega))
    rw [rput_step (by omega) hf (ha (by omega)) (by rw [s1]; omega), rput_step (by omega) hf (hb (by omega)) (by rw [ByteArray.size_append, s1, bs_size]; exact (by omega : 1 + (putA (byteAt f 0) x.A).length ≤ 1000)), rput_end (by omega), hs]
    exact congrArg some (bl_inj (by simp [iLt]))
end LJ
