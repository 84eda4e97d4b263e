/- Plain laws of instructions, as the document's checks tell them. -/
import Derived.Test.YtcnfbifekdmacaaPF
import Derived.Test.YtcnfbifekdmacaaXPB
namespace LJ
open Go Go.RowKit
set_option linter.unusedVariables false
set_option linter.unusedSimpArgs false

def opForms : List ByteArray := [(⟨#[110]⟩ : ByteArray), (⟨#[107]⟩ : ByteArray), (⟨#[107]⟩ : ByteArray), ByteArray.empty, ByteArray.empty, ByteArray.empty, ByteArray.empty, ByteArray.empty, ByteArray.empty, ByteArray.empty, ByteArray.empty, ByteArray.empty, ByteArray.empty, ByteArray.empty, ByteArray.empty, ByteArray.empty, ByteArray.empty, ByteArray.empty, (⟨#[116]⟩ : ByteArray), (⟨#[116]⟩ : ByteArray), (⟨#[102]⟩ : ByteArray), ByteArray.empty, ByteArray.empty, ByteArray.empty, ByteArray.empty, ByteArray.empty, (⟨#[119]⟩ : ByteArray), (⟨#[119]⟩ : ByteArray), ByteArray.empty, (⟨#[117]⟩ : ByteArray), (⟨#[115]⟩ : ByteArray), (⟨#[112]⟩ : ByteArray), (⟨#[99, 109]⟩ : ByteArray), (⟨#[99, 109]⟩ : ByteArray), (⟨#[99]⟩ : ByteArray), (⟨#[99]⟩ : ByteArray), (⟨#[98]⟩ : ByteArray), (⟨#[98]⟩ : ByteArray), (⟨#[98]⟩ : ByteArray), (⟨#[98]⟩ : ByteArray), (⟨#[102]⟩ : ByteArray), (⟨#[106, 106]⟩ : ByteArray), (⟨#[106, 106]⟩ : ByteArray), ByteArray.empty, ByteArray.empty, (⟨#[118]⟩ : ByteArray), (⟨#[118]⟩ : ByteArray), ByteArray.empty, ByteArray.empty, (⟨#[113]⟩ : ByteArray), (⟨#[109]⟩ : ByteArray), (⟨#[109]⟩ : ByteArray)]
theorem opForms_len : opForms.length = 52 := by decide
/-- Is there such an operation? -/
def opK (k : Int) : Bool := iLe 0 k && iLt k 52
theorem opK_iff {k : Int} : opK k = true ↔ 0 ≤ k ∧ k < 52 := by unfold opK; simp only [Bool.and_eq_true, iLe_iff, iLt_iff]
theorem opK_iff' {k : Int} : opK k = false ↔ ¬ (0 ≤ k ∧ k < 52) := by rw [← opK_iff]; simp
theorem op_known_eq (k : Int) : op_known k = some (opK k) := rfl
theorem ref06_Known_eq (k : Int) : ref06_Known k = some (opK k) := by
  unfold ref06_Known opK
  congr 1
  have : iLe k 51 = iLt k 52 := by unfold iLe iLt; congr 1; rw [eq_iff_iff]; omega
  rw [this]

def formL (k : Int) : ByteArray := cond (opK k) (opForms.getD k.toNat default) ByteArray.empty
theorem cond_some {α : Type} (b : Bool) (x y : α) : cond b (some x) (some y) = some (cond b x y) := by cases b <;> rfl

def fitW (a : Int) : Bool := iLe (-2147483648) a && iLt a 2147483648

theorem cond_not {α : Type} (b : Bool) (x y : α) : cond (!b) x y = cond b y x := by cases b <;> rfl
theorem ref03_Fits_eq (a : Int) : ref03_Fits a = some (fitW a) := rfl
theorem getD_drop {α : Type} [Inhabited α] (L : List α) (i : Nat) (h : i < L.length) : L.drop i = L.getD i default :: L.drop (i + 1) := by
  rw [List.drop_eq_getElem_cons h]
  simp [List.getD_eq_getElem?_getD, h]

theorem form_small : ∀ k : Fin 52, (opForms.getD k default).size ≤ 2 := by decide +kernel
theorem formL_size (k : Int) : (formL k).size ≤ 2 := by
  unfold formL
  cases h : opK k with
  | false => simp
  | true =>
    have hk := opK_iff.1 h
    exact form_small ⟨k.toNat, by omega⟩
theorem ref06_Forms_eq : ref06_Forms = some opForms := rfl
theorem ref06_Form_eq (k : Int) : ref06_Form k = some (formL k) := by
  unfold ref06_Form formL
  rw [ref06_Known_eq, bind_some', ref06_Forms_eq, bind_some']
  cases h : opK k with
  | false => rfl
  | true =>
    have := opK_iff.1 h
    rw [Bool.not_true, cond_false, cond_true, need_of (nIn_of (by rw [opForms_len]; omega))]


/-- Is an operand in the range of its letter? -/
def inL (c n : Int) : Bool :=
  cond (iEq c 110) (fitW n) (cond (iEq c 107) (iLe 0 n && iLt n 8) (cond (iEq c 116) (iLe 0 n && iLt n 200) (cond (iEq c 102) (iLe 0 n && iLt n 16) (cond (iEq c 106) (iLe 1 n && iLe n 4) (iLe 0 n && iLt n 32)))))

def mostL (c : Int) : Int := cond (iEq c 107) 7 (cond (iEq c 116) 199 (cond (iEq c 102) 15 (cond (iEq c 106) 4 31)))
def leastL (c : Int) : Int := cond (iEq c 106) 1 0
theorem most_eq (c : Int) : ref07_most c = some (mostL c) := by
  unfold ref07_most mostL
  simp only [cond_some]
theorem least_eq (c : Int) : ref07_least c = some (leastL c) := by
  unfold ref07_least leastL
  simp only [cond_some]
theorem inL_range (c n : Int) : inL c n = cond (iEq c 110) (fitW n) (!(iLt n (leastL c)) && !(iLt (mostL c) n)) := by
  have key : ∀ a b : Int, (!(iLt n a) && !(iLt b n)) = (iLe a n && iLt n (b + 1)) := fun a b => by
    rw [Bool.eq_iff_iff]
    simp only [Bool.and_eq_true, Bool.not_eq_true', iLt_iff', iLe_iff, iLt_iff]
    omega
  unfold inL leastL mostL
  cases iEq c 110 with
  | true => rfl
  | false =>
    rw [cond_false, cond_false]
    by_cases h1 : c = 107
    · subst h1; exact (key 0 7).symm
    · rw [iEq_f h1]
      by_cases h2 : c = 116
      · subst h2; exact (key 0 199).symm
      · rw [iEq_f h2]
        by_cases h3 : c = 102
        · subst h3; exact (key 0 15).symm
        · rw [iEq_f h3]
          by_cases h4 : c = 106
          · subst h4
            rw [iEq_t rfl]
            simp only [cond_true, cond_false]
            rw [key 1 4, Bool.eq_iff_iff]
            simp only [Bool.and_eq_true, iLe_iff, iLt_iff]
            omega
          · rw [iEq_f h4]; exact (key 0 31).symm
theorem inL_rng {c n : Int} (h : inL c n = true) : -2147483648 ≤ n ∧ n < 2147483648 ∧ (c ≠ 110 → 0 ≤ n) := by
  rw [inL_range] at h
  by_cases hc : c = 110
  · rw [iEq_t hc, cond_true] at h
    unfold fitW at h
    simp only [Bool.and_eq_true, iLe_iff, iLt_iff] at h
    exact ⟨h.1, h.2, fun h' => absurd hc h'⟩
  · rw [iEq_f hc, cond_false] at h
    simp only [Bool.and_eq_true, Bool.not_eq_true', iLt_iff'] at h
    have h1 : 0 ≤ leastL c ∧ mostL c ≤ 199 := by
      unfold leastL mostL
      cases iEq c 107 <;> cases iEq c 116 <;> cases iEq c 102 <;> cases iEq c 106 <;> simp only [cond_true, cond_false] <;> omega
    exact ⟨by omega, by omega, fun _ => by omega⟩

/-! ### What is wrong -/
def okF (f : ByteArray) (A B : Int) : Bool := (iLe (f.size : Int) 0 || inL (byteAt f 0) A) && (iLe (f.size : Int) 1 || inL (byteAt f 1) B)
def zF (f : ByteArray) (A B : Int) : Bool := (iLt 0 (f.size : Int) || iEq A 0) && (iLt 1 (f.size : Int) || iEq B 0)
def jjF (f : ByteArray) (A B : Int) : Bool := sEq f (⟨#[106, 106]⟩ : ByteArray) && iLt B A
def chkF (f : ByteArray) (A B : Int) : Int := cond (okF f A B) (cond (jjF f A B) 1 (cond (zF f A B) 0 2)) 1
def chkI (x : T_api_Ins) : Int := cond (opK x.Op) (chkF (formL x.Op) x.A x.B) 6
theorem size3 {f : ByteArray} (hf : f.size ≤ 2) : f.size = 0 ∨ f.size = 1 ∨ f.size = 2 := by omega
theorem fuel3 : ∃ F, fuel = F + 1 + 1 + 1 := ⟨fuel - 3, by have := fuel_big; omega⟩

theorem ne_eq (a b : Int) : iNe a b = !iEq a b := by unfold iNe iEq; simp

theorem l33_step {x : T_api_Ins} {F i : Nat} (hi : i < 2) : ref07_Check_l33 x (F + 1) (i : Int) = cond (iNe ([x.A, x.B].getD i default) 0) (some 2) (ref07_Check_l33 x F ((i + 1 : Nat) : Int)) := by
  rw [ref07_Check_l33, iLt_t (by omega), cond_true, need_of (nIn_of ⟨by omega, by simp only [List.length_cons, List.length_nil]; omega⟩), w64 (by omega), Int.toNat_natCast, show (i : Int) + 1 = ((i + 1 : Nat) : Int) by omega]
theorem l33_end {x : T_api_Ins} {F i : Nat} (hi : ¬ i < 2) : ref07_Check_l33 x (F + 1) (i : Int) = some 0 := by
  rw [ref07_Check_l33, iLt_f (by omega), cond_false]
theorem zF_l33 (x : T_api_Ins) {f : ByteArray} (hf : f.size ≤ 2) : ref07_Check_l33 x fuel (f.size : Int) = some (cond (zF f x.A x.B) 0 2) := by
  obtain ⟨F, hF⟩ := fuel3
  rw [hF]
  unfold zF
  rcases size3 hf with h | h | h
  · rw [h, l33_step (by omega), l33_step (by omega), l33_end (by omega), ne_eq, ne_eq]
    show cond (!iEq x.A 0) (some 2) (cond (!iEq x.B 0) (some 2) (some 0)) = _
    cases iEq x.A 0 <;> cases iEq x.B 0 <;> rfl
  · rw [h, l33_step (by omega), l33_end (by omega), ne_eq]
    show cond (!iEq x.B 0) (some 2) (some 0) = _
    cases iEq x.B 0 <;> rfl
  · rw [h, l33_end (by omega)]
    rfl

theorem r4_step {x : T_api_Ins} {f : ByteArray} {F i : Nat} (hi : i < f.size) (hf : f.size ≤ 2) : ref07_Check_l4 x f (F + 1) (i : Int) = cond (inL (byteAt f i) ([x.A, x.B].getD i default)) (ref07_Check_l4 x f F ((i + 1 : Nat) : Int)) (some 1) := by
  have h2 : nIn (i : Int) (([x.A, x.B] : List Int).length : Int) = true := nIn_of ⟨by omega, by simp only [List.length_cons, List.length_nil]; omega⟩
  have h1 : nIn (i : Int) (f.size : Int) = true := nIn_of (by omega)
  rw [ref07_Check_l4, iLt_t (by omega), cond_true, h1, h2, ref03_Fits_eq, least_eq, most_eq, inL_range, w64 (by omega), Int.toNat_natCast, show (i : Int) + 1 = ((i + 1 : Nat) : Int) by omega]
  simp only [need_of, bind_some', cond_not, ne_eq]
  generalize byteAt f i = c
  generalize ([x.A, x.B].getD i default) = v
  cases iEq c 110 with
  | true => simp only [cond_true, cond_false]
  | false =>
    simp only [cond_true, cond_false]
    cases iLt v (leastL c) <;> cases iLt (mostL c) v <;> rfl
theorem r4_end {x : T_api_Ins} {f : ByteArray} {F i : Nat} (hi : ¬ i < f.size) (hf : f.size ≤ 2) : ref07_Check_l4 x f (F + 1) (i : Int) = some (cond (jjF f x.A x.B) 1 (cond (zF f x.A x.B) 0 2)) := by
  rw [ref07_Check_l4, iLt_f (by omega), cond_false, zF_l33 x hf]
  unfold jjF
  simp only [cond_some]
theorem chkF_of {x : T_api_Ins} {f : ByteArray} (hf : f.size ≤ 2) (g : Nat → Int → Option Int) (hs : ∀ F i : Nat, i < f.size → g (F + 1) (i : Int) = cond (inL (byteAt f i) ([x.A, x.B].getD i default)) (g F ((i + 1 : Nat) : Int)) (some 1)) (he : ∀ F i : Nat, ¬ i < f.size → g (F + 1) (i : Int) = some (cond (jjF f x.A x.B) 1 (cond (zF f x.A x.B) 0 2))) : g fuel 0 = some (chkF f x.A x.B) := by
  obtain ⟨F, hF⟩ := fuel3
  rw [hF, show (0 : Int) = ((0 : Nat) : Int) from rfl]
  unfold chkF okF
  rcases size3 hf with h | h | h
  · rw [he _ _ (by omega), h]; rfl
  · rw [hs _ _ (by omega), he _ _ (by omega), h]
    show cond (inL (byteAt f 0) x.A) _ _ = _
    cases inL (byteAt f 0) x.A <;> rfl
  · rw [hs _ _ (by omega), hs _ _ (by omega), he _ _ (by omega), h]
    show cond (inL (byteAt f 0) x.A) (cond (inL (byteAt f 1) x.B) _ _) _ = _
    cases inL (byteAt f 0) x.A <;> cases inL (byteAt f 1) x.B <;> rfl

theorem ref07_Check_eq (x : T_api_Ins) : ref07_Check x = some (chkI x) := by
  unfold ref07_Check chkI
  rw [ref06_Known_eq, bind_some', ref06_Form_eq, bind_some', cond_not]
  have hf := formL_size x.Op
  rw [chkF_of hf (ref07_Check_l4 x (formL x.Op)) (fun F i hi => r4_step hi hf) (fun F i hi => r4_end hi hf), cond_some]
/-- What an instruction that may be is like. -/
structure OkI (x : T_api_Ins) : Prop where
  op : 0 ≤ x.Op ∧ x.Op < 52
  a1 : 0 < (formL x.Op).size → inL (byteAt (formL x.Op) 0) x.A = true
  b1 : 1 < (formL x.Op).size → inL (byteAt (formL x.Op) 1) x.B = true
  a0 : (formL x.Op).size = 0 → x.A = 0
  b0 : (formL x.Op).size ≤ 1 → x.B = 0
theorem chkI_ok {x : T_api_Ins} (h : chkI x = 0) : OkI x := by
  unfold chkI at h
  cases hk : opK x.Op with
  | false => rw [hk] at h; cases h
  | true =>
    rw [hk, cond_true] at h
    unfold chkF at h
    cases h1 : okF (formL x.Op) x.A x.B with
    | false => rw [h1] at h; cases h
    | true =>
      rw [h1, cond_true] at h
      cases h2 : jjF (formL x.Op) x.A x.B with
      | true => rw [h2] at h; cases h
      | false =>
        rw [h2, cond_false] at h
        cases h3 : zF (formL x.Op) x.A x.B with
        | false => rw [h3] at h; cases h
        | true =>
          unfold okF at h1
          unfold zF at h3
          simp only [Bool.and_eq_true, Bool.or_eq_true, iLe_iff, iLt_iff, iEq_iff] at h1 h3
          exact ⟨opK_iff.1 hk, fun hs => h1.1.resolve_left (by omega), fun hs => h1.2.resolve_left (by omega), fun hs => h3.1.resolve_left (by omega), fun hs => h3.2.resolve_left (by omega)⟩


theorem shape_no {k : Int} (h : opK k = false) : op_shape k = some 0 := by
  have hk := opK_iff'.1 h
  unfold op_shape
  rw [op_known_eq, h]
  have e : ∀ c : Int, 0 ≤ c → c < 52 → iEq k c = false := fun c h0 h1 => iEq_f (by omega)
  rw [e 2 (by decide) (by decide), e 17 (by decide) (by decide), e 19 (by decide) (by decide), e 21 (by decide) (by decide), e 18 (by decide) (by decide), e 25 (by decide) (by decide), e 16 (by decide) (by decide), e 45 (by decide) (by decide), e 40 (by decide) (by decide), e 43 (by decide) (by decide), e 8 (by decide) (by decide), e 24 (by decide) (by decide), e 27 (by decide) (by decide), e 28 (by decide) (by decide), e 30 (by decide) (by decide), e 31 (by decide) (by decide), e 33 (by decide) (by decide), e 39 (by decide) (by decide), e 44 (by decide) (by decide), e 46 (by decide) (by decide), e 49 (by decide) (by decide)]
  have : (iLe 3 k && iLe k 15) = false := by simp only [Bool.and_eq_false_iff, iLe_iff']; omega
  rw [this]
  rfl
theorem pops_yes : ∀ k : Fin 52, (k : Nat) ≠ 20 → (k : Nat) ≠ 41 → (k : Nat) ≠ 42 → op_Pops ⟨k, 0, 0⟩ 0 = ref06_Pops ⟨k, 0, 0⟩ 0 := by decide +kernel
theorem pops_eq {x : T_api_Ins} (a : Int) (hb : -1099511627776 ≤ x.B ∧ x.B ≤ 1099511627776) : op_Pops x a = ref06_Pops x a := by
  obtain ⟨k, A, B⟩ := x
  dsimp only at hb
  cases h : opK k with
  | false =>
    have hk := opK_iff'.1 h
    unfold op_Pops ref06_Pops
    dsimp only
    rw [iEq_f (show k ≠ 20 by omega), iEq_f (show k ≠ 42 by omega), iEq_f (show k ≠ 41 by omega), shape_no h, ref06_Known_eq, h]
    rfl
  | true =>
    have hk := opK_iff.1 h
    by_cases h20 : k = 20
    · subst h20; rfl
    · by_cases h42 : k = 42
      · subst h42
        show some (IntKind.i64.wrap (IntKind.i64.wrap ((0 : Int) + 1) + B)) = some (IntKind.i64.wrap ((1 : Int) + B))
        rw [w64 (a := (0 : Int) + 1) (by decide)]
        rfl
      · by_cases h41 : k = 41
        · subst h41; rfl
        · have h1 : op_Pops ⟨k, A, B⟩ a = op_Pops ⟨k, 0, 0⟩ 0 := by
            unfold op_Pops
            dsimp only
            rw [iEq_f h20, iEq_f h42, iEq_f h41]
            rfl
          have h2 : ref06_Pops ⟨k, A, B⟩ a = ref06_Pops ⟨k, 0, 0⟩ 0 := by
            unfold ref06_Pops
            dsimp only
            rw [iEq_f h20, iEq_f h42, iEq_f h41]
            rfl
          have := pops_yes ⟨k.toNat, by omega⟩ (by dsimp only; omega) (by dsimp only; omega) (by dsimp only; omega)
          dsimp only at this
          rw [Int.toNat_of_nonneg hk.1] at this
          rw [h1, h2, this]


end LJ
