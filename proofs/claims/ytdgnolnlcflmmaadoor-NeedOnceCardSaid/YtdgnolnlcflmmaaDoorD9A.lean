/- Plain laws of objects, as the document's check tells them. -/
import Derived.Test.YtdgnolnlcflmmaaDoorOPB
namespace LJ
open Go Go.RowKit
set_option linter.unusedVariables false
set_option linter.unusedSimpArgs false

theorem cond_some {α : Type} (b : Bool) (x y : α) : cond b (some x) (some y) = some (cond b x y) := by cases b <;> rfl
theorem iEq_comm (a b : Int) : iEq a b = iEq b a := by
  unfold iEq
  by_cases h : a = b
  · subst h; rfl
  · rw [decide_eq_false h, decide_eq_false (fun h' => h h'.symm)]
def fitW (a : Int) : Bool := iLe (-2147483648) a && iLt a 2147483648

theorem cond_not {α : Type} (b : Bool) (x y : α) : cond (!b) x y = cond b y x := by cases b <;> rfl
theorem ref03_Fits_eq (a : Int) : ref03_Fits a = some (fitW a) := rfl
theorem getD_drop {α : Type} [Inhabited α] (L : List α) (i : Nat) (h : i < L.length) : L.drop i = L.getD i default :: L.drop (i + 1) := by
  rw [List.drop_eq_getElem_cons h]
  simp [List.getD_eq_getElem?_getD, h]

/-- Does a letter stand for a kind? -/
def fitK (c k : Int) : Bool :=
  cond (iEq c 117) (iEq k 1 || iEq k 2) (cond (iEq c 115) (iEq k 3) (cond (iEq c 112) (iEq k 6) (cond (iEq c 99) (iEq k 4) (cond (iEq c 109) (iEq k 1) (cond (iEq c 98) (iEq k 5) (cond (iEq c 118) (iEq k 7) (cond (iEq c 113) (iEq k 1 || iEq k 6) false)))))))
def fitD (L : List T_api_Decl) (c o : Int) : Bool := cond (iLt o 0 || iLe (L.length : Int) o) false (fitK c (L.getD o.toNat default).Kind)
theorem decl_Fits_eq (L : List T_api_Decl) (c o : Int) : decl_Fits L c o = some (fitD L c o) := by
  unfold decl_Fits fitD
  cases h : (iLt o 0 || iLe (L.length : Int) o) with
  | true => rfl
  | false =>
    simp only [Bool.or_eq_false_iff, iLt_iff', iLe_iff'] at h
    rw [cond_false, cond_false, need_of (nIn_of ⟨h.1, h.2⟩)]
    simp only [cond_some]
    rfl
def kindsL (c : Int) : List Int :=
  cond (iEq c 117) [1, 2] (cond (iEq c 115) [3] (cond (iEq c 112) [6] (cond (iEq c 99) [4] (cond (iEq c 109) [1] (cond (iEq c 98) [5] (cond (iEq c 118) [7] (cond (iEq c 113) [1, 6] [])))))))
theorem kinds_eq (c : Int) : ref08_kinds c = some (kindsL c) := by
  obtain ⟨f, hf⟩ : ∃ f, fuel = f + 9 := ⟨fuel - 9, by have := fuel_big; omega⟩
  unfold ref08_kinds kindsL
  rw [hf]
  have w : ∀ n : Int, 0 ≤ n → n < 9 → IntKind.i64.wrap (n + 1) = n + 1 := fun n h0 h1 => w64 (by omega)
  have step : ∀ (k : Nat) (i : Int) (b : Int) (l : List Int), 0 ≤ i → i < 8 → byteAt (⟨#[117, 115, 112, 99, 109, 98, 118, 113]⟩ : ByteArray) i.toNat = b → ([[1, 2], [3], [6], [4], [1], [5], [7], [1, 6]] : List (List Int)).getD i.toNat default = l → ref08_kinds_l2 c (k + 1) i = cond (iEq c b) (some l) (ref08_kinds_l2 c k (i + 1)) := fun k i b l h0 h1 hb hl => by
    rw [ref08_kinds_l2, show ((⟨#[117, 115, 112, 99, 109, 98, 118, 113]⟩ : ByteArray).size : Int) = 8 from rfl, show (([[1, 2], [3], [6], [4], [1], [5], [7], [1, 6]] : List (List Int)).length : Int) = 8 from rfl, iLt_t h1, cond_true, need_of (nIn_of ⟨h0, h1⟩), need_of (nIn_of ⟨h0, h1⟩), hb, hl, iEq_comm b c, w i h0 (by omega)]
  rw [step (f + 8) 0 117 [1, 2] (by decide) (by decide) (by decide) (by decide), step (f + 7) (0 + 1) 115 [3] (by decide) (by decide) (by decide) (by decide), step (f + 6) (0 + 1 + 1) 112 [6] (by decide) (by decide) (by decide) (by decide), step (f + 5) (0 + 1 + 1 + 1) 99 [4] (by decide) (by decide) (by decide) (by decide), step (f + 4) (0 + 1 + 1 + 1 + 1) 109 [1] (by decide) (by decide) (by decide) (by decide), step (f + 3) (0 + 1 + 1 + 1 + 1 + 1) 98 [5] (by decide) (by decide) (by decide) (by decide), step (f + 2) (0 + 1 + 1 + 1 + 1 + 1 + 1) 118 [7] (by decide) (by decide) (by decide) (by decide), step (f + 1) (0 + 1 + 1 + 1 + 1 + 1 + 1 + 1) 113 [1, 6] (by decide) (by decide) (by decide) (by decide)]
  rw [ref08_kinds_l2, iLt_f (by decide), cond_false]
  simp only [cond_some]
theorem fits_l3 (L : List T_api_Decl) (o : Int) (ks : List Int) (ho : 0 ≤ o ∧ o < L.length) (hk : ks.length ≤ 100) : ∀ (n i f : Nat), i + n = ks.length → n < f → ref08_Fits_l3 L o ks f (i : Int) = some ((ks.drop i).any fun k => iEq (L.getD o.toNat default).Kind k)
  | n, i, 0, hi, hf => by omega
  | 0, i, f + 1, hi, hf => by
    rw [ref08_Fits_l3, iLt_f (by omega), List.drop_eq_nil_of_le (by omega)]
    rfl
  | n + 1, i, f + 1, hi, hf => by
    rw [ref08_Fits_l3, iLt_t (by omega), iLe_t ho.1, iLt_t ho.2]
    simp only [Bool.and_self, cond_true]
    rw [need_of (nIn_of ho), need_of (nIn_of ⟨by omega, by omega⟩), Int.toNat_natCast, List.drop_eq_getElem_cons (by omega), List.any_cons]
    have e : ks.getD i default = ks[i] := by simp [List.getD_eq_getElem?_getD, show i < ks.length by omega]
    rw [e]
    cases h : iEq (L.getD o.toNat default).Kind ks[i] with
    | true => rfl
    | false =>
      rw [cond_false, w64 (by omega), show (i : Int) + 1 = ((i + 1 : Nat) : Int) by omega, fits_l3 L o ks ho hk n (i + 1) f (by omega) (by omega)]
      rfl
theorem ref08_Fits_eq (L : List T_api_Decl) (c o : Int) : ref08_Fits L c o = some (fitD L c o) := by
  unfold ref08_Fits fitD
  rw [kinds_eq, bind_some']
  have hk : (kindsL c).length ≤ 100 := by
    unfold kindsL
    repeat' (first | (cases iEq c _ <;> simp only [cond_true, cond_false]) | decide)
  cases h : (iLt o 0 || iLe (L.length : Int) o) with
  | true =>
    obtain ⟨f, hf⟩ := fuel_pos
    rw [hf, ref08_Fits_l3]
    have : ((iLt 0 ((kindsL c).length : Int) && iLe 0 o) && iLt o (L.length : Int)) = false := by
      simp only [Bool.or_eq_true, iLt_iff, iLe_iff] at h
      simp only [Bool.and_eq_false_iff, iLt_iff', iLe_iff']
      omega
    rw [this]
    rfl
  | false =>
    simp only [Bool.or_eq_false_iff, iLt_iff', iLe_iff'] at h
    have := fits_l3 L o (kindsL c) ⟨h.1, h.2⟩ hk (kindsL c).length 0 fuel (by omega) (by have := fuel_big; omega)
    rw [show (0 : Int) = ((0 : Nat) : Int) from rfl, this, cond_false]
    congr 1
    generalize (L.getD o.toNat default).Kind = k
    unfold kindsL fitK
    rw [List.drop_zero]
    repeat' (first | (cases iEq c _ <;> simp only [cond_true, cond_false]) | simp [Bool.or_false])

/-! ### What is wrong with an object -/
def badD (L : List T_api_Decl) (d : T_api_Decl) : Int :=
  cond (iEq d.Kind 3) (cond (iLe 1 d.B && iLe d.B 1000 && iLe 0 d.A && iLe d.A d.B) 0 1) (cond (iEq d.Kind 6) (cond (iLe 1 d.A && iLe d.A 1000) (cond (iEq d.B 0) 0 2) 1)
    (cond (iEq d.Kind 7) (cond (fitW d.A && fitD L 117 d.B) 0 1) (cond (iEq d.Kind 1 || iEq d.Kind 2 || iEq d.Kind 4 || iEq d.Kind 5) (cond (iEq d.A 0 && iEq d.B 0) 0 2) 6)))

theorem ref08_one_eq (L : List T_api_Decl) (d : T_api_Decl) : ref08_one L d = some (badD L d) := by
  unfold ref08_one badD
  rw [ref03_Fits_eq, ref08_Fits_eq]
  by_cases h : d.Kind < 1 ∨ 7 < d.Kind
  · rw [show (iLt d.Kind 1 || iLt 7 d.Kind) = true by simp only [Bool.or_eq_true, iLt_iff]; exact h, cond_true]
    rw [iEq_f (show d.Kind ≠ 3 by omega), iEq_f (show d.Kind ≠ 6 by omega), iEq_f (show d.Kind ≠ 7 by omega), iEq_f (show d.Kind ≠ 1 by omega), iEq_f (show d.Kind ≠ 2 by omega), iEq_f (show d.Kind ≠ 4 by omega), iEq_f (show d.Kind ≠ 5 by omega)]
    rfl
  · rw [show (iLt d.Kind 1 || iLt 7 d.Kind) = false by simp only [Bool.or_eq_false_iff, iLt_iff']; omega, cond_false]
    have ne : ∀ a b : Int, iNe a b = !iEq a b := fun a b => by unfold iNe iEq; simp
    have lt : ∀ a b : Int, iLt a b = !iLe b a := fun a b => by
      unfold iLt iLe
      by_cases hab : a < b
      · rw [decide_eq_true hab, decide_eq_false (by omega)]; rfl
      · rw [decide_eq_false hab, decide_eq_true (by omega)]; rfl
    have cases7 : d.Kind = 1 ∨ d.Kind = 2 ∨ d.Kind = 3 ∨ d.Kind = 4 ∨ d.Kind = 5 ∨ d.Kind = 6 ∨ d.Kind = 7 := by omega
    simp only [ne, lt]
    rcases cases7 with e | e | e | e | e | e | e <;> rw [e] <;> simp only [show iEq 1 3 = false from rfl, show iEq 1 6 = false from rfl, show iEq 1 7 = false from rfl, show iEq 1 1 = true from rfl, show iEq 2 3 = false from rfl, show iEq 2 6 = false from rfl, show iEq 2 7 = false from rfl, show iEq 2 1 = false from rfl, show iEq 2 2 = true from rfl, show iEq 3 3 = true from rfl, show iEq 3 6 = false from rfl, show iEq 3 7 = false from rfl, show iEq 4 3 = false from rfl, show iEq 4 6 = false from rfl, show iEq 4 7 = false from rfl, show iEq 4 1 = false from rfl, show iEq 4 2 = false from rfl, show iEq 4 4 = true from rfl, show iEq 5 3 = false from rfl, show iEq 5 6 = false from rfl, show iEq 5 7 = false from rfl, show iEq 5 1 = false from rfl, show iEq 5 2 = false from rfl, show iEq 5 4 = false from rfl, show iEq 5 5 = true from rfl, show iEq 6 3 = false from rfl, show iEq 6 6 = true from rfl, show iEq 6 7 = false from rfl, show iEq 7 3 = false from rfl, show iEq 7 6 = false from rfl, show iEq 7 7 = true from rfl, cond_true, cond_false, Bool.false_and, Bool.true_and, Bool.not_true, Bool.not_false, Bool.or_false, Bool.false_or, Bool.or_true, Bool.true_or, bind_some', Bool.not_not, Bool.and_false, Bool.and_true]
    all_goals first
      | rfl
      | (cases fitW d.A <;> simp [cond_some] <;> (cases fitD L 117 d.B <;> rfl))
      | (cases iLe 1 d.B <;> cases iLe d.B 1000 <;> cases iLe 0 d.A <;> cases iLe d.A d.B <;> rfl)
      | (cases iLe 1 d.A <;> cases iLe d.A 1000 <;> cases iEq d.B 0 <;> rfl)
      | (cases iEq d.A 0 <;> cases iEq d.B 0 <;> rfl)
/-- The first that is wrong, from the i-th on. -/
def chkD (L : List T_api_Decl) : List T_api_Decl → Int → Int × Int
  | [], _ => (0, 0)
  | d :: t, i => cond (iNe (badD L d) 0) (i, badD L d) (chkD L t (i + 1))
def chkL (L : List T_api_Decl) : Int × Int := cond (iLt 32 (L.length : Int)) (0, 4) (chkD L L 0)

theorem ref08_Check_l3_eq (L : List T_api_Decl) (hL : L.length ≤ 32) : ∀ (n i f : Nat), i + n = L.length → n < f → ref08_Check_l3 L f (i : Int) = some (chkD L (L.drop i) (i : Int))
  | n, i, 0, hi, hf => by omega
  | 0, i, f + 1, hi, hf => by
    rw [ref08_Check_l3, iLt_f (by omega), List.drop_eq_nil_of_le (by omega)]
    rfl
  | n + 1, i, f + 1, hi, hf => by
    rw [ref08_Check_l3, iLt_t (by omega), cond_true, need_of (nIn_of ⟨by omega, by omega⟩), Int.toNat_natCast, ref08_one_eq, bind_some', getD_drop L i (by omega), chkD, w64 (by omega), show (i : Int) + 1 = ((i + 1 : Nat) : Int) by omega, ref08_Check_l3_eq L hL n (i + 1) f (by omega) (by omega), cond_some]
theorem ref08_Check_eq (L : List T_api_Decl) : ref08_Check L = some (chkL L) := by
  unfold ref08_Check chkL
  by_cases h : 32 < (L.length : Int)
  · rw [iLt_t h]; rfl
  · rw [iLt_f (by omega), cond_false, cond_false]
    exact ref08_Check_l3_eq L (by omega) L.length 0 fuel (by omega) (by have := fuel_big; omega)

theorem chkD_ok {L : List T_api_Decl} : ∀ {M : List T_api_Decl} {i : Int}, (chkD L M i).2 = 0 → ∀ d ∈ M, badD L d = 0
  | [], i, h => fun d hd => by cases hd
  | x :: M, i, h => by
    unfold chkD at h
    by_cases hx : badD L x = 0
    · rw [iNe_f hx, cond_false] at h
      intro d hd
      rcases List.mem_cons.1 hd with rfl | hd
      · exact hx
      · exact chkD_ok h d hd
    · rw [iNe_t hx, cond_true] at h
      exact absurd h hx

end LJ
