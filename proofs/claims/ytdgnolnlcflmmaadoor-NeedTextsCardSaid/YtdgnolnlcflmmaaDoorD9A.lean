/- Plain laws of objects, as the document's check tells them. -/
import Derived.Test.YtdgnolnlcflmmaaDoorOPB
namespace LJ
open Go Go.RowKit
set_option linter.unusedVariables false
set_option linter.unusedSimpArgs false

theorem cond_some {α : Type} (b : Bool) (x y : α) : cond b (some x) (some y) = some (cond b x y) := by cases b <;> rfl
theorem iEq_comm (a b : Int) : iEq a b = iEq b a := by
  unfold iEq
  by_cases h : a = b
  · subst h; rfl
  · rw [decide_eq_false h, decide_eq_false (fun h' => h h'.symm)]
def fitW (a : Int) : Bool := iLe (-2147483648) a && iLt a 2147483648

theorem cond_not {α : Type} (b : Bool) (x y : α) : cond (!b) x y = cond b y x := by cases b <;> rfl
theorem getD_drop {α : Type} [Inhabited α] (L : List α) (i : Nat) (h : i < L.length) : L.drop i = L.getD i default :: L.drop (i + 1) := by
  rw [List.drop_eq_getElem_cons h]
  simp [List.getD_eq_getElem?_getD, h]

/-- Does a letter stand for a kind? -/
def fitK (c k : Int) : Bool :=
  cond (iEq c 117) (iEq k 1 || iEq k 2) (cond (iEq c 115) (iEq k 3) (cond (iEq c 112) (iEq k 6) (cond (iEq c 99) (iEq k 4) (cond (iEq c 109) (iEq k 1) (cond (iEq c 98) (iEq k 5) (cond (iEq c 118) (iEq k 7) (cond (iEq c 113) (iEq k 1 || iEq k 6) false)))))))
def fitD (L : List T_api_Decl) (c o : Int) : Bool := cond (iLt o 0 || iLe (L.length : Int) o) false (fitK c (L.getD o.toNat default).Kind)
theorem decl_Fits_eq (L : List T_api_Decl) (c o : Int) : decl_Fits L c o = some (fitD L c o) := by
  unfold decl_Fits fitD
  cases h : (iLt o 0 || iLe (L.length : Int) o) with
  | true => rfl
  | false =>
    simp only [Bool.or_eq_false_iff, iLt_iff', iLe_iff'] at h
    rw [cond_false, cond_false, need_of (nIn_of ⟨h.1, h.2⟩)]
    simp only [cond_some]
    rfl
def kindsL (c : Int) : List Int :=
  cond (iEq c 117) [1, 2] (cond (iEq c 115) [3] (cond (iEq c 112) [6] (cond (iEq c 99) [4] (cond (iEq c 109) [1] (cond (iEq c 98) [5] (cond (iEq c 118) [7] (cond (iEq c 113) [1, 6] [])))))))
/-! ### What is wrong with an object -/
def badD (L : List T_api_Decl) (d : T_api_Decl) : Int :=
  cond (iEq d.Kind 3) (cond (iLe 1 d.B && iLe d.B 1000 && iLe 0 d.A && iLe d.A d.B) 0 1) (cond (iEq d.Kind 6) (cond (iLe 1 d.A && iLe d.A 1000) (cond (iEq d.B 0) 0 2) 1)
    (cond (iEq d.Kind 7) (cond (fitW d.A && fitD L 117 d.B) 0 1) (cond (iEq d.Kind 1 || iEq d.Kind 2 || iEq d.Kind 4 || iEq d.Kind 5) (cond (iEq d.A 0 && iEq d.B 0) 0 2) 6)))

/-- The first that is wrong, from the i-th on. -/
def chkD (L : List T_api_Decl) : List T_api_Decl → Int → Int × Int
  | [], _ => (0, 0)
  | d :: t, i => cond (iNe (badD L d) 0) (i, badD L d) (chkD L t (i + 1))
def chkL (L : List T_api_Decl) : Int × Int := cond (iLt 32 (L.length : Int)) (0, 4) (chkD L L 0)

theorem chkD_ok {L : List T_api_Decl} : ∀ {M : List T_api_Decl} {i : Int}, (chkD L M i).2 = 0 → ∀ d ∈ M, badD L d = 0
  | [], i, h => fun d hd => by cases hd
  | x :: M, i, h => by
    unfold chkD at h
    by_cases hx : badD L x = 0
    · rw [iNe_f hx, cond_false] at h
      intro d hd
      rcases List.mem_cons.1 hd with rfl | hd
      · exact hx
      · exact chkD_ok h d hd
    · rw [iNe_t hx, cond_true] at h
      exact absurd h hx

end LJ
