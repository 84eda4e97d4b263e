/- Several texts of plain Lean, one behind the other. No condition. -/
import Derived.Test.YthgjdnknjofdjaaDoorPF
import Derived.Test.YthgjdnknjofdjaaDoorXPB
import Derived.Laws.Bits64b
import Derived.Laws.Bits128
import Derived.Lib.TrailingZeros
/- Plain laws of numbers as bytes: the program's writer and reader, and the document's. -/
section
namespace LJ
open Go Go.RowKit
set_option linter.unusedVariables false
set_option linter.unusedSimpArgs false



end LJ
end

/- Plain laws: the readers, whatever their state. -/
section
namespace LJ
open Go Go.RowKit
set_option linter.unusedVariables false
set_option linter.unusedSimpArgs false

def rdB (l : List UInt8) (e : Int) : Int × Nat × List UInt8 := match l with
 | [] => (if e = 0 then 3 else e, 0, [])
 | b :: t => (e, b.toNat, t)
def rdN (l : List UInt8) (e : Int) : Int × Nat × List UInt8 := if e = 0 then numR 0 l else (e, 0, [])
structure RdOK (s : ByteArray) (l : List UInt8) (e : Int) : Prop where
 suf : l <:+ bl s
 err : e ≠ 0 → l = []
end LJ
end

/- Plain laws: more of reading numbers. -/
section
namespace LJ
open Go Go.RowKit
set_option linter.unusedVariables false
set_option linter.unusedSimpArgs false

def capN (r : Int × Nat × List UInt8) : Nat := min r.2.1 2147483648
end LJ
end

/- Plain laws: words, lists by place. -/
section
namespace LJ
open Go Go.RowKit
set_option linter.unusedVariables false
set_option linter.unusedSimpArgs false

theorem cond_some {α : Type} (b : Bool) (x y : α) : cond b (some x) (some y) = some (cond b x y) := by cases b <;> rfl
theorem iEq_comm (a b : Int) : iEq a b = iEq b a := by
 unfold iEq
 by_cases h : a = b
 ·subst h; rfl
 ·rw [decide_eq_false h, decide_eq_false (fun h' => h h'.symm)]
def fitW (a : Int) : Bool := iLe (-2147483648) a && iLt a 2147483648
theorem word_Fits_eq (a : Int) : word_Fits a = some (fitW a) := by
 unfold word_Fits fitW
 congr 1
 rw [Bool.eq_iff_iff]
 simp only [iEq_iff, Bool.and_eq_true, iLe_iff, iLt_iff]
 have h := IntKind.wrap_i32 a
 have h2 : -2147483648 ≤ IntKind.i32.wrap a ∧ IntKind.i32.wrap a < 2147483648 := by
  rw [h]; omega
 rw [w64 (by omega), h]
 omega
theorem cond_not {α : Type} (b : Bool) (x y : α) : cond (!b) x y = cond b y x := by cases b <;> rfl
theorem ref03_Fits_eq (a : Int) : ref03_Fits a = some (fitW a) := rfl
theorem getD_drop {α : Type} [Inhabited α] (L : List α) (i : Nat) (h : i < L.length) : L.drop i = L.getD i default :: L.drop (i + 1) := by
 rw [List.drop_eq_getElem_cons h]
 simp [List.getD_eq_getElem?_getD, h]
end LJ
end

/- Plain laws of objects: kinds, what is wrong with one, where. -/
section
namespace LJ
open Go Go.RowKit
set_option linter.unusedVariables false
set_option linter.unusedSimpArgs false

def fitK (c k : Int) : Bool :=
 cond (iEq c 117) (iEq k 1 || iEq k 2) (cond (iEq c 115) (iEq k 3) (cond (iEq c 112) (iEq k 6) (cond (iEq c 99) (iEq k 4) (cond (iEq c 109) (iEq k 1) (cond (iEq c 98) (iEq k 5) (cond (iEq c 118) (iEq k 7) (cond (iEq c 113) (iEq k 1 || iEq k 6) false)))))))
def fitD (L : List T_api_Decl) (c o : Int) : Bool := cond (iLt o 0 || iLe (L.length : Int) o) false (fitK c (L.getD o.toNat default).Kind)
theorem decl_Fits_eq (L : List T_api_Decl) (c o : Int) : decl_Fits L c o = some (fitD L c o) := by
 unfold decl_Fits fitD
 cases h : (iLt o 0 || iLe (L.length : Int) o) with
 | true => rfl
 | false =>
  simp only [Bool.or_eq_false_iff, iLt_iff', iLe_iff'] at h
  rw [cond_false, cond_false, need_of (nIn_of ⟨h.1, h.2⟩)]
  simp only [cond_some]
  rfl
def kindsL (c : Int) : List Int :=
 cond (iEq c 117) [1, 2] (cond (iEq c 115) [3] (cond (iEq c 112) [6] (cond (iEq c 99) [4] (cond (iEq c 109) [1] (cond (iEq c 98) [5] (cond (iEq c 118) [7] (cond (iEq c 113) [1, 6] [])))))))
theorem kinds_eq (c : Int) : ref08_kinds c = some (kindsL c) := by
 obtain ⟨f, hf⟩ : ∃ f, fuel = f + 9 := ⟨fuel - 9, by have := fuel_big; omega⟩
 unfold ref08_kinds kindsL
 rw [hf]
 have w : ∀ n : Int, 0 ≤ n → n < 9 → IntKind.i64.wrap (n + 1) = n + 1 := fun n h0 h1 => w64 (by omega)
 have step : ∀ (k : Nat) (i : Int) (b : Int) (l : List Int), 0 ≤ i → i < 8 → byteAt (⟨#[117, 115, 112, 99, 109, 98, 118, 113]⟩ : ByteArray) i.toNat = b → ([[1, 2], [3], [6], [4], [1], [5], [7], [1, 6]] : List (List Int)).getD i.toNat default = l → ref08_kinds_l2 c (k + 1) i = cond (iEq c b) (some l) (ref08_kinds_l2 c k (i + 1)) := fun k i b l h0 h1 hb hl => by
  rw [ref08_kinds_l2, show ((⟨#[117, 115, 112, 99, 109, 98, 118, 113]⟩ : ByteArray).size : Int) = 8 from rfl, show (([[1, 2], [3], [6], [4], [1], [5], [7], [1, 6]] : List (List Int)).length : Int) = 8 from rfl, iLt_t h1, cond_true, need_of (nIn_of ⟨h0, h1⟩), need_of (nIn_of ⟨h0, h1⟩), hb, hl, iEq_comm b c, w i h0 (by omega)]
 rw [step (f + 8) 0 117 [1, 2] (by decide) (by decide) (by decide) (by decide), step (f + 7) (0 + 1) 115 [3] (by decide) (by decide) (by decide) (by decide), step (f + 6) (0 + 1 + 1) 112 [6] (by decide) (by decide) (by decide) (by decide), step (f + 5) (0 + 1 + 1 + 1) 99 [4] (by decide) (by decide) (by decide) (by decide), step (f + 4) (0 + 1 + 1 + 1 + 1) 109 [1] (by decide) (by decide) (by decide) (by decide), step (f + 3) (0 + 1 + 1 + 1 + 1 + 1) 98 [5] (by decide) (by decide) (by decide) (by decide), step (f + 2) (0 + 1 + 1 + 1 + 1 + 1 + 1) 118 [7] (by decide) (by decide) (by decide) (by decide), step (f + 1) (0 + 1 + 1 + 1 + 1 + 1 + 1 + 1) 113 [1, 6] (by decide) (by decide) (by decide) (by decide)]
 rw [ref08_kinds_l2, iLt_f (by decide), cond_false]
 simp only [cond_some]
theorem fits_l3 (L : List T_api_Decl) (o : Int) (ks : List Int) (ho : 0 ≤ o ∧ o < L.length) (hk : ks.length ≤ 100) : ∀ (n i f : Nat), i + n = ks.length → n < f → ref08_Fits_l3 L o ks f (i : Int) = some ((ks.drop i).any fun k => iEq (L.getD o.toNat default).Kind k)
 | n, i, 0, hi, hf => by omega
 | 0, i, f + 1, hi, hf => by
  rw [ref08_Fits_l3, iLt_f (by omega), List.drop_eq_nil_of_le (by omega)]
  rfl
 | n + 1, i, f + 1, hi, hf => by
  rw [ref08_Fits_l3, iLt_t (by omega), iLe_t ho.1, iLt_t ho.2]
  simp only [Bool.and_self, cond_true]
  rw [need_of (nIn_of ho), need_of (nIn_of ⟨by omega, by omega⟩), Int.toNat_natCast, List.drop_eq_getElem_cons (by omega), List.any_cons]
  have e : ks.getD i default = ks[i] := by simp [List.getD_eq_getElem?_getD, show i < ks.length by omega]
  rw [e]
  cases h : iEq (L.getD o.toNat default).Kind ks[i] with
  | true => rfl
  | false =>
   rw [cond_false, w64 (by omega), show (i : Int) + 1 = ((i + 1 : Nat) : Int) by omega, fits_l3 L o ks ho hk n (i + 1) f (by omega) (by omega)]
   rfl
theorem ref08_Fits_eq (L : List T_api_Decl) (c o : Int) : ref08_Fits L c o = some (fitD L c o) := by
 unfold ref08_Fits fitD
 rw [kinds_eq, bind_some']
 have hk : (kindsL c).length ≤ 100 := by
  unfold kindsL
  repeat' (first | (cases iEq c _ <;> simp only [cond_true, cond_false]) | decide)
 cases h : (iLt o 0 || iLe (L.length : Int) o) with
 | true =>
  obtain ⟨f, hf⟩ := fuel_pos
  rw [hf, ref08_Fits_l3]
  have : ((iLt 0 ((kindsL c).length : Int) && iLe 0 o) && iLt o (L.length : Int)) = false := by
   simp only [Bool.or_eq_true, iLt_iff, iLe_iff] at h
   simp only [Bool.and_eq_false_iff, iLt_iff', iLe_iff']
   omega
  rw [this]
  rfl
 | false =>
  simp only [Bool.or_eq_false_iff, iLt_iff', iLe_iff'] at h
  have := fits_l3 L o (kindsL c) ⟨h.1, h.2⟩ hk (kindsL c).length 0 fuel (by omega) (by have := fuel_big; omega)
  rw [show (0 : Int) = ((0 : Nat) : Int) from rfl, this, cond_false]
  congr 1
  generalize (L.getD o.toNat default).Kind = k
  unfold kindsL fitK
  rw [List.drop_zero]
  repeat' (first | (cases iEq c _ <;> simp only [cond_true, cond_false]) | simp [Bool.or_false])

def badD (L : List T_api_Decl) (d : T_api_Decl) : Int :=
 cond (iEq d.Kind 3) (cond (iLe 1 d.B && iLe d.B 1000 && iLe 0 d.A && iLe d.A d.B) 0 1) (cond (iEq d.Kind 6) (cond (iLe 1 d.A && iLe d.A 1000) (cond (iEq d.B 0) 0 2) 1)
  (cond (iEq d.Kind 7) (cond (fitW d.A && fitD L 117 d.B) 0 1) (cond (iEq d.Kind 1 || iEq d.Kind 2 || iEq d.Kind 4 || iEq d.Kind 5) (cond (iEq d.A 0 && iEq d.B 0) 0 2) 6)))
theorem decl_one_eq (L : List T_api_Decl) (d : T_api_Decl) : decl_one L d = some (badD L d) := by
 unfold decl_one badD decl_units
 rw [word_Fits_eq, decl_Fits_eq]
 simp only [bind_some', cond_not, cond_some]
 cases h3 : iEq d.Kind 3 with
 | true => simp only [cond_true]; 
 | false =>
  cases h6 : iEq d.Kind 6 with
  | true => simp only [cond_true, cond_false]
  | false =>
   cases h7 : iEq d.Kind 7 with
   | true =>
    simp only [cond_true, cond_false]
    cases fitW d.A <;> simp [cond_some]
   | false =>
    simp only [cond_false]
    cases h1 : iEq d.Kind 1 <;> cases h2 : iEq d.Kind 2 <;> cases h4 : iEq d.Kind 4 <;> cases h5 : iEq d.Kind 5 <;> rfl
theorem ref08_one_eq (L : List T_api_Decl) (d : T_api_Decl) : ref08_one L d = some (badD L d) := by
 unfold ref08_one badD
 rw [ref03_Fits_eq, ref08_Fits_eq]
 by_cases h : d.Kind < 1 ∨ 7 < d.Kind
 ·rw [show (iLt d.Kind 1 || iLt 7 d.Kind) = true by simp only [Bool.or_eq_true, iLt_iff]; exact h, cond_true]
  rw [iEq_f (show d.Kind ≠ 3 by omega), iEq_f (show d.Kind ≠ 6 by omega), iEq_f (show d.Kind ≠ 7 by omega), iEq_f (show d.Kind ≠ 1 by omega), iEq_f (show d.Kind ≠ 2 by omega), iEq_f (show d.Kind ≠ 4 by omega), iEq_f (show d.Kind ≠ 5 by omega)]
  rfl
 ·rw [show (iLt d.Kind 1 || iLt 7 d.Kind) = false by simp only [Bool.or_eq_false_iff, iLt_iff']; omega, cond_false]
  have ne : ∀ a b : Int, iNe a b = !iEq a b := fun a b => by unfold iNe iEq; simp
  have lt : ∀ a b : Int, iLt a b = !iLe b a := fun a b => by
   unfold iLt iLe
   by_cases hab : a < b
   ·rw [decide_eq_true hab, decide_eq_false (by omega)]; rfl
   ·rw [decide_eq_false hab, decide_eq_true (by omega)]; rfl
  have cases7 : d.Kind = 1 ∨ d.Kind = 2 ∨ d.Kind = 3 ∨ d.Kind = 4 ∨ d.Kind = 5 ∨ d.Kind = 6 ∨ d.Kind = 7 := by omega
  simp only [ne, lt]
  rcases cases7 with e | e | e | e | e | e | e <;> rw [e] <;> simp only [show iEq 1 3 = false from rfl, show iEq 1 6 = false from rfl, show iEq 1 7 = false from rfl, show iEq 1 1 = true from rfl, show iEq 2 3 = false from rfl, show iEq 2 6 = false from rfl, show iEq 2 7 = false from rfl, show iEq 2 1 = false from rfl, show iEq 2 2 = true from rfl, show iEq 3 3 = true from rfl, show iEq 3 6 = false from rfl, show iEq 3 7 = false from rfl, show iEq 4 3 = false from rfl, show iEq 4 6 = false from rfl, show iEq 4 7 = false from rfl, show iEq 4 1 = false from rfl, show iEq 4 2 = false from rfl, show iEq 4 4 = true from rfl, show iEq 5 3 = false from rfl, show iEq 5 6 = false from rfl, show iEq 5 7 = false from rfl, show iEq 5 1 = false from rfl, show iEq 5 2 = false from rfl, show iEq 5 4 = false from rfl, show iEq 5 5 = true from rfl, show iEq 6 3 = false from rfl, show iEq 6 6 = true from rfl, show iEq 6 7 = false from rfl, show iEq 7 3 = false from rfl, show iEq 7 6 = false from rfl, show iEq 7 7 = true from rfl, cond_true, cond_false, Bool.false_and, Bool.true_and, Bool.not_true, Bool.not_false, Bool.or_false, Bool.false_or, Bool.or_true, Bool.true_or, bind_some', Bool.not_not, Bool.and_false, Bool.and_true]
  all_goals first
   | rfl
   | (cases fitW d.A <;> simp [cond_some] <;> (cases fitD L 117 d.B <;> rfl))
   | (cases iLe 1 d.B <;> cases iLe d.B 1000 <;> cases iLe 0 d.A <;> cases iLe d.A d.B <;> rfl)
   | (cases iLe 1 d.A <;> cases iLe d.A 1000 <;> cases iEq d.B 0 <;> rfl)
   | (cases iEq d.A 0 <;> cases iEq d.B 0 <;> rfl)
def chkD (L : List T_api_Decl) : List T_api_Decl → Int → Int × Int
 | [], _ => (0, 0)
 | d :: t, i => cond (iNe (badD L d) 0) (i, badD L d) (chkD L t (i + 1))
def chkL (L : List T_api_Decl) : Int × Int := cond (iLt 32 (L.length : Int)) (0, 4) (chkD L L 0)
theorem decl_Check_l3_eq (L : List T_api_Decl) (hL : L.length ≤ 32) : ∀ (n i f : Nat), i + n = L.length → n < f → decl_Check_l3 L f (i : Int) = some (chkD L (L.drop i) (i : Int))
 | n, i, 0, hi, hf => by omega
 | 0, i, f + 1, hi, hf => by
  rw [decl_Check_l3, iLt_f (by omega), List.drop_eq_nil_of_le (by omega)]
  rfl
 | n + 1, i, f + 1, hi, hf => by
  rw [decl_Check_l3, iLt_t (by omega), cond_true, need_of (nIn_of ⟨by omega, by omega⟩), Int.toNat_natCast, decl_one_eq, bind_some', getD_drop L i (by omega), chkD, w64 (by omega), show (i : Int) + 1 = ((i + 1 : Nat) : Int) by omega, decl_Check_l3_eq L hL n (i + 1) f (by omega) (by omega), cond_some]
theorem decl_Check_eq (L : List T_api_Decl) : decl_Check L = some (chkL L) := by
 unfold decl_Check chkL
 by_cases h : 32 < (L.length : Int)
 ·rw [iLt_t h]; rfl
 ·rw [iLt_f (by omega), cond_false, cond_false]
  exact decl_Check_l3_eq L (by omega) L.length 0 fuel (by omega) (by have := fuel_big; omega)
theorem ref08_Check_l3_eq (L : List T_api_Decl) (hL : L.length ≤ 32) : ∀ (n i f : Nat), i + n = L.length → n < f → ref08_Check_l3 L f (i : Int) = some (chkD L (L.drop i) (i : Int))
 | n, i, 0, hi, hf => by omega
 | 0, i, f + 1, hi, hf => by
  rw [ref08_Check_l3, iLt_f (by omega), List.drop_eq_nil_of_le (by omega)]
  rfl
 | n + 1, i, f + 1, hi, hf => by
  rw [ref08_Check_l3, iLt_t (by omega), cond_true, need_of (nIn_of ⟨by omega, by omega⟩), Int.toNat_natCast, ref08_one_eq, bind_some', getD_drop L i (by omega), chkD, w64 (by omega), show (i : Int) + 1 = ((i + 1 : Nat) : Int) by omega, ref08_Check_l3_eq L hL n (i + 1) f (by omega) (by omega), cond_some]
theorem ref08_Check_eq (L : List T_api_Decl) : ref08_Check L = some (chkL L) := by
 unfold ref08_Check chkL
 by_cases h : 32 < (L.length : Int)
 ·rw [iLt_t h]; rfl
 ·rw [iLt_f (by omega), cond_false, cond_false]
  exact ref08_Check_l3_eq L (by omega) L.length 0 fuel (by omega) (by have := fuel_big; omega)
end LJ
end

/- Plain laws of objects as bytes. -/
section
namespace LJ
open Go Go.RowKit
set_option linter.unusedVariables false
set_option linter.unusedSimpArgs false

structure RngD (d : T_api_Decl) : Prop where
 k : 1 ≤ d.Kind ∧ d.Kind ≤ 7
 a : -2147483648 ≤ d.A ∧ d.A < 2147483648
 b : 0 ≤ d.B ∧ d.B < 2147483648
 a0 : d.Kind ≠ 7 → 0 ≤ d.A
 az : d.Kind ≠ 3 → d.Kind ≠ 6 → d.Kind ≠ 7 → d.A = 0
 bz : d.Kind ≠ 3 → d.Kind ≠ 7 → d.B = 0
theorem chkD_ok {L : List T_api_Decl} : ∀ {M : List T_api_Decl} {i : Int}, (chkD L M i).2 = 0 → ∀ d ∈ M, badD L d = 0
 | [], i, h => fun d hd => by cases hd
 | x :: M, i, h => by
  unfold chkD at h
  by_cases hx : badD L x = 0
  ·rw [iNe_f hx, cond_false] at h
   intro d hd
   rcases List.mem_cons.1 hd with rfl | hd
   ·exact hx
   ·exact chkD_ok h d hd
  ·rw [iNe_t hx, cond_true] at h
   exact absurd h hx

def putD (d : T_api_Decl) : List UInt8 := UInt8.ofNat d.Kind.toNat :: (if d.Kind = 3 then numL d.A.toNat ++ numL d.B.toNat else if d.Kind = 6 then numL d.A.toNat else if d.Kind = 7 then numL (zig d.A) ++ numL d.B.toNat else [])
def putDs (L : List T_api_Decl) : List UInt8 := numL L.length ++ L.flatMap putD
end LJ
end

/- Plain laws of objects that are read. -/
section
namespace LJ
open Go Go.RowKit
set_option linter.unusedVariables false
set_option linter.unusedSimpArgs false

def rdDeclC (b : UInt8) (t : List UInt8) : T_api_Decl × Int × List UInt8 :=
 cond (iLt (b.toNat : Int) 1 || iLt 7 (b.toNat : Int)) (⟨b.toNat, 0, 0⟩, 6, t)
  (cond (iEq (b.toNat : Int) 3) (⟨b.toNat, capN (rdN t 0), capN (rdN (rdN t 0).2.2 (rdN t 0).1)⟩, (rdN (rdN t 0).2.2 (rdN t 0).1).1, (rdN (rdN t 0).2.2 (rdN t 0).1).2.2)
  (cond (iEq (b.toNat : Int) 6) (⟨b.toNat, capN (rdN t 0), 0⟩, (rdN t 0).1, (rdN t 0).2.2)
  (cond (iEq (b.toNat : Int) 7) (⟨b.toNat, zag (rdN t 0).2.1, capN (rdN (rdN t 0).2.2 (rdN t 0).1)⟩, (rdN (rdN t 0).2.2 (rdN t 0).1).1, (rdN (rdN t 0).2.2 (rdN t 0).1).2.2)
  (⟨b.toNat, 0, 0⟩, 0, t))))
def rdDecl : List UInt8 → T_api_Decl × Int × List UInt8
 | [] => (⟨0, 0, 0⟩, 3, [])
 | b :: t => rdDeclC b t
def rdDecls : Nat → List UInt8 → List T_api_Decl → List T_api_Decl × Int × List UInt8
 | 0, l, acc => (acc, 0, l)
 | n + 1, l, acc => cond (iEq (rdDecl l).2.1 0) (rdDecls n (rdDecl l).2.2 (acc ++ [(rdDecl l).1])) ([], (rdDecl l).2.1, [])
def getDs (l : List UInt8) : List T_api_Decl × Int × List UInt8 :=
 cond (iEq (rdN l 0).1 0) (cond (iLt 32 ((rdN l 0).2.1 : Int)) ([], 4, [])
  (cond (iEq (rdDecls (rdN l 0).2.1 (rdN l 0).2.2 []).2.1 0)
   (cond (iEq (chkL (rdDecls (rdN l 0).2.1 (rdN l 0).2.2 []).1).2 0) ((rdDecls (rdN l 0).2.1 (rdN l 0).2.2 []).1, 0, (rdDecls (rdN l 0).2.1 (rdN l 0).2.2 []).2.2) ([], (chkL (rdDecls (rdN l 0).2.1 (rdN l 0).2.2 []).1).2, []))
   ([], (rdDecls (rdN l 0).2.1 (rdN l 0).2.2 []).2.1, [])))
  ([], (rdN l 0).1, [])
end LJ
end

/- Plain laws of operations: their names and forms. -/
section
namespace LJ
open Go Go.RowKit
set_option linter.unusedVariables false
set_option linter.unusedSimpArgs false

def opNames : List ByteArray := [(⟨#[112, 117, 115, 104]⟩ : ByteArray), (⟨#[108, 111, 97, 100]⟩ : ByteArray), (⟨#[115, 116, 111, 114, 101]⟩ : ByteArray), (⟨#[97, 100, 100]⟩ : ByteArray), (⟨#[115, 117, 98]⟩ : ByteArray), (⟨#[109, 117, 108]⟩ : ByteArray), (⟨#[100, 105, 118]⟩ : ByteArray), (⟨#[109, 111, 100]⟩ : ByteArray), (⟨#[110, 101, 103]⟩ : ByteArray), (⟨#[108, 116]⟩ : ByteArray), (⟨#[101, 113]⟩ : ByteArray), (⟨#[97, 110, 100]⟩ : ByteArray), (⟨#[111, 114]⟩ : ByteArray), (⟨#[120, 111, 114]⟩ : ByteArray), (⟨#[115, 104, 108]⟩ : ByteArray), (⟨#[115, 104, 114]⟩ : ByteArray), (⟨#[100, 117, 112]⟩ : ByteArray), (⟨#[100, 114, 111, 112]⟩ : ByteArray), (⟨#[106, 117, 109, 112]⟩ : ByteArray), (⟨#[122, 101, 114, 111]⟩ : ByteArray), (⟨#[99, 97, 108, 108]⟩ : ByteArray), (⟨#[114, 101, 116]⟩ : ByteArray), (⟨#[115, 101, 108, 102]⟩ : ByteArray), (⟨#[110, 111, 119]⟩ : ByteArray), (⟨#[111, 117, 116]⟩ : ByteArray), (⟨#[121, 105, 101, 108, 100]⟩ : ByteArray), (⟨#[119, 97, 105, 116]⟩ : ByteArray), (⟨#[119, 97, 105, 116, 102, 111, 114]⟩ : ByteArray), (⟨#[115, 108, 101, 101, 112]⟩ : ByteArray), (⟨#[117, 110, 108, 111, 99, 107]⟩ : ByteArray), (⟨#[112, 111, 115, 116]⟩ : ByteArray), (⟨#[103, 105, 118, 101]⟩ : ByteArray), (⟨#[99, 119, 97, 105, 116]⟩ : ByteArray), (⟨#[99, 119, 97, 105, 116, 102, 111, 114]⟩ : ByteArray), (⟨#[115, 105, 103, 110, 97, 108]⟩ : ByteArray), (⟨#[98, 114, 111, 97, 100, 99, 97, 115, 116]⟩ : ByteArray), (⟨#[101, 110, 114, 111, 108]⟩ : ByteArray), (⟨#[108, 101, 97, 118, 101]⟩ : ByteArray), (⟨#[97, 114, 114, 105, 118, 101]⟩ : ByteArray), (⟨#[97, 114, 114, 105, 118, 101, 102, 111, 114]⟩ : ByteArray), (⟨#[115, 112, 97, 119, 110]⟩ : ByteArray), (⟨#[106, 111, 105, 110]⟩ : ByteArray), (⟨#[106, 111, 105, 110, 102, 111, 114]⟩ : ByteArray), (⟨#[103, 114, 97, 110, 116]⟩ : ByteArray), (⟨#[119, 97, 105, 118, 101]⟩ : ByteArray), (⟨#[114, 101, 97, 100]⟩ : ByteArray), (⟨#[119, 114, 105, 116, 101]⟩ : ByteArray), (⟨#[98, 101, 103, 105, 110]⟩ : ByteArray), (⟨#[99, 111, 109, 109, 105, 116]⟩ : ByteArray), (⟨#[99, 108, 97, 105, 109]⟩ : ByteArray), (⟨#[100, 101, 97, 100]⟩ : ByteArray), (⟨#[109, 101, 110, 100]⟩ : ByteArray)]
def opForms : List ByteArray := [(⟨#[110]⟩ : ByteArray), (⟨#[107]⟩ : ByteArray), (⟨#[107]⟩ : ByteArray), ByteArray.empty, ByteArray.empty, ByteArray.empty, ByteArray.empty, ByteArray.empty, ByteArray.empty, ByteArray.empty, ByteArray.empty, ByteArray.empty, ByteArray.empty, ByteArray.empty, ByteArray.empty, ByteArray.empty, ByteArray.empty, ByteArray.empty, (⟨#[116]⟩ : ByteArray), (⟨#[116]⟩ : ByteArray), (⟨#[102]⟩ : ByteArray), ByteArray.empty, ByteArray.empty, ByteArray.empty, ByteArray.empty, ByteArray.empty, (⟨#[119]⟩ : ByteArray), (⟨#[119]⟩ : ByteArray), ByteArray.empty, (⟨#[117]⟩ : ByteArray), (⟨#[115]⟩ : ByteArray), (⟨#[112]⟩ : ByteArray), (⟨#[99, 109]⟩ : ByteArray), (⟨#[99, 109]⟩ : ByteArray), (⟨#[99]⟩ : ByteArray), (⟨#[99]⟩ : ByteArray), (⟨#[98]⟩ : ByteArray), (⟨#[98]⟩ : ByteArray), (⟨#[98]⟩ : ByteArray), (⟨#[98]⟩ : ByteArray), (⟨#[102]⟩ : ByteArray), (⟨#[106, 106]⟩ : ByteArray), (⟨#[106, 106]⟩ : ByteArray), ByteArray.empty, ByteArray.empty, (⟨#[118]⟩ : ByteArray), (⟨#[118]⟩ : ByteArray), ByteArray.empty, ByteArray.empty, (⟨#[113]⟩ : ByteArray), (⟨#[109]⟩ : ByteArray), (⟨#[109]⟩ : ByteArray)]
def opFormsD : List ByteArray := [(⟨#[110]⟩ : ByteArray), (⟨#[107]⟩ : ByteArray), (⟨#[107]⟩ : ByteArray), (⟨#[46]⟩ : ByteArray), (⟨#[46]⟩ : ByteArray), (⟨#[46]⟩ : ByteArray), (⟨#[46]⟩ : ByteArray), (⟨#[46]⟩ : ByteArray), (⟨#[46]⟩ : ByteArray), (⟨#[46]⟩ : ByteArray), (⟨#[46]⟩ : ByteArray), (⟨#[46]⟩ : ByteArray), (⟨#[46]⟩ : ByteArray), (⟨#[46]⟩ : ByteArray), (⟨#[46]⟩ : ByteArray), (⟨#[46]⟩ : ByteArray), (⟨#[46]⟩ : ByteArray), (⟨#[46]⟩ : ByteArray), (⟨#[116]⟩ : ByteArray), (⟨#[116]⟩ : ByteArray), (⟨#[102]⟩ : ByteArray), (⟨#[46]⟩ : ByteArray), (⟨#[46]⟩ : ByteArray), (⟨#[46]⟩ : ByteArray), (⟨#[46]⟩ : ByteArray), (⟨#[46]⟩ : ByteArray), (⟨#[119]⟩ : ByteArray), (⟨#[119]⟩ : ByteArray), (⟨#[46]⟩ : ByteArray), (⟨#[117]⟩ : ByteArray), (⟨#[115]⟩ : ByteArray), (⟨#[112]⟩ : ByteArray), (⟨#[99, 109]⟩ : ByteArray), (⟨#[99, 109]⟩ : ByteArray), (⟨#[99]⟩ : ByteArray), (⟨#[99]⟩ : ByteArray), (⟨#[98]⟩ : ByteArray), (⟨#[98]⟩ : ByteArray), (⟨#[98]⟩ : ByteArray), (⟨#[98]⟩ : ByteArray), (⟨#[102]⟩ : ByteArray), (⟨#[106, 106]⟩ : ByteArray), (⟨#[106, 106]⟩ : ByteArray), (⟨#[46]⟩ : ByteArray), (⟨#[46]⟩ : ByteArray), (⟨#[118]⟩ : ByteArray), (⟨#[118]⟩ : ByteArray), (⟨#[46]⟩ : ByteArray), (⟨#[46]⟩ : ByteArray), (⟨#[113]⟩ : ByteArray), (⟨#[109]⟩ : ByteArray), (⟨#[109]⟩ : ByteArray)]
theorem opNames_len : opNames.length = 52 := by decide
theorem opForms_len : opForms.length = 52 := by decide
theorem opFormsD_len : opFormsD.length = 52 := by decide
theorem fields_names : strings_Fields (⟨#[112, 117, 115, 104, 32, 108, 111, 97, 100, 32, 115, 116, 111, 114, 101, 32, 97, 100, 100, 32, 115, 117, 98, 32, 109, 117, 108, 32, 100, 105, 118, 32, 109, 111, 100, 32, 110, 101, 103, 32, 108, 116, 32, 101, 113, 32, 97, 110, 100, 32, 111, 114, 32, 120, 111, 114, 32, 115, 104, 108, 32, 115, 104, 114, 32, 100, 117, 112, 32, 100, 114, 111, 112, 32, 106, 117, 109, 112, 32, 122, 101, 114, 111, 32, 99, 97, 108, 108, 32, 114, 101, 116, 32, 115, 101, 108, 102, 32, 110, 111, 119, 32, 111, 117, 116, 32, 121, 105, 101, 108, 100, 32, 119, 97, 105, 116, 32, 119, 97, 105, 116, 102, 111, 114, 32, 115, 108, 101, 101, 112, 32, 117, 110, 108, 111, 99, 107, 32, 112, 111, 115, 116, 32, 103, 105, 118, 101, 32, 99, 119, 97, 105, 116, 32, 99, 119, 97, 105, 116, 102, 111, 114, 32, 115, 105, 103, 110, 97, 108, 32, 98, 114, 111, 97, 100, 99, 97, 115, 116, 32, 101, 110, 114, 111, 108, 32, 108, 101, 97, 118, 101, 32, 97, 114, 114, 105, 118, 101, 32, 97, 114, 114, 105, 118, 101, 102, 111, 114, 32, 115, 112, 97, 119, 110, 32, 106, 111, 105, 110, 32, 106, 111, 105, 110, 102, 111, 114, 32, 103, 114, 97, 110, 116, 32, 119, 97, 105, 118, 101, 32, 114, 101, 97, 100, 32, 119, 114, 105, 116, 101, 32, 98, 101, 103, 105, 110, 32, 99, 111, 109, 109, 105, 116, 32, 99, 108, 97, 105, 109, 32, 100, 101, 97, 100, 32, 109, 101, 110, 100]⟩ : ByteArray) = some opNames := by decide +kernel
theorem fields_forms : strings_Fields (⟨#[110, 32, 107, 32, 107, 32, 46, 32, 46, 32, 46, 32, 46, 32, 46, 32, 46, 32, 46, 32, 46, 32, 46, 32, 46, 32, 46, 32, 46, 32, 46, 32, 46, 32, 46, 32, 116, 32, 116, 32, 102, 32, 46, 32, 46, 32, 46, 32, 46, 32, 46, 32, 119, 32, 119, 32, 46, 32, 117, 32, 115, 32, 112, 32, 99, 109, 32, 99, 109, 32, 99, 32, 99, 32, 98, 32, 98, 32, 98, 32, 98, 32, 102, 32, 106, 106, 32, 106, 106, 32, 46, 32, 46, 32, 118, 32, 118, 32, 46, 32, 46, 32, 113, 32, 109, 32, 109]⟩ : ByteArray) = some opFormsD := by decide +kernel
def opK (k : Int) : Bool := iLe 0 k && iLt k 52
theorem opK_iff {k : Int} : opK k = true ↔ 0 ≤ k ∧ k < 52 := by unfold opK; simp only [Bool.and_eq_true, iLe_iff, iLt_iff]
theorem opK_iff' {k : Int} : opK k = false ↔ ¬ (0 ≤ k ∧ k < 52) := by rw [← opK_iff]; simp
theorem op_known_eq (k : Int) : op_known k = some (opK k) := rfl
theorem ref06_Known_eq (k : Int) : ref06_Known k = some (opK k) := by
 unfold ref06_Known opK
 congr 1
 have : iLe k 51 = iLt k 52 := by unfold iLe iLt; congr 1; rw [eq_iff_iff]; omega
 rw [this]
def nameL (k : Int) : ByteArray := cond (opK k) (opNames.getD k.toNat default) ByteArray.empty
def formL (k : Int) : ByteArray := cond (opK k) (opForms.getD k.toNat default) ByteArray.empty
theorem op_Name_eq (k : Int) : op_Name k = some (nameL k) := by
 unfold op_Name nameL
 rw [op_known_eq, bind_some', fields_names, bind_some']
 cases h : opK k with
 | false => rfl
 | true =>
  have := opK_iff.1 h
  rw [Bool.not_true, cond_false, cond_true, need_of (nIn_of (by rw [opNames_len]; omega))]
theorem forms_dot : ∀ k : Fin 52, cond (sEq (opFormsD.getD k default) (⟨#[46]⟩ : ByteArray)) ByteArray.empty (opFormsD.getD k default) = opForms.getD k default := by decide +kernel
theorem op_Form_eq (k : Int) : op_Form k = some (formL k) := by
 unfold op_Form formL
 rw [op_known_eq, bind_some', fields_forms, bind_some']
 cases h : opK k with
 | false => rfl
 | true =>
  have hk := opK_iff.1 h
  rw [Bool.not_true, cond_false, cond_true, need_of (nIn_of (by rw [opFormsD_len]; omega))]
  have := forms_dot ⟨k.toNat, by omega⟩
  dsimp only at this
  rw [← this]
  cases sEq (opFormsD.getD k.toNat default) (⟨#[46]⟩ : ByteArray) <;> rfl
theorem names_ne : ∀ k : Fin 52, opNames.getD k default ≠ ByteArray.empty := by decide +kernel
theorem nameL_empty (k : Int) : sEq (nameL k) ByteArray.empty = !opK k := by
 unfold nameL
 cases h : opK k with
 | false => exact sEq_t rfl
 | true =>
  have hk := opK_iff.1 h
  exact sEq_f (names_ne ⟨k.toNat, by omega⟩)
end LJ
end

/- Plain laws of instructions: what is wrong with one, and its bytes. -/
section
namespace LJ
open Go Go.RowKit
set_option linter.unusedVariables false
set_option linter.unusedSimpArgs false

theorem form_small : ∀ k : Fin 52, (opForms.getD k default).size ≤ 2 := by decide +kernel
theorem formL_size (k : Int) : (formL k).size ≤ 2 := by
 unfold formL
 cases h : opK k with
 | false => simp
 | true =>
  have hk := opK_iff.1 h
  exact form_small ⟨k.toNat, by omega⟩
theorem ref06_Forms_eq : ref06_Forms = some opForms := rfl
theorem ref06_Form_eq (k : Int) : ref06_Form k = some (formL k) := by
 unfold ref06_Form formL
 rw [ref06_Known_eq, bind_some', ref06_Forms_eq, bind_some']
 cases h : opK k with
 | false => rfl
 | true =>
  have := opK_iff.1 h
  rw [Bool.not_true, cond_false, cond_true, need_of (nIn_of (by rw [opForms_len]; omega))]

def inL (c n : Int) : Bool :=
 cond (iEq c 110) (fitW n) (cond (iEq c 107) (iLe 0 n && iLt n 8) (cond (iEq c 116) (iLe 0 n && iLt n 200) (cond (iEq c 102) (iLe 0 n && iLt n 16) (cond (iEq c 106) (iLe 1 n && iLe n 4) (iLe 0 n && iLt n 32)))))
theorem ins_in_eq (c n : Int) : ins_in c n = some (inL c n) := by
 unfold ins_in inL
 rw [word_Fits_eq, bind_some']
 simp only [cond_some]
 congr 1
 by_cases h : c = 119
 ·subst h; rfl
 ·rw [iEq_f h]; rfl
def mostL (c : Int) : Int := cond (iEq c 107) 7 (cond (iEq c 116) 199 (cond (iEq c 102) 15 (cond (iEq c 106) 4 31)))
def leastL (c : Int) : Int := cond (iEq c 106) 1 0
theorem most_eq (c : Int) : ref07_most c = some (mostL c) := by
 unfold ref07_most mostL
 simp only [cond_some]
theorem least_eq (c : Int) : ref07_least c = some (leastL c) := by
 unfold ref07_least leastL
 simp only [cond_some]
theorem inL_range (c n : Int) : inL c n = cond (iEq c 110) (fitW n) (!(iLt n (leastL c)) && !(iLt (mostL c) n)) := by
 have key : ∀ a b : Int, (!(iLt n a) && !(iLt b n)) = (iLe a n && iLt n (b + 1)) := fun a b => by
  rw [Bool.eq_iff_iff]
  simp only [Bool.and_eq_true, Bool.not_eq_true', iLt_iff', iLe_iff, iLt_iff]
  omega
 unfold inL leastL mostL
 cases iEq c 110 with
 | true => rfl
 | false =>
  rw [cond_false, cond_false]
  by_cases h1 : c = 107
  ·subst h1; exact (key 0 7).symm
  ·rw [iEq_f h1]
   by_cases h2 : c = 116
   ·subst h2; exact (key 0 199).symm
   ·rw [iEq_f h2]
    by_cases h3 : c = 102
    ·subst h3; exact (key 0 15).symm
    ·rw [iEq_f h3]
     by_cases h4 : c = 106
     ·subst h4
      rw [iEq_t rfl]
      simp only [cond_true, cond_false]
      rw [key 1 4, Bool.eq_iff_iff]
      simp only [Bool.and_eq_true, iLe_iff, iLt_iff]
      omega
     ·rw [iEq_f h4]; exact (key 0 31).symm
theorem inL_rng {c n : Int} (h : inL c n = true) : -2147483648 ≤ n ∧ n < 2147483648 ∧ (c ≠ 110 → 0 ≤ n) := by
 rw [inL_range] at h
 by_cases hc : c = 110
 ·rw [iEq_t hc, cond_true] at h
  unfold fitW at h
  simp only [Bool.and_eq_true, iLe_iff, iLt_iff] at h
  exact ⟨h.1, h.2, fun h' => absurd hc h'⟩
 ·rw [iEq_f hc, cond_false] at h
  simp only [Bool.and_eq_true, Bool.not_eq_true', iLt_iff'] at h
  have h1 : 0 ≤ leastL c ∧ mostL c ≤ 199 := by
   unfold leastL mostL
   cases iEq c 107 <;> cases iEq c 116 <;> cases iEq c 102 <;> cases iEq c 106 <;> simp only [cond_true, cond_false] <;> omega
  exact ⟨by omega, by omega, fun _ => by omega⟩

def okF (f : ByteArray) (A B : Int) : Bool := (iLe (f.size : Int) 0 || inL (byteAt f 0) A) && (iLe (f.size : Int) 1 || inL (byteAt f 1) B)
def zF (f : ByteArray) (A B : Int) : Bool := (iLt 0 (f.size : Int) || iEq A 0) && (iLt 1 (f.size : Int) || iEq B 0)
def jjF (f : ByteArray) (A B : Int) : Bool := sEq f (⟨#[106, 106]⟩ : ByteArray) && iLt B A
def chkF (f : ByteArray) (A B : Int) : Int := cond (okF f A B) (cond (jjF f A B) 1 (cond (zF f A B) 0 2)) 1
def chkI (x : T_api_Ins) : Int := cond (opK x.Op) (chkF (formL x.Op) x.A x.B) 6
theorem size3 {f : ByteArray} (hf : f.size ≤ 2) : f.size = 0 ∨ f.size = 1 ∨ f.size = 2 := by omega
theorem fuel3 : ∃ F, fuel = F + 1 + 1 + 1 := ⟨fuel - 3, by have := fuel_big; omega⟩
theorem l13_step {x : T_api_Ins} {f : ByteArray} {F i : Nat} (hi : i + f.size < 2) : ins_Check_l13 x f (F + 1) (i : Int) = cond (iNe ([x.A, x.B].getD (f.size + i) default) 0) (some 2) (ins_Check_l13 x f F ((i + 1 : Nat) : Int)) := by
 rw [ins_Check_l13, iLt_t (by omega), cond_true, need_of (nNn_of (by omega)), need_of (nIn_of (by omega)), need_of (nIn_of (by omega)), w64 (by omega), show ((f.size : Int) + (i : Int)).toNat = f.size + i by omega, show (i : Int) + 1 = ((i + 1 : Nat) : Int) by omega]
theorem l13_end {x : T_api_Ins} {f : ByteArray} {F i : Nat} (hi : ¬ i + f.size < 2) : ins_Check_l13 x f (F + 1) (i : Int) = some 0 := by
 rw [ins_Check_l13, iLt_f (by omega), cond_false]
theorem ne_eq (a b : Int) : iNe a b = !iEq a b := by unfold iNe iEq; simp
theorem zF_l13 (x : T_api_Ins) {f : ByteArray} (hf : f.size ≤ 2) : ins_Check_l13 x f fuel 0 = some (cond (zF f x.A x.B) 0 2) := by
 obtain ⟨F, hF⟩ := fuel3
 rw [hF, show (0 : Int) = ((0 : Nat) : Int) from rfl]
 unfold zF
 rcases size3 hf with h | h | h
 ·rw [l13_step (by omega), l13_step (by omega), l13_end (by omega), h, ne_eq, ne_eq]
  show cond (!iEq x.A 0) (some 2) (cond (!iEq x.B 0) (some 2) (some 0)) = _
  cases iEq x.A 0 <;> cases iEq x.B 0 <;> rfl
 ·rw [l13_step (by omega), l13_end (by omega), h, ne_eq]
  show cond (!iEq x.B 0) (some 2) (some 0) = _
  cases iEq x.B 0 <;> rfl
 ·rw [l13_end (by omega), h]
  rfl
theorem l33_step {x : T_api_Ins} {F i : Nat} (hi : i < 2) : ref07_Check_l33 x (F + 1) (i : Int) = cond (iNe ([x.A, x.B].getD i default) 0) (some 2) (ref07_Check_l33 x F ((i + 1 : Nat) : Int)) := by
 rw [ref07_Check_l33, iLt_t (by omega), cond_true, need_of (nIn_of ⟨by omega, by simp only [List.length_cons, List.length_nil]; omega⟩), w64 (by omega), Int.toNat_natCast, show (i : Int) + 1 = ((i + 1 : Nat) : Int) by omega]
theorem l33_end {x : T_api_Ins} {F i : Nat} (hi : ¬ i < 2) : ref07_Check_l33 x (F + 1) (i : Int) = some 0 := by
 rw [ref07_Check_l33, iLt_f (by omega), cond_false]
theorem zF_l33 (x : T_api_Ins) {f : ByteArray} (hf : f.size ≤ 2) : ref07_Check_l33 x fuel (f.size : Int) = some (cond (zF f x.A x.B) 0 2) := by
 obtain ⟨F, hF⟩ := fuel3
 rw [hF]
 unfold zF
 rcases size3 hf with h | h | h
 ·rw [h, l33_step (by omega), l33_step (by omega), l33_end (by omega), ne_eq, ne_eq]
  show cond (!iEq x.A 0) (some 2) (cond (!iEq x.B 0) (some 2) (some 0)) = _
  cases iEq x.A 0 <;> cases iEq x.B 0 <;> rfl
 ·rw [h, l33_step (by omega), l33_end (by omega), ne_eq]
  show cond (!iEq x.B 0) (some 2) (some 0) = _
  cases iEq x.B 0 <;> rfl
 ·rw [h, l33_end (by omega)]
  rfl
theorem l4_step {x : T_api_Ins} {f : ByteArray} {F i : Nat} (hi : i < f.size) (hf : f.size ≤ 2) : ins_Check_l4 x f (F + 1) (i : Int) = cond (inL (byteAt f i) ([x.A, x.B].getD i default)) (ins_Check_l4 x f F ((i + 1 : Nat) : Int)) (some 1) := by
 rw [ins_Check_l4, iLt_t (by omega), cond_true, need_of (nIn_of (by omega)), need_of (nIn_of (by omega)), Int.toNat_natCast, ins_in_eq, bind_some', cond_not, w64 (by omega), show (i : Int) + 1 = ((i + 1 : Nat) : Int) by omega]
theorem l4_end {x : T_api_Ins} {f : ByteArray} {F i : Nat} (hi : ¬ i < f.size) (hf : f.size ≤ 2) : ins_Check_l4 x f (F + 1) (i : Int) = some (cond (jjF f x.A x.B) 1 (cond (zF f x.A x.B) 0 2)) := by
 rw [ins_Check_l4, iLt_f (by omega), cond_false, need_of (nSl_of (by omega)), zF_l13 x hf]
 unfold jjF
 simp only [cond_some]
theorem r4_step {x : T_api_Ins} {f : ByteArray} {F i : Nat} (hi : i < f.size) (hf : f.size ≤ 2) : ref07_Check_l4 x f (F + 1) (i : Int) = cond (inL (byteAt f i) ([x.A, x.B].getD i default)) (ref07_Check_l4 x f F ((i + 1 : Nat) : Int)) (some 1) := by
 have h2 : nIn (i : Int) (([x.A, x.B] : List Int).length : Int) = true := nIn_of ⟨by omega, by simp only [List.length_cons, List.length_nil]; omega⟩
 have h1 : nIn (i : Int) (f.size : Int) = true := nIn_of (by omega)
 rw [ref07_Check_l4, iLt_t (by omega), cond_true, h1, h2, ref03_Fits_eq, least_eq, most_eq, inL_range, w64 (by omega), Int.toNat_natCast, show (i : Int) + 1 = ((i + 1 : Nat) : Int) by omega]
 simp only [need_of, bind_some', cond_not, ne_eq]
 generalize byteAt f i = c
 generalize ([x.A, x.B].getD i default) = v
 cases iEq c 110 with
 | true => simp only [cond_true, cond_false]
 | false =>
  simp only [cond_true, cond_false]
  cases iLt v (leastL c) <;> cases iLt (mostL c) v <;> rfl
theorem r4_end {x : T_api_Ins} {f : ByteArray} {F i : Nat} (hi : ¬ i < f.size) (hf : f.size ≤ 2) : ref07_Check_l4 x f (F + 1) (i : Int) = some (cond (jjF f x.A x.B) 1 (cond (zF f x.A x.B) 0 2)) := by
 rw [ref07_Check_l4, iLt_f (by omega), cond_false, zF_l33 x hf]
 unfold jjF
 simp only [cond_some]
theorem chkF_of {x : T_api_Ins} {f : ByteArray} (hf : f.size ≤ 2) (g : Nat → Int → Option Int) (hs : ∀ F i : Nat, i < f.size → g (F + 1) (i : Int) = cond (inL (byteAt f i) ([x.A, x.B].getD i default)) (g F ((i + 1 : Nat) : Int)) (some 1)) (he : ∀ F i : Nat, ¬ i < f.size → g (F + 1) (i : Int) = some (cond (jjF f x.A x.B) 1 (cond (zF f x.A x.B) 0 2))) : g fuel 0 = some (chkF f x.A x.B) := by
 obtain ⟨F, hF⟩ := fuel3
 rw [hF, show (0 : Int) = ((0 : Nat) : Int) from rfl]
 unfold chkF okF
 rcases size3 hf with h | h | h
 ·rw [he _ _ (by omega), h]; rfl
 ·rw [hs _ _ (by omega), he _ _ (by omega), h]
  show cond (inL (byteAt f 0) x.A) _ _ = _
  cases inL (byteAt f 0) x.A <;> rfl
 ·rw [hs _ _ (by omega), hs _ _ (by omega), he _ _ (by omega), h]
  show cond (inL (byteAt f 0) x.A) (cond (inL (byteAt f 1) x.B) _ _) _ = _
  cases inL (byteAt f 0) x.A <;> cases inL (byteAt f 1) x.B <;> rfl
theorem ins_Check_eq (x : T_api_Ins) : ins_Check x = some (chkI x) := by
 unfold ins_Check chkI
 rw [op_Name_eq, bind_some', nameL_empty, op_Form_eq, bind_some', cond_not]
 have hf := formL_size x.Op
 rw [chkF_of hf (ins_Check_l4 x (formL x.Op)) (fun F i hi => l4_step hi hf) (fun F i hi => l4_end hi hf), cond_some]
theorem ref07_Check_eq (x : T_api_Ins) : ref07_Check x = some (chkI x) := by
 unfold ref07_Check chkI
 rw [ref06_Known_eq, bind_some', ref06_Form_eq, bind_some', cond_not]
 have hf := formL_size x.Op
 rw [chkF_of hf (ref07_Check_l4 x (formL x.Op)) (fun F i hi => r4_step hi hf) (fun F i hi => r4_end hi hf), cond_some]
structure OkI (x : T_api_Ins) : Prop where
 op : 0 ≤ x.Op ∧ x.Op < 52
 a1 : 0 < (formL x.Op).size → inL (byteAt (formL x.Op) 0) x.A = true
 b1 : 1 < (formL x.Op).size → inL (byteAt (formL x.Op) 1) x.B = true
 a0 : (formL x.Op).size = 0 → x.A = 0
 b0 : (formL x.Op).size ≤ 1 → x.B = 0
theorem chkI_ok {x : T_api_Ins} (h : chkI x = 0) : OkI x := by
 unfold chkI at h
 cases hk : opK x.Op with
 | false => rw [hk] at h; cases h
 | true =>
  rw [hk, cond_true] at h
  unfold chkF at h
  cases h1 : okF (formL x.Op) x.A x.B with
  | false => rw [h1] at h; cases h
  | true =>
   rw [h1, cond_true] at h
   cases h2 : jjF (formL x.Op) x.A x.B with
   | true => rw [h2] at h; cases h
   | false =>
    rw [h2, cond_false] at h
    cases h3 : zF (formL x.Op) x.A x.B with
    | false => rw [h3] at h; cases h
    | true =>
     unfold okF at h1
     unfold zF at h3
     simp only [Bool.and_eq_true, Bool.or_eq_true, iLe_iff, iLt_iff, iEq_iff] at h1 h3
     exact ⟨opK_iff.1 hk, fun hs => h1.1.resolve_left (by omega), fun hs => h1.2.resolve_left (by omega), fun hs => h3.1.resolve_left (by omega), fun hs => h3.2.resolve_left (by omega)⟩

def putA (c n : Int) : List UInt8 := cond (iEq c 110) (numL (zig n)) (numL n.toNat)
def putI (x : T_api_Ins) : List UInt8 := UInt8.ofNat x.Op.toNat :: (cond (iLt 0 ((formL x.Op).size : Int)) (putA (byteAt (formL x.Op) 0) x.A) [] ++ cond (iLt 1 ((formL x.Op).size : Int)) (putA (byteAt (formL x.Op) 1) x.B) [])
end LJ
end

/- Plain laws of instructions that are read. -/
section
namespace LJ
open Go Go.RowKit
set_option linter.unusedVariables false
set_option linter.unusedSimpArgs false

abbrev GI := T_api_Ins × Int × List UInt8
def valA (c : Int) (r : Int × Nat × List UInt8) : Int := cond (iEq c 110) (zag r.2.1) (capN r)
def finI (k a b : Int) (t : List UInt8) : GI := cond (iEq (chkI ⟨k, a, b⟩) 0) (⟨k, a, b⟩, 0, t) (⟨0, 0, 0⟩, chkI ⟨k, a, b⟩, [])
def getIA (k : Int) (f : ByteArray) (t : List UInt8) : GI :=
 cond (iEq (f.size : Int) 0) (finI k 0 0 t)
  (cond (iEq (rdN t 0).1 0)
   (cond (iEq (f.size : Int) 1) (finI k (valA (byteAt f 0) (rdN t 0)) 0 (rdN t 0).2.2)
    (cond (iEq (rdN (rdN t 0).2.2 0).1 0) (finI k (valA (byteAt f 0) (rdN t 0)) (valA (byteAt f 1) (rdN (rdN t 0).2.2 0)) (rdN (rdN t 0).2.2 0).2.2) (⟨0, 0, 0⟩, (rdN (rdN t 0).2.2 0).1, [])))
   (⟨0, 0, 0⟩, (rdN t 0).1, []))
def getIC (b : UInt8) (t : List UInt8) : GI := cond (opK (b.toNat : Int)) (getIA (b.toNat : Int) (formL (b.toNat : Int)) t) (⟨0, 0, 0⟩, 6, [])
def getI : List UInt8 → GI
 | [] => (⟨0, 0, 0⟩, 3, [])
 | b :: t => getIC b t
def outI (s : ByteArray) (r : GI) : Option (T_api_Ins × Int × Int) := some (r.1, cond (iEq r.2.1 0) ((s.size : Int) - r.2.2.length) 0, r.2.1)
end LJ
end

/- Plain laws of bits: how many bits a number has. -/
section
namespace LJ
open Go Go.RowKit
set_option linter.unusedVariables false
set_option linter.unusedSimpArgs false

theorem mask_low (x M k c : Nat) (hk : k ≤ 7) (hM : ∀ i, i < 8 → M.testBit i = c.testBit i) (hc : ∀ i, c.testBit i = true → i + k < 8) : (x >>> k &&& M) % 2 ^ 8 = (x % 2 ^ 8) >>> k &&& c := by
 apply Nat.eq_of_testBit_eq
 intro i
 rw [Nat.testBit_mod_two_pow, Nat.testBit_and, Nat.testBit_and, Nat.testBit_shiftRight, Nat.testBit_shiftRight, Nat.testBit_mod_two_pow]
 by_cases hi : i < 8
 ·rw [hM i hi]
  cases h : c.testBit i with
  | false => simp
  | true =>
   have := hc i h
   simp [hi, show k + i < 8 by omega]
 ·cases h : c.testBit i with
  | false => simp [hi]
  | true => have := hc i h; omega
theorem mask_high (x M k : Nat) : (x >>> k &&& M) / 2 ^ 8 = (x / 2 ^ 8) >>> k &&& (M / 2 ^ 8) := by
 apply Nat.eq_of_testBit_eq
 intro i
 rw [Nat.testBit_div_two_pow, Nat.testBit_and, Nat.testBit_and, Nat.testBit_shiftRight, Nat.testBit_shiftRight, Nat.testBit_div_two_pow, Nat.testBit_div_two_pow]
 congr 2
def rep (c : Nat) : Nat → Nat
 | 0 => 0
 | n + 1 => c + 256 * rep c n
def digs : Nat → Nat → List Nat
 | 0, _ => []
 | n + 1, x => x % 256 :: digs n (x / 256)
def stepN (k M x : Nat) : Nat := (x >>> k &&& M) + (x &&& M)
theorem rep_mod {c : Nat} (hc : c < 256) (n : Nat) : rep c (n + 1) % 2 ^ 8 = c ∧ rep c (n + 1) / 2 ^ 8 = rep c n := by
 simp only [rep]
 omega
theorem rep_bit {c : Nat} (hc : c < 256) (n i : Nat) (hi : i < 8) : (rep c (n + 1)).testBit i = c.testBit i := by
 have h := (rep_mod hc n).1
 have := Nat.testBit_mod_two_pow (rep c (n + 1)) 8 i
 rw [h] at this
 rw [this]
 simp [hi]
theorem stepN_digs {c k : Nat} (hc : c < 256) (hk : k ≤ 7) (hb : ∀ i, c.testBit i = true → i + k < 8) (hs : ∀ b, b < 256 → stepN k c b < 256) : ∀ n x, digs n (stepN k (rep c n) x) = (digs n x).map (stepN k c)
 | 0, x => rfl
 | n + 1, x => by
  have h1 := mask_low x (rep c (n + 1)) k c hk (fun i hi => rep_bit hc n i hi) hb
  have h2 := mask_low x (rep c (n + 1)) 0 c (by omega) (fun i hi => rep_bit hc n i hi) (fun i h => by have := hb i h; omega)
  have h3 := mask_high x (rep c (n + 1)) k
  have h4 := mask_high x (rep c (n + 1)) 0
  rw [(rep_mod hc n).2] at h3 h4
  have h5 := hs (x % 256) (by omega)
  simp only [Nat.shiftRight_zero] at h2 h4
  unfold stepN at h5
  have e1 : stepN k (rep c (n + 1)) x % 256 = stepN k c (x % 256) := by
   unfold stepN
   simp only [Nat.reducePow] at h1 h2
   omega
  have e2 : stepN k (rep c (n + 1)) x / 256 = stepN k (rep c n) (x / 256) := by
   unfold stepN
   simp only [Nat.reducePow] at h1 h2 h3 h4
   omega
  simp only [digs, List.map_cons]
  rw [e1, e2, stepN_digs hc hk hb hs n (x / 256)]

theorem third_digs : ∀ n z, (∀ b ∈ digs n z, b / 16 ≤ 4 ∧ b % 16 ≤ 4) → z < 256 ^ n → digs n ((z >>> 4 + z) &&& rep 15 n) = (digs n z).map fun b => b / 16 + b % 16
 | 0, z, _, _ => rfl
 | n + 1, z, hb, hz => by
  have h2 := mask_low (z >>> 4 + z) (rep 15 (n + 1)) 0 15 (by omega) (fun i hi => rep_bit (by decide) n i hi) (fun i h => by
   by_cases hi : i < 8
   ·omega
   ·rw [show (15 : Nat) = 2 ^ 4 - 1 from rfl, Nat.testBit_two_pow_sub_one] at h
    simp at h
    omega)
  have h4 := mask_high (z >>> 4 + z) (rep 15 (n + 1)) 0
  rw [(rep_mod (by decide) n).2] at h4
  simp only [Nat.shiftRight_zero, Nat.reducePow] at h2 h4
  rw [show (15 : Nat) = 2 ^ 4 - 1 from rfl, Nat.and_two_pow_sub_one_eq_mod] at h2
  obtain ⟨g1, g2⟩ := hb (z % 256) (by simp [digs])
  have hr : (z / 256) % 16 ≤ 4 := by
   cases n with
   | zero => simp at hz; omega
   | succ n =>
    have := (hb (z / 256 % 256) (by simp [digs])).2
    rwa [Nat.mod_mod_of_dvd _ (by decide : 16 ∣ 256)] at this
  have hs : z >>> 4 = z / 16 := by rw [Nat.shiftRight_eq_div_pow]
  have e3 : (z >>> 4 + z) / 256 = (z / 256) >>> 4 + z / 256 := by
   rw [hs, Nat.shiftRight_eq_div_pow]
   omega
  simp only [digs, List.map_cons]
  have hz' : z / 256 < 256 ^ n := by
   rw [Nat.pow_succ] at hz
   exact Nat.div_lt_of_lt_mul (by rw [Nat.mul_comm]; exact hz)
  rw [h4, e3, third_digs n (z / 256) (fun b h => hb b (by simp [digs, h])) hz', h2, hs]
  congr 1
  omega

theorem sum8 {z b0 b1 b2 b3 b4 b5 b6 b7 Z1 Z2 Z3 Z4 Z5 Z6 : Nat} (h0 : b0 ≤ 8) (h1 : b1 ≤ 8) (h2 : b2 ≤ 8) (h3 : b3 ≤ 8) (h4 : b4 ≤ 8) (h5 : b5 ≤ 8) (h6 : b6 ≤ 8) (h7 : b7 ≤ 8)
  (e0 : z = b0 + 256 * Z1) (e1 : Z1 = b1 + 256 * Z2) (e2 : Z2 = b2 + 256 * Z3) (e3 : Z3 = b3 + 256 * Z4) (e4 : Z4 = b4 + 256 * Z5) (e5 : Z5 = b5 + 256 * Z6) (e6 : Z6 = b6 + 256 * b7) :
  ∃ y v t, y = z / 256 + z ∧ y < 2 ^ 64 ∧ v = y / 65536 + y ∧ v < 2 ^ 64 ∧ t = v / 4294967296 + v ∧ t < 2 ^ 64 ∧ t % 128 = b0 + b1 + b2 + b3 + b4 + b5 + b6 + b7 := by
 have f0 : z / 256 = Z1 := by omega
 have f2 : (z / 256 + z) / 65536 = Z2 + Z3 := by rw [f0]; omega
 have f4 : ((z / 256 + z) / 65536 + (z / 256 + z)) / 4294967296 = Z4 + Z5 + Z6 + b7 := by rw [f2, f0]; omega
 refine ⟨_, _, _, rfl, by rw [f0]; omega, rfl, by rw [f2, f0]; omega, rfl, by rw [f4, f2, f0]; omega, ?_⟩
 rw [f4, f2, f0]
 omega

def popB (b : Nat) : Nat := b % 2 + b / 2 % 2 + b / 4 % 2 + b / 8 % 2 + b / 16 % 2 + b / 32 % 2 + b / 64 % 2 + b / 128 % 2
def cntN (x : Nat) : Nat := ((digs 8 x).map popB).sum
theorem byte_fin : ∀ b : Fin 256, stepN 1 85 b < 256 ∧ stepN 2 51 b < 256 ∧ stepN 2 51 (stepN 1 85 b) / 16 ≤ 4 ∧ stepN 2 51 (stepN 1 85 b) % 16 ≤ 4 ∧ stepN 2 51 (stepN 1 85 b) / 16 + stepN 2 51 (stepN 1 85 b) % 16 = popB b := by decide +kernel
theorem digs_lt : ∀ n x, ∀ b ∈ digs n x, b < 256
 | 0, x, b, h => by cases h
 | n + 1, x, b, h => by
  simp only [digs, List.mem_cons] at h
  rcases h with rfl | h
  ·omega
  ·exact digs_lt n (x / 256) b h
theorem fin_bit (c : Nat) (k : Nat) (hc : c < 256) (h : ∀ i : Fin 8, c.testBit i = true → (i : Nat) + k < 8) : ∀ i, c.testBit i = true → i + k < 8 := fun i hi => by
 by_cases h8 : i < 8
 ·exact h ⟨i, h8⟩ hi
 ·exfalso
  have : c.testBit i = false := Nat.testBit_lt_two_pow (Nat.lt_of_lt_of_le hc (by rw [show 256 = 2 ^ 8 from rfl]; exact Nat.pow_le_pow_right (by decide) (by omega)))
  rw [this] at hi
  cases hi
theorem digs_third {x : Nat} : digs 8 ((stepN 2 (rep 51 8) (stepN 1 (rep 85 8) x))) = (digs 8 x).map fun b => stepN 2 51 (stepN 1 85 b) := by
 rw [stepN_digs (by decide) (by decide) (fin_bit 51 2 (by decide) (by decide)) (fun b hb => (byte_fin ⟨b, hb⟩).2.1), stepN_digs (by decide) (by decide) (fin_bit 85 1 (by decide) (by decide)) (fun b hb => (byte_fin ⟨b, hb⟩).1), List.map_map]
 rfl

def stepC (x : Nat) : Nat := (stepN 2 (rep 51 8) (stepN 1 (rep 85 8) x) >>> 4 + stepN 2 (rep 51 8) (stepN 1 (rep 85 8) x)) &&& rep 15 8
theorem stepN_lt {k M x : Nat} (h : M + M < 18446744073709551616) : stepN k M x < 18446744073709551616 := by
 have h1 := Nat.and_le_right (n := x >>> k) (m := M)
 have h2 := Nat.and_le_right (n := x) (m := M)
 unfold stepN
 omega
theorem stepC_digs (x : Nat) : digs 8 (stepC x) = (digs 8 x).map popB := by
 have hlt : stepN 2 (rep 51 8) (stepN 1 (rep 85 8) x) < 256 ^ 8 := stepN_lt (by decide)
 unfold stepC
 rw [third_digs 8 _ (fun b hb => ?_) hlt, digs_third, List.map_map]
 ·refine List.map_congr_left fun b hb => ?_
  exact (byte_fin ⟨b, digs_lt 8 x b hb⟩).2.2.2.2
 ·rw [digs_third] at hb
  obtain ⟨c, hc, rfl⟩ := List.mem_map.1 hb
  have := byte_fin ⟨c, digs_lt 8 x c hc⟩
  exact ⟨this.2.2.1, this.2.2.2.1⟩
theorem cnt_steps (x : Nat) : ∃ y v t, y = stepC x / 256 + stepC x ∧ y < 2 ^ 64 ∧ v = y / 65536 + y ∧ v < 2 ^ 64 ∧ t = v / 4294967296 + v ∧ t < 2 ^ 64 ∧ t % 128 = cntN x := by
 have hd := stepC_digs x
 have hC : stepC x < 18446744073709551616 := Nat.lt_of_le_of_lt Nat.and_le_right (by decide : rep 15 8 < 18446744073709551616)
 have hle : ∀ b ∈ digs 8 (stepC x), b ≤ 8 := fun b hb => by
  rw [hd] at hb
  obtain ⟨c, hc, rfl⟩ := List.mem_map.1 hb
  unfold popB
  omega
 have hs : cntN x = (digs 8 (stepC x)).sum := by rw [hd]; rfl
 rw [hs]
 generalize stepC x = C at *
 simp only [digs, List.mem_cons, List.not_mem_nil, or_false, forall_eq_or_imp, forall_eq] at hle
 obtain ⟨g0, g1, g2, g3, g4, g5, g6, g7⟩ := hle
 obtain ⟨y, v, t, a1, a2, a3, a4, a5, a6, a7⟩ := sum8 (z := C) (Z1 := C / 256) (Z2 := C / 256 / 256) (Z3 := C / 256 / 256 / 256) (Z4 := C / 256 / 256 / 256 / 256) (Z5 := C / 256 / 256 / 256 / 256 / 256) (Z6 := C / 256 / 256 / 256 / 256 / 256 / 256) g0 g1 g2 g3 g4 g5 g6 g7 (by omega) (by omega) (by omega) (by omega) (by omega) (by omega) (by omega)
 refine ⟨y, v, t, a1, a2, a3, a4, a5, a6, ?_⟩
 rw [a7]
 simp only [digs, List.sum_cons, List.sum_nil]
 omega

theorem wu {n : Nat} (h : n < 18446744073709551616) : IntKind.u64.wrap (n : Int) = (n : Int) := by rw [IntKind.wrap_u64]; omega
theorem sh1 (a : Nat) : (a : Int) / (2 : Int) ^ min (1 : Int).toNat IntKind.u64.bits = ((a >>> 1 : Nat) : Int) := by
 rw [show min (1 : Int).toNat IntKind.u64.bits = 1 from rfl, Nat.shiftRight_eq_div_pow]; simp
theorem sh2 (a : Nat) : (a : Int) / (2 : Int) ^ min (2 : Int).toNat IntKind.u64.bits = ((a >>> 2 : Nat) : Int) := by
 rw [show min (2 : Int).toNat IntKind.u64.bits = 2 from rfl, Nat.shiftRight_eq_div_pow]; simp
theorem sh4 (a : Nat) : (a : Int) / (2 : Int) ^ min (4 : Int).toNat IntKind.u64.bits = ((a >>> 4 : Nat) : Int) := by
 rw [show min (4 : Int).toNat IntKind.u64.bits = 4 from rfl, Nat.shiftRight_eq_div_pow]; simp
theorem sh8 (a : Nat) : (a : Int) / (2 : Int) ^ min (8 : Int).toNat IntKind.u64.bits = ((a / 256 : Nat) : Int) := by
 rw [show min (8 : Int).toNat IntKind.u64.bits = 8 from rfl]; simp
theorem sh16 (a : Nat) : (a : Int) / (2 : Int) ^ min (16 : Int).toNat IntKind.u64.bits = ((a / 65536 : Nat) : Int) := by
 rw [show min (16 : Int).toNat IntKind.u64.bits = 16 from rfl]; simp
theorem sh32 (a : Nat) : (a : Int) / (2 : Int) ^ min (32 : Int).toNat IntKind.u64.bits = ((a / 4294967296 : Nat) : Int) := by
 rw [show min (32 : Int).toNat IntKind.u64.bits = 32 from rfl]; simp

theorem add_u {p q : Nat} (h : p + q < 18446744073709551616) : IntKind.u64.wrap ((p : Int) + (q : Int)) = ((p + q : Nat) : Int) := by
 rw [← Int.natCast_add, wu h]
theorem wrap127 (t : Int) : ((t + 9223372036854775808) % 18446744073709551616 - 9223372036854775808) % 128 = t % 128 := by
 rw [Int.emod_def (t + 9223372036854775808)]
 generalize (t + 9223372036854775808) / 18446744073709551616 = q
 omega
set_option maxRecDepth 100000 in
theorem count64 {x : Nat} (hx : x < 18446744073709551616) : bits_OnesCount64 (x : Int) = some ((cntN x : Nat) : Int) := by
 obtain ⟨y, v, t, a1, a2, a3, a4, a5, a6, a7⟩ := cnt_steps x
 have r0 : rep 85 8 = 6148914691236517205 := by decide
 have r1 : rep 51 8 = 3689348814741910323 := by decide
 have r2 : rep 15 8 = 1085102592571150095 := by decide
 have and_u : ∀ (a b : Nat), a < 18446744073709551616 → b < 18446744073709551616 → Go.bits .and .u64 (a : Int) (b : Int) = ((a &&& b : Nat) : Int) := fun a b ha hb => bits_and_u64_nat a b ha hb
 have shlt : ∀ (a k : Nat), a < 18446744073709551616 → a >>> k < 18446744073709551616 := fun a k h => by rw [Nat.shiftRight_eq_div_pow]; exact Nat.lt_of_le_of_lt (Nat.div_le_self _ _) h
 generalize hA : stepN 1 (rep 85 8) x = A at *
 have hAlt : A < 18446744073709551616 := by rw [← hA]; exact stepN_lt (by decide)
 have s1 : IntKind.u64.wrap (Go.bits .and .u64 ((x : Int) / (2 : Int) ^ min (1 : Int).toNat IntKind.u64.bits) 6148914691236517205 + Go.bits .and .u64 (x : Int) 6148914691236517205) = (A : Int) := by
  rw [sh1, show (6148914691236517205 : Int) = ((6148914691236517205 : Nat) : Int) from rfl, and_u _ _ (shlt x 1 hx) (by decide), and_u _ _ hx (by decide), ← r0]
  unfold stepN at hA
  rw [add_u (by rw [hA]; exact hAlt), hA]
 generalize hB : stepN 2 (rep 51 8) A = B at *
 have hBlt : B < 18446744073709551616 := by rw [← hB]; exact stepN_lt (by decide)
 have s2 : IntKind.u64.wrap (Go.bits .and .u64 ((A : Int) / (2 : Int) ^ min (2 : Int).toNat IntKind.u64.bits) 3689348814741910323 + Go.bits .and .u64 (A : Int) 3689348814741910323) = (B : Int) := by
  rw [sh2, show (3689348814741910323 : Int) = ((3689348814741910323 : Nat) : Int) from rfl, and_u _ _ (shlt A 2 hAlt) (by decide), and_u _ _ hAlt (by decide), ← r1]
  unfold stepN at hB
  rw [add_u (by rw [hB]; exact hBlt), hB]
 have hBB : B ≤ rep 51 8 + rep 51 8 := by
  rw [← hB]
  unfold stepN
  exact Nat.add_le_add Nat.and_le_right Nat.and_le_right
 have hS : B >>> 4 + B < 18446744073709551616 := by
  rw [Nat.shiftRight_eq_div_pow]
  rw [r1] at hBB
  omega
 have hCd : stepC x = (B >>> 4 + B) &&& rep 15 8 := by unfold stepC; rw [hA, hB]
 have s3 : Go.bits .and .u64 (IntKind.u64.wrap ((B : Int) / (2 : Int) ^ min (4 : Int).toNat IntKind.u64.bits + (B : Int))) 1085102592571150095 = ((stepC x : Nat) : Int) := by
  rw [sh4, add_u hS, show (1085102592571150095 : Int) = ((1085102592571150095 : Nat) : Int) from rfl, and_u _ _ hS (by decide), hCd, r2]
 generalize stepC x = C at *
 have s4 : IntKind.u64.wrap ((C : Int) + (C : Int) / (2 : Int) ^ min (8 : Int).toNat IntKind.u64.bits) = (y : Int) := by
  rw [sh8, add_u (by omega), a1, Nat.add_comm]
 have s5 : IntKind.u64.wrap ((y : Int) + (y : Int) / (2 : Int) ^ min (16 : Int).toNat IntKind.u64.bits) = (v : Int) := by
  rw [sh16, add_u (by omega), a3, Nat.add_comm]
 have s6 : IntKind.u64.wrap ((v : Int) + (v : Int) / (2 : Int) ^ min (32 : Int).toNat IntKind.u64.bits) = (t : Int) := by
  rw [sh32, add_u (by omega), a5, Nat.add_comm]
 rw [bits_OnesCount64]
 rw [s1, s2, s3, s4, s5, s6, i64_and127, IntKind.wrap_i64, ← a7, wrap127]
 rfl
end LJ
end

/- Plain laws of bits: a number's bits from the lowest, which and how many. -/
section
namespace LJ
open Go Go.RowKit
set_option linter.unusedVariables false
set_option linter.unusedSimpArgs false

def pc : Nat → Nat → Nat
 | 0, _ => 0
 | k + 1, x => x % 2 + pc k (x / 2)
def ls : Nat → Nat → Nat → List Int
 | 0, _, _ => []
 | k + 1, n, x => if x % 2 = 1 then (n : Int) :: ls k (n + 1) (x / 2) else ls k (n + 1) (x / 2)
theorem pc_byte (m x : Nat) : pc (m + 8) x = popB (x % 256) + pc m (x / 256) := by
 simp only [pc]
 rw [show x / 2 / 2 / 2 / 2 / 2 / 2 / 2 / 2 = x / 256 by omega]
 unfold popB
 omega
theorem digs_pc : ∀ n x, ((digs n x).map popB).sum = pc (8 * n) x
 | 0, x => rfl
 | n + 1, x => by
  rw [show 8 * (n + 1) = 8 * n + 8 by omega, pc_byte]
  simp only [digs, List.map_cons, List.sum_cons]
  rw [digs_pc n]
theorem cnt_pc (x : Nat) : cntN x = pc 64 x := digs_pc 8 x
theorem ls_len : ∀ k n x, (ls k n x).length = pc k x
 | 0, n, x => rfl
 | k + 1, n, x => by
  rw [ls, pc]
  split
  ·rename_i h
   rw [List.length_cons, ls_len k, h]; omega
  ·rw [ls_len k]; omega
theorem ls_zero : ∀ k n, ls k n 0 = []
 | 0, n => rfl
 | k + 1, n => by rw [ls, if_neg (by decide)]; exact ls_zero k (n + 1)
theorem pc_zero : ∀ k, pc k 0 = 0
 | 0 => rfl
 | k + 1 => by rw [pc, pc_zero]
theorem and_half (a b : Nat) : (a &&& b) / 2 = a / 2 &&& b / 2 := by
 have := Nat.and_div_two_pow (a := a) (b := b) (n := 1)
 simpa using this
theorem and_odd (a b : Nat) : (a &&& b) % 2 = (a % 2) * (b % 2) := by
 have := Nat.and_mod_two_pow (a := a) (b := b) (n := 1)
 simp only [Nat.reducePow] at this
 rw [this]
 rcases Nat.mod_two_eq_zero_or_one a with h | h <;> rcases Nat.mod_two_eq_zero_or_one b with g | g <;> rw [h, g] <;> rfl
theorem or_half (a b : Nat) : (a ||| b) / 2 = a / 2 ||| b / 2 := by
 have := Nat.or_div_two_pow (a := a) (b := b) (n := 1)
 simpa using this
theorem or_odd (a b : Nat) : (a ||| b) % 2 = max (a % 2) (b % 2) := by
 have := Nat.or_mod_two_pow (a := a) (b := b) (n := 1)
 simp only [Nat.reducePow] at this
 rw [this]
 rcases Nat.mod_two_eq_zero_or_one a with h | h <;> rcases Nat.mod_two_eq_zero_or_one b with g | g <;> rw [h, g] <;> rfl
theorem ls_pop : ∀ k n x, x ≠ 0 → x < 2 ^ k → ls k n x = ((n + Lib.ctzFrom k x : Nat) : Int) :: ls k n (x &&& (x - 1))
 | 0, n, x, h0, h => by simp at h; omega
 | k + 1, n, x, h0, h => by
  rw [Nat.pow_succ] at h
  rw [ls, ls, Lib.ctzFrom, and_half, and_odd]
  by_cases hx : x % 2 = 1
  ·rw [if_pos hx, if_pos hx, if_neg (by rw [show (x - 1) % 2 = 0 by omega]; simp), show (x - 1) / 2 = x / 2 by omega, Nat.and_self]
   rfl
  ·rw [if_neg hx, if_neg hx, if_neg (by rw [show x % 2 = 0 by omega]; simp), show (x - 1) / 2 = x / 2 - 1 by omega, ls_pop k (n + 1) (x / 2) (by omega) (by omega)]
   congr 2
   omega
theorem ls_mem : ∀ k n x (v : Int), v ∈ ls k n x ↔ ∃ i : Nat, i < k ∧ v = ((n + i : Nat) : Int) ∧ x.testBit i = true
 | 0, n, x, v => by simp [ls]
 | k + 1, n, x, v => by
  have ih := ls_mem k (n + 1) (x / 2) v
  have tb : x.testBit 0 = decide (x % 2 = 1) := Nat.testBit_zero x
  have ts : ∀ i, x.testBit (i + 1) = (x / 2).testBit i := fun i => Nat.testBit_succ x i
  have key : v ∈ ls (k + 1) n x ↔ (x % 2 = 1 ∧ v = (n : Int)) ∨ v ∈ ls k (n + 1) (x / 2) := by
   rw [ls]; split
   ·rename_i h; simp [h]
   ·rename_i h; simp [h]
  rw [key, ih]
  constructor
  ·rintro (⟨h1, h2⟩ | ⟨i, h1, h2, h3⟩)
   ·exact ⟨0, by omega, by simpa using h2, by rw [tb]; simpa using h1⟩
   ·exact ⟨i + 1, by omega, by rw [h2]; congr 1; omega, by rw [ts]; exact h3⟩
  ·rintro ⟨i, h1, h2, h3⟩
   cases i with
   | zero => left; rw [tb] at h3; exact ⟨by simpa using h3, by simpa using h2⟩
   | succ i => right; exact ⟨i, by omega, by rw [h2]; congr 1; omega, by rw [← ts]; exact h3⟩

theorem or_pow : ∀ (i x : Nat), x ||| 2 ^ i = if x.testBit i then x else x + 2 ^ i
 | 0, x => by
  have h1 := or_half x 1
  have h2 := or_odd x 1
  rw [Nat.testBit_zero, Nat.pow_zero]
  have : x / 2 ||| 1 / 2 = x / 2 := by simp
  rw [this] at h1
  split
  ·rename_i h; simp at h; omega
  ·rename_i h; simp at h; omega
 | i + 1, x => by
  have h1 := or_half x (2 ^ (i + 1))
  have h2 := or_odd x (2 ^ (i + 1))
  have e : 2 ^ (i + 1) / 2 = 2 ^ i := by rw [Nat.pow_succ]; omega
  have e' : 2 ^ (i + 1) % 2 = 0 := by rw [Nat.pow_succ]; omega
  rw [e, or_pow i (x / 2)] at h1
  rw [e'] at h2
  rw [Nat.testBit_succ]
  rw [Nat.pow_succ] at *
  split
  ·rename_i h; rw [if_pos h] at h1; omega
  ·rename_i h; rw [if_neg h] at h1; omega
def rot (k x : Nat) : Nat := x / 2 ^ (64 - k) + 2 ^ k * (x % 2 ^ (64 - k))
end LJ
end
