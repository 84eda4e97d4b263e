/- Several texts of plain Lean, one behind the other. No condition. -/
import Derived.Test.YthgjdnknjofdjaaDoorQA
/- The objects, as above. -/
section
namespace LJ
end LJ
end

/- Plain laws of waits: what is wrong with a need, with a way, with a wait. -/
section
namespace LJ
open Go Go.RowKit
set_option linter.unusedVariables false
set_option linter.unusedSimpArgs false

def kindN (k : Int) : Int := cond (iEq k 1) 1 (cond (iEq k 2 || iEq k 3) 2 (cond (iEq k 4) 3 6))
def badN (L : List T_api_Decl) (x : T_api_Need) : Int :=
  cond (iLt x.Kind 1 || iLt 5 x.Kind) 6 (cond (iLt x.Obj 0 || iLe (L.length : Int) x.Obj) 1 (cond (iEq (L.getD x.Obj.toNat default).Kind (kindN x.Kind))
    (cond (iEq x.Kind 4) (cond (iLt x.N 1 || iLt (L.getD x.Obj.toNat default).B x.N) 1 0) (cond (iEq x.Kind 5) (cond (iLt x.N 1 || iLt (L.getD x.Obj.toNat default).A x.N) 1 0) (cond (iLt x.N 0 || iLt 0 x.N) 1 0))) 1))
theorem ne_not (a b : Int) : iNe a b = !iEq a b := by unfold iNe iEq; simp
theorem kinds_at {k : Int} (h : 1 ≤ k ∧ k ≤ 5) : ([0, 1, 2, 2, 3, 6] : List Int).getD k.toNat default = kindN k := by
  have h5 : k = 1 ∨ k = 2 ∨ k = 3 ∨ k = 4 ∨ k = 5 := by omega
  rcases h5 with rfl | rfl | rfl | rfl | rfl <;> decide
theorem ref09_one_eq (L : List T_api_Decl) (x : T_api_Need) : ref09_one L x = some (badN L x) := by
  unfold ref09_one badN
  cases h1 : (iLt x.Kind 1 || iLt 5 x.Kind) with
  | true => rfl
  | false =>
    simp only [Bool.or_eq_false_iff, iLt_iff'] at h1
    rw [cond_false, cond_false]
    cases h2 : (iLt x.Obj 0 || iLe (L.length : Int) x.Obj) with
    | true => rfl
    | false =>
      simp only [Bool.or_eq_false_iff, iLt_iff', iLe_iff'] at h2
      have hn : nIn x.Obj (L.length : Int) = true := nIn_of h2
      have hk : nIn x.Kind (([0, 1, 2, 2, 3, 6] : List Int).length : Int) = true := nIn_of ⟨by omega, by simp only [List.length_cons, List.length_nil]; omega⟩
      rw [hn, hk, Bool.or_true, need_of rfl, need_of rfl, Bool.false_or, cond_false, kinds_at (by omega), ne_not, cond_not]
      simp only [need_of, cond_some]
      by_cases k4 : x.Kind = 4
      · rw [iEq_t k4, iEq_f (show x.Kind ≠ 5 by omega)]
        simp only [cond_true, cond_false]
      · rw [iEq_f k4]
        simp only [cond_true, cond_false]
theorem need_one_eq (L : List T_api_Decl) (x : T_api_Need) : need_one L x = some (badN L x) := by
  unfold need_one badN need_counted
  simp only [decl_Fits_eq, bind_some']
  by_cases h : x.Kind < 1 ∨ 5 < x.Kind
  · rw [show (iLt x.Kind 1 || iLt 5 x.Kind) = true by simp only [Bool.or_eq_true, iLt_iff]; exact h, cond_true]
    rw [iEq_f (show x.Kind ≠ 1 by omega), iEq_f (show x.Kind ≠ 2 by omega), iEq_f (show x.Kind ≠ 3 by omega), iEq_f (show x.Kind ≠ 4 by omega), iEq_f (show x.Kind ≠ 5 by omega)]
    rfl
  · rw [show (iLt x.Kind 1 || iLt 5 x.Kind) = false by simp only [Bool.or_eq_false_iff, iLt_iff']; omega, cond_false]
    have h5 : x.Kind = 1 ∨ x.Kind = 2 ∨ x.Kind = 3 ∨ x.Kind = 4 ∨ x.Kind = 5 := by omega
    unfold fitD fitK kindN
    cases h2 : (iLt x.Obj 0 || iLe (L.length : Int) x.Obj) with
    | true =>
      rcases h5 with e | e | e | e | e <;> rw [e] <;> rfl
    | false =>
      simp only [Bool.or_eq_false_iff, iLt_iff', iLe_iff'] at h2
      have hn : nIn x.Obj (L.length : Int) = true := nIn_of h2
      have lt : iLt x.N 1 = true → iLt x.N 0 = true ∨ iLt x.N 0 = false := fun _ => by cases iLt x.N 0 <;> simp
      have l01 : (iLt x.N 1 || iLt x.N 0) = iLt x.N 1 := by
        rw [Bool.eq_iff_iff]; simp only [Bool.or_eq_true, iLt_iff]; omega
      rcases h5 with e | e | e | e | e <;> rw [e] <;> simp only [show iEq 1 1 = true from rfl, show iEq 1 2 = false from rfl, show iEq 1 3 = false from rfl, show iEq 1 4 = false from rfl, show iEq 1 5 = false from rfl, show iEq 2 1 = false from rfl, show iEq 2 2 = true from rfl, show iEq 2 3 = false from rfl, show iEq 2 4 = false from rfl, show iEq 2 5 = false from rfl, show iEq 3 1 = false from rfl, show iEq 3 2 = false from rfl, show iEq 3 3 = true from rfl, show iEq 3 4 = false from rfl, show iEq 3 5 = false from rfl, show iEq 4 1 = false from rfl, show iEq 4 2 = false from rfl, show iEq 4 3 = false from rfl, show iEq 4 4 = true from rfl, show iEq 4 5 = false from rfl, show iEq 5 1 = false from rfl, show iEq 5 2 = false from rfl, show iEq 5 3 = false from rfl, show iEq 5 4 = false from rfl, show iEq 5 5 = true from rfl, show iEq 109 117 = false from rfl, show iEq 109 115 = false from rfl, show iEq 109 112 = false from rfl, show iEq 109 99 = false from rfl, show iEq 109 109 = true from rfl, show iEq 117 117 = true from rfl, show iEq 115 117 = false from rfl, show iEq 115 115 = true from rfl, show iEq 112 117 = false from rfl, show iEq 112 115 = false from rfl, show iEq 112 112 = true from rfl, hn, Bool.or_true, need_of, cond_true, cond_false, Bool.false_or, Bool.or_false, Bool.true_or, Bool.false_and, Bool.true_and, Bool.not_not, Bool.and_true, Bool.and_false, ne_not, cond_some, l01]
      all_goals
        generalize hK : (L.getD x.Obj.toNat default).Kind = K
        first
          | (cases iEq K 1 <;> rfl)
          | (cases iEq K 3 <;> rfl)
          | (cases iEq K 6 <;> rfl)
          | (by_cases hK1 : K = 1
             · subst hK1; rfl
             · rw [iEq_f hK1]; cases iEq K 2 <;> rfl)
def firstN (L : List T_api_Decl) : List T_api_Need → Int
  | [] => 0
  | x :: t => cond (iNe (badN L x) 0) (badN L x) (firstN L t)
def pairN (l : List T_api_Need) (j k : Nat) : Bool := (iEq (l.getD j default).Obj (l.getD k default).Obj || iEq (l.getD j default).Kind 4) || iEq (l.getD k default).Kind 4
def hit (l : List T_api_Need) (k : Nat) : Nat → Nat → Bool
  | 0, _ => false
  | n + 1, i => pairN l i k || hit l k n (i + 1)
def hits (l : List T_api_Need) : Nat → Nat → Bool
  | 0, _ => false
  | n + 1, k => hit l k k 0 || hits l n (k + 1)
def badW (L : List T_api_Decl) (l : List T_api_Need) : Int :=
  cond (iEq (l.length : Int) 0) 2 (cond (iLt 4 (l.length : Int)) 4 (cond (iNe (firstN L l) 0) (firstN L l) (cond (hits l l.length 0) 2 0)))
def firstW (L : List T_api_Decl) : List (List T_api_Need) → Int
  | [] => 0
  | l :: t => cond (iNe (badW L l) 0) (badW L l) (firstW L t)
def chkW (L : List T_api_Decl) (W : List (List T_api_Need)) : Int := cond (iEq (W.length : Int) 0) 2 (cond (iLt 4 (W.length : Int)) 4 (firstW L W))
theorem withK_eq {α β γ : Type} (K : α → β) (f : (α → β) → γ) : withK K f = f K := rfl
theorem cond_or {α : Type} (a b : Bool) (x y : α) : cond (a || b) x y = cond a x (cond b x y) := by cases a <;> rfl
theorem w_l23 {W : List (List T_api_Need)} {s : Int} {j : Nat} {K : Unit → Option Int} (hj : j < (W.getD s.toNat default).length) (h4 : (W.getD s.toNat default).length ≤ 4) : ∀ (n i f : Nat), i + n = j → n < f → ref09_Check_l23 W s (j : Int) K f (i : Int) = cond (hit (W.getD s.toNat default) j n i) (some 2) (K ())
  | n, i, 0, hi, hf => by omega
  | 0, i, f + 1, hi, hf => by
    rw [ref09_Check_l23, iLt_f (by omega), cond_false]; rfl
  | n + 1, i, f + 1, hi, hf => by
    have e1 : nIn (i : Int) ((W.getD s.toNat default).length : Int) = true := nIn_of ⟨by omega, by omega⟩
    have e2 : nIn (j : Int) ((W.getD s.toNat default).length : Int) = true := nIn_of ⟨by omega, by omega⟩
    rw [ref09_Check_l23, iLt_t (by omega), cond_true, e1, e2, Bool.or_true, Bool.or_true, w64 (by omega), show (i : Int) + 1 = ((i + 1 : Nat) : Int) by omega, need_of rfl, need_of rfl, need_of rfl, need_of rfl, w_l23 hj h4 n (i + 1) f (by omega) (by omega), Int.toNat_natCast, Int.toNat_natCast, hit]
    exact (cond_or (pairN _ i j) _ _ _).symm
theorem w_l18 {W : List (List T_api_Need)} {s : Int} {K : Unit → Option Int} (h4 : (W.getD s.toNat default).length ≤ 4) : ∀ (n i f : Nat), i + n = (W.getD s.toNat default).length → n < f → ref09_Check_l18 W s K f (i : Int) = cond (hits (W.getD s.toNat default) n i) (some 2) (K ())
  | n, i, 0, hi, hf => by omega
  | 0, i, f + 1, hi, hf => by
    rw [ref09_Check_l18, iLt_f (by omega), cond_false]; rfl
  | n + 1, i, f + 1, hi, hf => by
    rw [ref09_Check_l18, iLt_t (by omega), cond_true, withK_eq, w64 (by omega), show (i : Int) + 1 = ((i + 1 : Nat) : Int) by omega]
    have ih := w_l18 (K := K) h4 n (i + 1) f (by omega) (by omega)
    have := w_l23 (W := W) (s := s) (j := i) (K := fun _ => ref09_Check_l18 W s K f ((i + 1 : Nat) : Int)) (by omega) h4 i 0 fuel (by omega) (by have := fuel_big; omega)
    rw [hits, cond_or, ← ih]
    exact this
theorem w_l12 {L : List T_api_Decl} {W : List (List T_api_Need)} {s : Int} {K : Unit → Option Int} (h4 : (W.getD s.toNat default).length ≤ 4) : ∀ (n i f : Nat), i + n = (W.getD s.toNat default).length → n < f → ref09_Check_l12 L W s K f (i : Int) = cond (iNe (firstN L ((W.getD s.toNat default).drop i)) 0) (some (firstN L ((W.getD s.toNat default).drop i))) (cond (hits (W.getD s.toNat default) (W.getD s.toNat default).length 0) (some 2) (K ()))
  | n, i, 0, hi, hf => by omega
  | 0, i, f + 1, hi, hf => by
    rw [ref09_Check_l12, iLt_f (by omega), cond_false, List.drop_eq_nil_of_le (by omega), firstN, iNe_f rfl, cond_false]
    exact w_l18 h4 (W.getD s.toNat default).length 0 fuel (by omega) (by have := fuel_big; omega)
  | n + 1, i, f + 1, hi, hf => by
    rw [ref09_Check_l12, iLt_t (by omega), cond_true, need_of (nIn_of ⟨by omega, by omega⟩), w64 (by omega), show (i : Int) + 1 = ((i + 1 : Nat) : Int) by omega, ref09_one_eq, bind_some', w_l12 h4 n (i + 1) f (by omega) (by omega), getD_drop _ i (by omega), firstN, Int.toNat_natCast]
    by_cases hb : badN L ((W.getD s.toNat default).getD i default) = 0
    · rw [iNe_f hb, cond_false, cond_false]
    · rw [iNe_t hb, cond_true, cond_true, iNe_t hb, cond_true]
theorem w_l4 {L : List T_api_Decl} {W : List (List T_api_Need)} (hW : W.length ≤ 4) : ∀ (n i f : Nat), i + n = W.length → n < f → ref09_Check_l4 L W f (i : Int) = some (firstW L (W.drop i))
  | n, i, 0, hi, hf => by omega
  | 0, i, f + 1, hi, hf => by
    rw [ref09_Check_l4, iLt_f (by omega), cond_false, List.drop_eq_nil_of_le (by omega)]
    rfl
  | n + 1, i, f + 1, hi, hf => by
    rw [ref09_Check_l4, iLt_t (by omega), cond_true, withK_eq, w64 (by omega), show (i : Int) + 1 = ((i + 1 : Nat) : Int) by omega, need_of (nIn_of ⟨by omega, by omega⟩), getD_drop W i (by omega), firstW, badW]
    have ih := w_l4 (L := L) hW n (i + 1) f (by omega) (by omega)
    rw [Int.toNat_natCast]
    by_cases h0 : ((W.getD i default).length : Int) = 0
    · rw [iEq_t h0, cond_true, cond_true, iNe_t (by decide), cond_true]
    · rw [iEq_f h0, cond_false, cond_false]
      by_cases h4 : 4 < ((W.getD i default).length : Int)
      · rw [iLt_t h4, cond_true, cond_true, iNe_t (by decide), cond_true]
      · rw [iLt_f (by omega), cond_false, cond_false]
        have := w_l12 (L := L) (W := W) (s := (i : Int)) (K := fun _ => ref09_Check_l4 L W f ((i + 1 : Nat) : Int)) (by rw [Int.toNat_natCast]; omega) ((W.getD (i : Int).toNat default).length) 0 fuel (by omega) (by have := fuel_big; rw [Int.toNat_natCast]; omega)
        rw [Int.toNat_natCast, List.drop_zero] at this
        refine Eq.trans this ?_
        rw [ih]
        by_cases hb : firstN L (W.getD i default) = 0
        · rw [iNe_f hb, cond_false, cond_false]
          cases hits (W.getD i default) (W.getD i default).length 0 with
          | true => rfl
          | false => rfl
        · rw [iNe_t hb, cond_true, cond_true, iNe_t hb, cond_true]
theorem ref09_Check_eq (L : List T_api_Decl) (W : List (List T_api_Need)) : ref09_Check L W = some (chkW L W) := by
  unfold ref09_Check chkW
  by_cases h0 : (W.length : Int) = 0
  · rw [iEq_t h0]; rfl
  · rw [iEq_f h0, cond_false, cond_false]
    by_cases h4 : 4 < (W.length : Int)
    · rw [iLt_t h4]; rfl
    · rw [iLt_f (by omega), cond_false, cond_false]
      exact w_l4 (by omega) W.length 0 fuel (by omega) (by have := fuel_big; omega)

theorem badN_ok {L : List T_api_Decl} {x : T_api_Need} (h : badN L x = 0) : (1 ≤ x.Kind ∧ x.Kind ≤ 5) ∧ (0 ≤ x.Obj ∧ x.Obj < L.length) ∧ (L.getD x.Obj.toNat default).Kind = kindN x.Kind ∧ 0 ≤ x.N ∧ (x.Kind = 4 → x.N ≤ (L.getD x.Obj.toNat default).B) ∧ (x.Kind = 5 → x.N ≤ (L.getD x.Obj.toNat default).A) ∧ (x.Kind ≤ 3 → x.N = 0) := by
  unfold badN at h
  cases h1 : (iLt x.Kind 1 || iLt 5 x.Kind) with
  | true => rw [h1, cond_true] at h; cases h
  | false =>
    rw [h1, cond_false] at h
    simp only [Bool.or_eq_false_iff, iLt_iff'] at h1
    cases h2 : (iLt x.Obj 0 || iLe (L.length : Int) x.Obj) with
    | true => rw [h2, cond_true] at h; cases h
    | false =>
      rw [h2, cond_false] at h
      simp only [Bool.or_eq_false_iff, iLt_iff', iLe_iff'] at h2
      cases h3 : iEq (L.getD x.Obj.toNat default).Kind (kindN x.Kind) with
      | false => rw [h3, cond_false] at h; cases h
      | true =>
        rw [h3, cond_true] at h
        rw [iEq_iff] at h3
        refine ⟨by omega, by omega, h3, ?_⟩
        by_cases k4 : x.Kind = 4
        · rw [iEq_t k4, cond_true] at h
          cases h4 : (iLt x.N 1 || iLt (L.getD x.Obj.toNat default).B x.N) with
          | true => rw [h4] at h; cases h
          | false => simp only [Bool.or_eq_false_iff, iLt_iff'] at h4; omega
        · rw [iEq_f k4, cond_false] at h
          by_cases k5 : x.Kind = 5
          · rw [iEq_t k5, cond_true] at h
            cases h4 : (iLt x.N 1 || iLt (L.getD x.Obj.toNat default).A x.N) with
            | true => rw [h4] at h; cases h
            | false => simp only [Bool.or_eq_false_iff, iLt_iff'] at h4; omega
          · rw [iEq_f k5, cond_false] at h
            cases h4 : (iLt x.N 0 || iLt 0 x.N) with
            | true => rw [h4] at h; cases h
            | false => simp only [Bool.or_eq_false_iff, iLt_iff'] at h4; omega
theorem firstN_ok {L : List T_api_Decl} : ∀ {l : List T_api_Need}, firstN L l = 0 → ∀ x ∈ l, badN L x = 0
  | [], h => fun x hx => by cases hx
  | y :: t, h => by
    unfold firstN at h
    by_cases hy : badN L y = 0
    · rw [iNe_f hy, cond_false] at h
      intro x hx
      rcases List.mem_cons.1 hx with rfl | hx
      · exact hy
      · exact firstN_ok h x hx
    · rw [iNe_t hy, cond_true] at h; exact absurd h hy
def withs (s : Nat) : List T_api_Need → Nat
  | [] => s
  | x :: t => withs (s ||| 2 ^ x.Obj.toNat) t
theorem pc_put : ∀ (i k x : Nat), i < k → x.testBit i = false → pc k (x + 2 ^ i) = pc k x + 1
  | 0, k + 1, x, hi, h => by
    rw [Nat.testBit_zero] at h
    simp only [decide_eq_false_iff_not] at h
    rw [pc, pc, Nat.pow_zero, show (x + 1) / 2 = x / 2 by omega]
    omega
  | i + 1, k + 1, x, hi, h => by
    rw [Nat.testBit_succ] at h
    have e1 : (x + 2 ^ (i + 1)) % 2 = x % 2 := by rw [Nat.pow_succ]; omega
    have e2 : (x + 2 ^ (i + 1)) / 2 = x / 2 + 2 ^ i := by rw [Nat.pow_succ]; omega
    rw [pc, pc, e1, e2, pc_put i k (x / 2) (by omega) h]
    omega
theorem or_lt {s i : Nat} (hs : s < 2 ^ 64) (hi : i < 64) : s ||| 2 ^ i < 2 ^ 64 := Nat.or_lt_two_pow hs (Nat.pow_lt_pow_right (by decide) hi)
theorem withs_pc : ∀ (l : List T_api_Need) (s : Nat), (∀ x ∈ l, x.Obj.toNat < 64) → pc 64 (withs s l) ≤ pc 64 s + l.length ∧ (pc 64 (withs s l) = pc 64 s + l.length ↔ (∀ x ∈ l, s.testBit x.Obj.toNat = false) ∧ l.Pairwise fun x y => x.Obj.toNat ≠ y.Obj.toNat)
  | [], s, h => by simp [withs]
  | x :: t, s, h => by
    obtain ⟨h1, h2⟩ := withs_pc t (s ||| 2 ^ x.Obj.toNat) fun y hy => h y (List.mem_cons_of_mem _ hy)
    have hx := h x (List.mem_cons_self ..)
    rw [withs, List.length_cons]
    have ho := or_pow x.Obj.toNat s
    cases hb : s.testBit x.Obj.toNat with
    | true =>
      rw [hb, if_pos rfl] at ho
      rw [ho] at h1 ⊢
      refine ⟨by omega, ⟨fun h => by omega, fun h => ?_⟩⟩
      have := h.1 x (List.mem_cons_self ..)
      rw [hb] at this; cases this
    | false =>
      rw [hb, if_neg Bool.false_ne_true] at ho
      have hp := pc_put x.Obj.toNat 64 s hx hb
      rw [← ho] at hp
      rw [hp] at h1 h2
      refine ⟨by omega, ?_⟩
      rw [show pc 64 s + (t.length + 1) = pc 64 s + 1 + t.length by omega, h2, List.pairwise_cons]
      constructor
      · rintro ⟨a, b⟩
        refine ⟨fun y hy => ?_, fun y hy he => ?_, b⟩
        · rcases List.mem_cons.1 hy with rfl | hy
          · exact hb
          · have := a y hy
            rw [Nat.testBit_or, Bool.or_eq_false_iff] at this
            exact this.1
        · have := a y hy
          rw [← he, Nat.testBit_or, Nat.testBit_two_pow] at this
          simp at this
      · rintro ⟨a, b, c⟩
        refine ⟨fun y hy => ?_, c⟩
        rw [Nat.testBit_or, a y (List.mem_cons_of_mem _ hy), Nat.testBit_two_pow, Bool.false_or]
        exact decide_eq_false (b y hy)
theorem hit_iff (l : List T_api_Need) (k : Nat) : ∀ n i, hit l k n i = true ↔ ∃ j, i ≤ j ∧ j < i + n ∧ pairN l j k = true
  | 0, i => by simp [hit]; intro j h1 h2; omega
  | n + 1, i => by
    rw [hit, Bool.or_eq_true, hit_iff l k n (i + 1)]
    constructor
    · rintro (h | ⟨j, h1, h2, h3⟩)
      · exact ⟨i, by omega, by omega, h⟩
      · exact ⟨j, by omega, by omega, h3⟩
    · rintro ⟨j, h1, h2, h3⟩
      rcases Nat.eq_or_lt_of_le h1 with rfl | h1
      · exact .inl h3
      · exact .inr ⟨j, h1, by omega, h3⟩
theorem hits_iff (l : List T_api_Need) : ∀ n i, hits l n i = true ↔ ∃ j k, i ≤ k ∧ k < i + n ∧ j < k ∧ pairN l j k = true
  | 0, i => by simp [hits]; intro j k h1 h2; omega
  | n + 1, i => by
    rw [hits, Bool.or_eq_true, hits_iff l n (i + 1), hit_iff]
    constructor
    · rintro (⟨j, h1, h2, h3⟩ | ⟨j, k, h1, h2, h3, h4⟩)
      · exact ⟨j, i, by omega, by omega, by omega, h3⟩
      · exact ⟨j, k, by omega, by omega, h3, h4⟩
    · rintro ⟨j, k, h1, h2, h3, h4⟩
      rcases Nat.eq_or_lt_of_le h1 with rfl | h1
      · exact .inl ⟨j, by omega, by omega, h4⟩
      · exact .inr ⟨j, k, h1, by omega, h3, h4⟩
theorem doubles {l : List T_api_Need} (h64 : ∀ x ∈ l, 0 ≤ x.Obj ∧ x.Obj < 64) : (iLt ((pc 64 (withs 0 l) : Nat) : Int) (l.length : Int) || (l.any (fun x => iEq x.Kind 4) && iLt 1 (l.length : Int))) = hits l l.length 0 := by
  obtain ⟨h1, h2⟩ := withs_pc l 0 fun x hx => by have := h64 x hx; omega
  rw [pc_zero, Nat.zero_add] at h1 h2
  have hmem : ∀ j, j < l.length → l.getD j default ∈ l := fun j hj => by
    rw [List.getD_eq_getElem?_getD, List.getElem?_eq_getElem hj]; exact List.getElem_mem hj
  have hpw : (l.Pairwise fun x y => x.Obj.toNat ≠ y.Obj.toNat) ↔ ∀ j k, j < k → k < l.length → (l.getD j default).Obj ≠ (l.getD k default).Obj := by
    rw [List.pairwise_iff_getElem]
    constructor
    · intro h j k hjk hk he
      have := h j k (by omega) hk hjk
      simp only [List.getD_eq_getElem?_getD, List.getElem?_eq_getElem hk, List.getElem?_eq_getElem (show j < l.length by omega), Option.getD_some] at he
      exact this (by rw [he])
    · intro h j k hj hk hjk he
      have e := h j k hjk hk
      have a := h64 _ (hmem j hj)
      have b := h64 _ (hmem k hk)
      simp only [List.getD_eq_getElem?_getD, List.getElem?_eq_getElem hk, List.getElem?_eq_getElem hj, Option.getD_some] at e a b
      exact e (by omega)
  rw [Bool.eq_iff_iff, Bool.or_eq_true, Bool.and_eq_true, iLt_iff, iLt_iff, hits_iff, List.any_eq_true]
  constructor
  · rintro (h | ⟨⟨x, hx, hk⟩, hl⟩)
    · have hn : ¬ (l.Pairwise fun x y => x.Obj.toNat ≠ y.Obj.toNat) := fun hp => by
        have := h2.2 ⟨fun x _ => by simp, hp⟩
        omega
      rw [hpw] at hn
      simp only [Classical.not_forall, not_imp, Decidable.not_not] at hn
      obtain ⟨j, k, a, b, c⟩ := hn
      exact ⟨j, k, by omega, by omega, a, by unfold pairN; rw [iEq_t c]; rfl⟩
    · obtain ⟨m, hm, rfl⟩ := List.mem_iff_getElem.1 hx
      have e : l.getD m default = l[m] := by simp [List.getD_eq_getElem?_getD, hm]
      by_cases h0 : m = 0
      · subst h0
        exact ⟨0, 1, by omega, by omega, by omega, by unfold pairN; rw [e, hk]; simp⟩
      · exact ⟨0, m, by omega, by omega, by omega, by unfold pairN; rw [e, hk]; simp⟩
  · rintro ⟨j, k, -, hk, hjk, hp⟩
    rw [Nat.zero_add] at hk
    unfold pairN at hp
    rw [Bool.or_eq_true, Bool.or_eq_true, iEq_iff] at hp
    rcases hp with (hp | hp) | hp
    · left
      rcases Nat.eq_or_lt_of_le h1 with he | hlt
      · exact absurd hp (hpw.1 (h2.1 he).2 j k hjk hk)
      · omega
    · exact .inr ⟨⟨_, hmem j (by omega), hp⟩, by omega⟩
    · exact .inr ⟨⟨_, hmem k hk, hp⟩, by omega⟩
theorem With_eq {s : Nat} {o : Int} (hs : s < 18446744073709551616) (ho : 0 ≤ o ∧ o < 64) : bits_Set_With (s : Int) o = some ((s ||| 2 ^ o.toNat : Nat) : Int) := by
  unfold bits_Set_With bits_one
  rw [show (iLt o 0 || iLt 63 o) = false by simp only [Bool.or_eq_false_iff, iLt_iff']; omega, cond_false, need_of (nNn_of ho.1), bind_some']
  have hp : 2 ^ o.toNat < 2 ^ 64 := Nat.pow_lt_pow_right (by decide) (by omega)
  have hm : min o.toNat IntKind.u64.bits = o.toNat := Nat.min_eq_left (by show o.toNat ≤ 64; omega)
  rw [hm, Int.one_mul, show ((2 : Int) ^ o.toNat) = ((2 ^ o.toNat : Nat) : Int) by simp, wu hp, bits_or_u64_nat _ _ hs hp]
theorem way_l4 {L : List T_api_Decl} (hL : L.length ≤ 32) {l : List T_api_Need} (h4 : l.length ≤ 4) : ∀ (n i f s : Nat) (d : Bool), i + n = l.length → n < f → s < 18446744073709551616 →
    need_way_l4 L l f ((s : Int), d, (i : Int)) = cond (iNe (firstN L (l.drop i)) 0) (some (firstN L (l.drop i))) (cond (iLt ((pc 64 (withs s (l.drop i)) : Nat) : Int) (l.length : Int) || ((d || (l.drop i).any (fun x => iEq x.Kind 4)) && iLt 1 (l.length : Int))) (some 2) (some 0))
  | n, i, 0, s, d, hi, hf, hs => by omega
  | 0, i, f + 1, s, d, hi, hf, hs => by
    rw [need_way_l4]
    dsimp only
    rw [iLt_f (by omega), cond_false, List.drop_eq_nil_of_le (by omega), firstN, iNe_f rfl, cond_false, bits_Set_Count, count64 hs, bind_some', bind_some', cnt_pc, withs, List.any_nil, Bool.or_false]
  | n + 1, i, f + 1, s, d, hi, hf, hs => by
    rw [need_way_l4]
    dsimp only
    rw [iLt_t (by omega), cond_true, need_of (nIn_of ⟨by omega, by omega⟩), need_one_eq, bind_some', getD_drop l i (by omega), firstN, Int.toNat_natCast]
    by_cases hb : badN L (l.getD i default) = 0
    · obtain ⟨_, ho, _⟩ := badN_ok hb
      rw [iNe_f hb, cond_false, cond_false, With_eq hs (by omega), bind_some', w64 (by omega), show (i : Int) + 1 = ((i + 1 : Nat) : Int) by omega, way_l4 hL h4 n (i + 1) f _ _ (by omega) (by omega) (or_lt hs (by omega)), withs, List.any_cons, Bool.or_assoc]
    · rw [iNe_t hb, cond_true, cond_true, iNe_t hb, cond_true]
theorem need_way_eq {L : List T_api_Decl} (hL : L.length ≤ 32) (l : List T_api_Need) : need_way L l = some (badW L l) := by
  unfold need_way badW
  by_cases h0 : (l.length : Int) = 0
  · rw [iEq_t h0]; rfl
  · rw [iEq_f h0, cond_false, cond_false]
    by_cases h4 : 4 < (l.length : Int)
    · rw [iLt_t h4]; rfl
    · rw [iLt_f (by omega), cond_false, cond_false]
      have := way_l4 hL (l := l) (by omega) l.length 0 fuel 0 false (by omega) (by have := fuel_big; omega) (by decide)
      refine Eq.trans this ?_
      rw [List.drop_zero]
      by_cases hb : firstN L l = 0
      · rw [iNe_f hb, cond_false, cond_false, Bool.false_or, doubles (fun x hx => by obtain ⟨_, h, _⟩ := badN_ok (firstN_ok hb x hx); omega), cond_some]
      · rw [iNe_t hb, cond_true, cond_true]
theorem check_l4 {L : List T_api_Decl} (hL : L.length ≤ 32) {W : List (List T_api_Need)} (hW : W.length ≤ 4) : ∀ (n i f : Nat), i + n = W.length → n < f → need_Check_l4 L W f (i : Int) = some (firstW L (W.drop i))
  | n, i, 0, hi, hf => by omega
  | 0, i, f + 1, hi, hf => by
    rw [need_Check_l4, iLt_f (by omega), cond_false, List.drop_eq_nil_of_le (by omega)]
    rfl
  | n + 1, i, f + 1, hi, hf => by
    rw [need_Check_l4, iLt_t (by omega), cond_true, need_of (nIn_of ⟨by omega, by omega⟩), need_way_eq hL, bind_some', w64 (by omega), show (i : Int) + 1 = ((i + 1 : Nat) : Int) by omega, check_l4 hL hW n (i + 1) f (by omega) (by omega), getD_drop W i (by omega), firstW, cond_some, Int.toNat_natCast]
theorem need_Check_eq {L : List T_api_Decl} (hL : L.length ≤ 32) (W : List (List T_api_Need)) : need_Check L W = some (chkW L W) := by
  unfold need_Check chkW
  by_cases h0 : (W.length : Int) = 0
  · rw [iEq_t h0]; rfl
  · rw [iEq_f h0, cond_false, cond_false]
    by_cases h4 : 4 < (W.length : Int)
    · rw [iLt_t h4]; rfl
    · rw [iLt_f (by omega), cond_false, cond_false]
      exact check_l4 hL (by omega) W.length 0 fuel (by omega) (by have := fuel_big; omega)
end LJ
end

/- Plain laws of waits as bytes. -/
section
namespace LJ
open Go Go.RowKit
set_option linter.unusedVariables false
set_option linter.unusedSimpArgs false

structure RngN (x : T_api_Need) : Prop where
  k : 1 ≤ x.Kind ∧ x.Kind ≤ 5
  o : 0 ≤ x.Obj ∧ x.Obj < 2147483648
  n : 0 ≤ x.N ∧ x.N < 2147483648
  nz : x.Kind ≤ 3 → x.N = 0
structure GoodW (W : List (List T_api_Need)) : Prop where
  len : 1 ≤ W.length ∧ W.length ≤ 4
  ways : ∀ l ∈ W, (1 ≤ l.length ∧ l.length ≤ 4) ∧ ∀ x ∈ l, RngN x
theorem badD_most {L : List T_api_Decl} {d : T_api_Decl} (h : badD L d = 0) : (d.Kind = 3 → d.B ≤ 1000) ∧ (d.Kind = 6 → d.A ≤ 1000) := by
  unfold badD at h
  constructor
  · intro k
    rw [iEq_t k, cond_true] at h
    cases hb : (iLe 1 d.B && iLe d.B 1000 && iLe 0 d.A && iLe d.A d.B) with
    | false => rw [hb] at h; cases h
    | true => simp only [Bool.and_eq_true, iLe_iff] at hb; omega
  · intro k
    rw [iEq_f (show d.Kind ≠ 3 by omega), cond_false, iEq_t k, cond_true] at h
    cases hb : (iLe 1 d.A && iLe d.A 1000) with
    | false => rw [hb] at h; cases h
    | true => simp only [Bool.and_eq_true, iLe_iff] at hb; omega
theorem chkL_len {L : List T_api_Decl} (h : (chkL L).2 = 0) : L.length ≤ 32 ∧ ∀ d ∈ L, badD L d = 0 := by
  unfold chkL at h
  by_cases hl : 32 < (L.length : Int)
  · rw [iLt_t hl, cond_true] at h; cases h
  · rw [iLt_f (by omega), cond_false] at h
    exact ⟨by omega, chkD_ok h⟩
theorem RngN.of {L : List T_api_Decl} (hL : (chkL L).2 = 0) {x : T_api_Need} (h : badN L x = 0) : RngN x := by
  obtain ⟨h1, h2⟩ := chkL_len hL
  obtain ⟨a, b, c, d, e, f, g⟩ := badN_ok h
  have hm : L.getD x.Obj.toNat default ∈ L := by
    rw [List.getD_eq_getElem?_getD, List.getElem?_eq_getElem (by omega)]
    exact List.getElem_mem _
  obtain ⟨i, j⟩ := badD_most (h2 _ hm)
  rw [c] at i j
  refine ⟨a, by omega, ⟨d, ?_⟩, g⟩
  by_cases k4 : x.Kind = 4
  · have := i (by rw [k4]; rfl)
    have := e k4
    omega
  · by_cases k5 : x.Kind = 5
    · have := j (by rw [k5]; rfl)
      have := f k5
      omega
    · have := g (by omega)
      omega
theorem badW_ok {L : List T_api_Decl} {l : List T_api_Need} (h : badW L l = 0) : (1 ≤ l.length ∧ l.length ≤ 4) ∧ ∀ x ∈ l, badN L x = 0 := by
  unfold badW at h
  by_cases h0 : (l.length : Int) = 0
  · rw [iEq_t h0, cond_true] at h; cases h
  · rw [iEq_f h0, cond_false] at h
    by_cases h4 : 4 < (l.length : Int)
    · rw [iLt_t h4, cond_true] at h; cases h
    · rw [iLt_f (by omega), cond_false] at h
      by_cases hb : firstN L l = 0
      · exact ⟨by omega, firstN_ok hb⟩
      · rw [iNe_t hb, cond_true] at h; exact absurd h hb
theorem firstW_ok {L : List T_api_Decl} : ∀ {W : List (List T_api_Need)}, firstW L W = 0 → ∀ l ∈ W, badW L l = 0
  | [], h => fun x hx => by cases hx
  | y :: t, h => by
    unfold firstW at h
    by_cases hy : badW L y = 0
    · rw [iNe_f hy, cond_false] at h
      intro x hx
      rcases List.mem_cons.1 hx with rfl | hx
      · exact hy
      · exact firstW_ok h x hx
    · rw [iNe_t hy, cond_true] at h; exact absurd h hy
theorem GoodW.of {L : List T_api_Decl} (hL : (chkL L).2 = 0) {W : List (List T_api_Need)} (h : chkW L W = 0) : GoodW W := by
  unfold chkW at h
  by_cases h0 : (W.length : Int) = 0
  · rw [iEq_t h0, cond_true] at h; cases h
  · rw [iEq_f h0, cond_false] at h
    by_cases h4 : 4 < (W.length : Int)
    · rw [iLt_t h4, cond_true] at h; cases h
    · rw [iLt_f (by omega), cond_false] at h
      refine ⟨by omega, fun l hl => ?_⟩
      obtain ⟨a, b⟩ := badW_ok (firstW_ok h l hl)
      exact ⟨a, fun x hx => RngN.of hL (b x hx)⟩

def putN (x : T_api_Need) : List UInt8 := UInt8.ofNat x.Kind.toNat :: (numL x.Obj.toNat ++ if 3 < x.Kind then numL x.N.toNat else [])
def putW (l : List T_api_Need) : List UInt8 := numL l.length ++ l.flatMap putN
def putWs (W : List (List T_api_Need)) : List UInt8 := numL W.length ++ W.flatMap putW
end LJ
end

/- Plain laws of waits that are read. -/
section
namespace LJ
open Go Go.RowKit
set_option linter.unusedVariables false
set_option linter.unusedSimpArgs false

def rdNeedC (b : UInt8) (t : List UInt8) : T_api_Need × Int × List UInt8 :=
  cond (iLt (b.toNat : Int) 1 || iLt 5 (b.toNat : Int)) (⟨b.toNat, 0, 0⟩, 6, t)
    (cond (iLt 3 (b.toNat : Int)) (⟨b.toNat, capN (rdN t 0), capN (rdN (rdN t 0).2.2 (rdN t 0).1)⟩, (rdN (rdN t 0).2.2 (rdN t 0).1).1, (rdN (rdN t 0).2.2 (rdN t 0).1).2.2)
    (⟨b.toNat, capN (rdN t 0), 0⟩, (rdN t 0).1, (rdN t 0).2.2))
def rdNeed : List UInt8 → T_api_Need × Int × List UInt8
  | [] => (⟨0, 0, 0⟩, 3, [])
  | b :: t => rdNeedC b t
def rdM (l : List UInt8) : Nat × Int × List UInt8 := cond (iLt 4 ((rdN l 0).2.1 : Int)) (0, 4, []) ((rdN l 0).2.1, (rdN l 0).1, (rdN l 0).2.2)
def rdNeeds : Nat → List UInt8 → List T_api_Need → List T_api_Need × Int × List UInt8
  | 0, l, acc => (acc, 0, l)
  | n + 1, l, acc => cond (iEq (rdNeed l).2.1 0) (rdNeeds n (rdNeed l).2.2 (acc ++ [(rdNeed l).1])) ([], (rdNeed l).2.1, [])
def rdWay (l : List UInt8) : List T_api_Need × Int × List UInt8 := cond (iEq (rdM l).2.1 0) (rdNeeds (rdM l).1 (rdM l).2.2 []) ([], (rdM l).2.1, [])
def rdWays : Nat → List UInt8 → List (List T_api_Need) → List (List T_api_Need) × Int × List UInt8
  | 0, l, acc => (acc, 0, l)
  | n + 1, l, acc => cond (iEq (rdWay l).2.1 0) (rdWays n (rdWay l).2.2 (acc ++ [(rdWay l).1])) ([], (rdWay l).2.1, [])
def getNs (L : List T_api_Decl) (l : List UInt8) : List (List T_api_Need) × Int × List UInt8 :=
  cond (iEq (rdM l).2.1 0)
    (cond (iEq (rdWays (rdM l).1 (rdM l).2.2 []).2.1 0)
      (cond (iEq (chkW L (rdWays (rdM l).1 (rdM l).2.2 []).1) 0) ((rdWays (rdM l).1 (rdM l).2.2 []).1, 0, (rdWays (rdM l).1 (rdM l).2.2 []).2.2) ([], chkW L (rdWays (rdM l).1 (rdM l).2.2 []).1, []))
      ([], (rdWays (rdM l).1 (rdM l).2.2 []).2.1, []))
    ([], (rdM l).2.1, [])
end LJ
end

/- Plain laws of programs: what is wrong with one, its copy, its bytes. -/
section
namespace LJ
open Go Go.RowKit
set_option linter.unusedVariables false
set_option linter.unusedSimpArgs false

def first {α : Type} (f : α → Int) : List α → Int
  | [] => 0
  | x :: t => cond (iNe (f x) 0) (f x) (first f t)
theorem first_ok {α : Type} {f : α → Int} : ∀ {l : List α}, first f l = 0 → ∀ x ∈ l, f x = 0
  | [], h => fun x hx => by cases hx
  | y :: t, h => by
    unfold first at h
    by_cases hy : f y = 0
    · rw [iNe_f hy, cond_false] at h
      intro x hx
      rcases List.mem_cons.1 hx with rfl | hx
      · exact hy
      · exact first_ok h x hx
    · rw [iNe_t hy, cond_true] at h; exact absurd h hy
def chkFn (F : T_api_Func) : Int := cond ((iLt F.Args 0 || iLt F.Locals F.Args) || iLt 8 F.Locals) 1 (cond (iEq (F.Code.length : Int) 0) 2 (cond (iLt 200 (F.Code.length : Int)) 4 (first chkI F.Code)))
def chkP (p : T_api_Program) : Int :=
  cond (iNe (chkL p.Decls).2 0) (chkL p.Decls).2 (cond (iLt 32 (p.Waits.length : Int)) 4 (cond (iNe (first (chkW p.Decls) p.Waits) 0) (first (chkW p.Decls) p.Waits)
    (cond (iEq (p.Funcs.length : Int) 0) 2 (cond (iLt 16 (p.Funcs.length : Int)) 4 (first chkFn p.Funcs)))))
theorem pfn_l5 (F : T_api_Func) (hF : F.Code.length ≤ 200) : ∀ (n i f : Nat), i + n = F.Code.length → n < f → prog_function_l5 F f (i : Int) = some (first chkI (F.Code.drop i))
  | n, i, 0, hi, hf => by omega
  | 0, i, f + 1, hi, hf => by rw [prog_function_l5, iLt_f (by omega), cond_false, List.drop_eq_nil_of_le (by omega)]; rfl
  | n + 1, i, f + 1, hi, hf => by
    rw [prog_function_l5, iLt_t (by omega), cond_true, need_of (nIn_of ⟨by omega, by omega⟩), Int.toNat_natCast, ins_Check_eq, bind_some', w64 (by omega), show (i : Int) + 1 = ((i + 1 : Nat) : Int) by omega, pfn_l5 F hF n (i + 1) f (by omega) (by omega), getD_drop _ i (by omega), first, cond_some]
theorem rfn_l5 (F : T_api_Func) (hF : F.Code.length ≤ 200) : ∀ (n i f : Nat), i + n = F.Code.length → n < f → ref10_function_l5 F f (i : Int) = some (first chkI (F.Code.drop i))
  | n, i, 0, hi, hf => by omega
  | 0, i, f + 1, hi, hf => by rw [ref10_function_l5, iLt_f (by omega), cond_false, List.drop_eq_nil_of_le (by omega)]; rfl
  | n + 1, i, f + 1, hi, hf => by
    rw [ref10_function_l5, iLt_t (by omega), cond_true, need_of (nIn_of ⟨by omega, by omega⟩), Int.toNat_natCast, ref07_Check_eq, bind_some', w64 (by omega), show (i : Int) + 1 = ((i + 1 : Nat) : Int) by omega, rfn_l5 F hF n (i + 1) f (by omega) (by omega), getD_drop _ i (by omega), first, cond_some]
theorem prog_function_eq (F : T_api_Func) : prog_function F = some (chkFn F) := by
  unfold prog_function chkFn
  by_cases h : 200 < (F.Code.length : Int)
  · rw [iLt_t h, cond_true, cond_true, cond_some, cond_some]
  · have h' : iLt 200 (F.Code.length : Int) = false := iLt_f (by omega)
    have hl := pfn_l5 F (by omega) F.Code.length 0 fuel (by omega) (by have := fuel_big; omega)
    rw [List.drop_zero] at hl
    have hl' : prog_function_l5 F fuel 0 = some (first chkI F.Code) := hl
    rw [h', cond_false, cond_false, hl', cond_some, cond_some]
theorem ref10_function_eq (F : T_api_Func) : ref10_function F = some (chkFn F) := by
  unfold ref10_function chkFn
  by_cases h : 200 < (F.Code.length : Int)
  · rw [iLt_t h, cond_true, cond_true, cond_some, cond_some]
  · have h' : iLt 200 (F.Code.length : Int) = false := iLt_f (by omega)
    have hl := rfn_l5 F (by omega) F.Code.length 0 fuel (by omega) (by have := fuel_big; omega)
    rw [List.drop_zero] at hl
    have hl' : ref10_function_l5 F fuel 0 = some (first chkI F.Code) := hl
    rw [h', cond_false, cond_false, hl', cond_some, cond_some]
theorem pck_l13 (p : T_api_Program) (hF : p.Funcs.length ≤ 16) : ∀ (n i f : Nat), i + n = p.Funcs.length → n < f → prog_Check_l13 p f (i : Int) = some (first chkFn (p.Funcs.drop i))
  | n, i, 0, hi, hf => by omega
  | 0, i, f + 1, hi, hf => by rw [prog_Check_l13, iLt_f (by omega), cond_false, List.drop_eq_nil_of_le (by omega)]; rfl
  | n + 1, i, f + 1, hi, hf => by
    rw [prog_Check_l13, iLt_t (by omega), cond_true, need_of (nIn_of ⟨by omega, by omega⟩), Int.toNat_natCast, prog_function_eq, bind_some', w64 (by omega), show (i : Int) + 1 = ((i + 1 : Nat) : Int) by omega, pck_l13 p hF n (i + 1) f (by omega) (by omega), getD_drop _ i (by omega), first, cond_some]
theorem rck_l13 (p : T_api_Program) (hF : p.Funcs.length ≤ 16) : ∀ (n i f : Nat), i + n = p.Funcs.length → n < f → ref10_Check_l13 p f (i : Int) = some (first chkFn (p.Funcs.drop i))
  | n, i, 0, hi, hf => by omega
  | 0, i, f + 1, hi, hf => by rw [ref10_Check_l13, iLt_f (by omega), cond_false, List.drop_eq_nil_of_le (by omega)]; rfl
  | n + 1, i, f + 1, hi, hf => by
    rw [ref10_Check_l13, iLt_t (by omega), cond_true, need_of (nIn_of ⟨by omega, by omega⟩), Int.toNat_natCast, ref10_function_eq, bind_some', w64 (by omega), show (i : Int) + 1 = ((i + 1 : Nat) : Int) by omega, rck_l13 p hF n (i + 1) f (by omega) (by omega), getD_drop _ i (by omega), first, cond_some]
def restP (p : T_api_Program) : Int := cond (iEq (p.Funcs.length : Int) 0) 2 (cond (iLt 16 (p.Funcs.length : Int)) 4 (first chkFn p.Funcs))
theorem pck_l5 (p : T_api_Program) (hD : p.Decls.length ≤ 32) (hW : p.Waits.length ≤ 32) : ∀ (n i f : Nat), i + n = p.Waits.length → n < f → prog_Check_l5 p f (i : Int) = some (cond (iNe (first (chkW p.Decls) (p.Waits.drop i)) 0) (first (chkW p.Decls) (p.Waits.drop i)) (restP p))
  | n, i, 0, hi, hf => by omega
  | 0, i, f + 1, hi, hf => by
    rw [prog_Check_l5, iLt_f (by omega), cond_false, List.drop_eq_nil_of_le (by omega), first, iNe_f rfl, cond_false]
    unfold restP
    by_cases h : 16 < (p.Funcs.length : Int)
    · rw [iLt_t h, cond_true, cond_true, cond_some]
    · have := pck_l13 p (by omega) p.Funcs.length 0 fuel (by omega) (by have := fuel_big; omega)
      rw [List.drop_zero] at this
      rw [iLt_f (by omega), cond_false, cond_false, show (0 : Int) = ((0 : Nat) : Int) from rfl, this, cond_some]
  | n + 1, i, f + 1, hi, hf => by
    rw [prog_Check_l5, iLt_t (by omega), cond_true, need_of (nIn_of ⟨by omega, by omega⟩), Int.toNat_natCast, need_Check_eq hD, bind_some', w64 (by omega), show (i : Int) + 1 = ((i + 1 : Nat) : Int) by omega, pck_l5 p hD hW n (i + 1) f (by omega) (by omega), getD_drop _ i (by omega), first]
    by_cases h : chkW p.Decls (p.Waits.getD i default) = 0
    · rw [iNe_f h, cond_false, cond_false]
    · rw [iNe_t h, cond_true, cond_true, iNe_t h, cond_true]
theorem rck_l5 (p : T_api_Program) (hW : p.Waits.length ≤ 32) : ∀ (n i f : Nat), i + n = p.Waits.length → n < f → ref10_Check_l5 p f (i : Int) = some (cond (iNe (first (chkW p.Decls) (p.Waits.drop i)) 0) (first (chkW p.Decls) (p.Waits.drop i)) (restP p))
  | n, i, 0, hi, hf => by omega
  | 0, i, f + 1, hi, hf => by
    rw [ref10_Check_l5, iLt_f (by omega), cond_false, List.drop_eq_nil_of_le (by omega), first, iNe_f rfl, cond_false]
    unfold restP
    by_cases h : 16 < (p.Funcs.length : Int)
    · rw [iLt_t h, cond_true, cond_true, cond_some]
    · have := rck_l13 p (by omega) p.Funcs.length 0 fuel (by omega) (by have := fuel_big; omega)
      rw [List.drop_zero] at this
      rw [iLt_f (by omega), cond_false, cond_false, show (0 : Int) = ((0 : Nat) : Int) from rfl, this, cond_some]
  | n + 1, i, f + 1, hi, hf => by
    rw [ref10_Check_l5, iLt_t (by omega), cond_true, need_of (nIn_of ⟨by omega, by omega⟩), Int.toNat_natCast, ref09_Check_eq, bind_some', w64 (by omega), show (i : Int) + 1 = ((i + 1 : Nat) : Int) by omega, rck_l5 p hW n (i + 1) f (by omega) (by omega), getD_drop _ i (by omega), first]
    by_cases h : chkW p.Decls (p.Waits.getD i default) = 0
    · rw [iNe_f h, cond_false, cond_false]
    · rw [iNe_t h, cond_true, cond_true, iNe_t h, cond_true]
theorem prog_Check_eq (p : T_api_Program) : prog_Check p = some (chkP p) := by
  unfold prog_Check chkP
  rw [decl_Check_eq, bind_some']
  by_cases hd : (chkL p.Decls).2 = 0
  · rw [iNe_f hd, cond_false, cond_false]
    by_cases h : 32 < (p.Waits.length : Int)
    · rw [iLt_t h]; rfl
    · rw [iLt_f (by omega), cond_false, cond_false, show (0 : Int) = ((0 : Nat) : Int) from rfl, pck_l5 p (chkL_len hd).1 (by omega) p.Waits.length 0 fuel (by omega) (by have := fuel_big; omega), List.drop_zero]
      rfl
  · rw [iNe_t hd]; rfl
theorem ref10_Check_eq (p : T_api_Program) : ref10_Check p = some (chkP p) := by
  unfold ref10_Check chkP
  rw [ref08_Check_eq, bind_some']
  by_cases hd : (chkL p.Decls).2 = 0
  · rw [iNe_f hd, cond_false, cond_false]
    by_cases h : 32 < (p.Waits.length : Int)
    · rw [iLt_t h]; rfl
    · rw [iLt_f (by omega), cond_false, cond_false, show (0 : Int) = ((0 : Nat) : Int) from rfl, rck_l5 p (by omega) p.Waits.length 0 fuel (by omega) (by have := fuel_big; omega), List.drop_zero]
      rfl
  · rw [iNe_t hd]; rfl
structure GoodF (F : T_api_Func) : Prop where
  args : 0 ≤ F.Args ∧ F.Args ≤ 8
  locals : 0 ≤ F.Locals ∧ F.Locals ≤ 8
  code : 1 ≤ F.Code.length ∧ F.Code.length ≤ 200
  ins : ∀ x ∈ F.Code, chkI x = 0
theorem GoodF.of {F : T_api_Func} (h : chkFn F = 0) : GoodF F := by
  unfold chkFn at h
  cases h1 : ((iLt F.Args 0 || iLt F.Locals F.Args) || iLt 8 F.Locals) with
  | true => rw [h1, cond_true] at h; cases h
  | false =>
    rw [h1, cond_false] at h
    simp only [Bool.or_eq_false_iff, iLt_iff'] at h1
    by_cases h2 : (F.Code.length : Int) = 0
    · rw [iEq_t h2, cond_true] at h; cases h
    · rw [iEq_f h2, cond_false] at h
      by_cases h3 : 200 < (F.Code.length : Int)
      · rw [iLt_t h3, cond_true] at h; cases h
      · rw [iLt_f (by omega), cond_false] at h
        exact ⟨by omega, by omega, by omega, first_ok h⟩
structure GoodP (p : T_api_Program) : Prop where
  decls : (chkL p.Decls).2 = 0
  waits : p.Waits.length ≤ 32 ∧ ∀ w ∈ p.Waits, chkW p.Decls w = 0
  funcs : 1 ≤ p.Funcs.length ∧ p.Funcs.length ≤ 16
  fns : ∀ F ∈ p.Funcs, GoodF F
theorem GoodP.of {p : T_api_Program} (h : chkP p = 0) : GoodP p := by
  unfold chkP at h
  by_cases hd : (chkL p.Decls).2 = 0
  · rw [iNe_f hd, cond_false] at h
    by_cases h1 : 32 < (p.Waits.length : Int)
    · rw [iLt_t h1, cond_true] at h; cases h
    · rw [iLt_f (by omega), cond_false] at h
      by_cases h2 : first (chkW p.Decls) p.Waits = 0
      · rw [iNe_f h2, cond_false] at h
        by_cases h3 : (p.Funcs.length : Int) = 0
        · rw [iEq_t h3, cond_true] at h; cases h
        · rw [iEq_f h3, cond_false] at h
          by_cases h4 : 16 < (p.Funcs.length : Int)
          · rw [iLt_t h4, cond_true] at h; cases h
          · rw [iLt_f (by omega), cond_false] at h
            exact ⟨hd, ⟨by omega, first_ok h2⟩, by omega, fun F hF => GoodF.of (first_ok h F hF)⟩
      · rw [iNe_t h2, cond_true] at h; exact absurd h h2
  · rw [iNe_t hd, cond_true] at h; exact absurd h hd

def ownW (W : List (List T_api_Need)) : List (List T_api_Need) := (W.take 6).map fun l => l.take 6
theorem own_l2 (W : List (List T_api_Need)) : ∀ (n i f : Nat) (acc : List (List T_api_Need)), i + n = min W.length 6 → n < f → acc.length = i → law09_Own_l2 W f ((i : Int), acc) = some (acc ++ ((W.take 6).drop i).map fun l => l.take 6)
  | n, i, 0, acc, hi, hf, ha => by omega
  | 0, i, f + 1, acc, hi, hf, ha => by
    rw [law09_Own_l2]
    dsimp only
    have : (iLt (i : Int) (W.length : Int) && iLt (i : Int) 6) = false := by
      rw [Bool.and_eq_false_iff, iLt_iff', iLt_iff']; omega
    rw [this, cond_false, List.drop_eq_nil_of_le (by simp; omega), List.map_nil, List.append_nil]
  | n + 1, i, f + 1, acc, hi, hf, ha => by
    rw [law09_Own_l2]
    dsimp only
    have hl : (W.take 6).drop i = W.getD i default :: (W.take 6).drop (i + 1) := by
      rw [getD_drop (W.take 6) i (by simp; omega)]
      congr 1
      rw [List.getD_eq_getElem?_getD, List.getD_eq_getElem?_getD, List.getElem?_take_of_lt (by omega)]
    rw [iLt_t (by omega), iLt_t (by omega), Bool.and_self, cond_true, need_of (nIn_of ⟨by omega, by omega⟩), w64 (by omega), show (i : Int) + 1 = ((i + 1 : Nat) : Int) by omega, Int.toNat_natCast, hl, List.map_cons]
    cases h6 : iLt 6 ((W.getD i default).length : Int) with
    | true =>
      rw [iLt_iff] at h6
      rw [cond_true, need_of (nSl_of ⟨by omega, by omega, by omega⟩), need_of (nCap_of (by simp; omega)), need_of (nCap_of (by simp; omega)), own_l2 W n (i + 1) f _ (by omega) (by omega) (by simp [ha])]
      simp
    | false =>
      rw [iLt_iff'] at h6
      rw [cond_false, need_of (nCap_of (by rw [List.length_nil]; omega)), need_of (nCap_of (by simp; omega)), own_l2 W n (i + 1) f _ (by omega) (by omega) (by simp [ha])]
      rw [List.take_of_length_le (l := W.getD i default) (by omega)]
      simp
theorem own09 (W : List (List T_api_Need)) : law09_Own W = some (ownW W) := by
  unfold law09_Own
  have := own_l2 W (min W.length 6) 0 fuel [] (by omega) (by have := fuel_big; omega) rfl
  rw [show (0 : Int) = ((0 : Nat) : Int) from rfl, this]
  rfl
theorem own_own (W : List (List T_api_Need)) : ownW (ownW W) = ownW W := by
  unfold ownW
  rw [List.take_of_length_le (by rw [List.length_map, List.length_take]; omega), List.map_map]
  refine List.map_congr_left fun l _ => ?_
  show (l.take 6).take 6 = l.take 6
  rw [List.take_take, Nat.min_self]
theorem own_good {W : List (List T_api_Need)} (g : GoodW W) : ownW W = W := by
  unfold ownW
  rw [List.take_of_length_le (by have := g.len; omega)]
  refine Eq.trans (List.map_congr_left (g := id) fun l hl => ?_) (List.map_id W)
  exact List.take_of_length_le (by have := (g.ways l hl).1; omega)
def ownF (F : T_api_Func) : T_api_Func := ⟨F.Args, F.Locals, F.Code.take 250⟩
def ownP (p : T_api_Program) : T_api_Program := ⟨p.Decls.take 40, (p.Waits.take 40).map ownW, (p.Funcs.take 20).map ownF⟩
theorem take_drop {α : Type} [Inhabited α] (L : List α) (m i : Nat) (h : i < L.length) (hm : i < m) : (L.take m).drop i = L.getD i default :: (L.take m).drop (i + 1) := by
  rw [getD_drop (L.take m) i (by simp; omega)]
  congr 1
  rw [List.getD_eq_getElem?_getD, List.getD_eq_getElem?_getD, List.getElem?_take_of_lt hm]
theorem op_l19 {p : T_api_Program} {k : Nat} {G : List T_api_Func} {K : List T_api_Func → Option T_api_Program} (hk : k < p.Funcs.length) (hG : G.length ≤ 20) : ∀ (n i f : Nat) (acc : List T_api_Ins), i + n = min (p.Funcs.getD k default).Code.length 250 → n < f → acc.length = i →
    law10_Own_l19 p ((k : Int), G) K f ((i : Int), acc) = K (G ++ [⟨(p.Funcs.getD k default).Args, (p.Funcs.getD k default).Locals, acc ++ ((p.Funcs.getD k default).Code.take 250).drop i⟩])
  | n, i, 0, acc, hi, hf, ha => by omega
  | 0, i, f + 1, acc, hi, hf, ha => by
    rw [law10_Own_l19]
    dsimp only
    rw [need_of (nIn_of ⟨by omega, by omega⟩), Int.toNat_natCast]
    have : (iLt (i : Int) ((p.Funcs.getD k default).Code.length : Int) && iLt (i : Int) 250) = false := by
      rw [Bool.and_eq_false_iff, iLt_iff', iLt_iff']; omega
    rw [this, cond_false, need_of (nCap_of (by simp only [List.length_append, List.length_cons, List.length_nil]; omega)), List.drop_eq_nil_of_le (by rw [List.length_take]; omega), List.append_nil]
  | n + 1, i, f + 1, acc, hi, hf, ha => by
    rw [law10_Own_l19]
    dsimp only
    rw [need_of (nIn_of ⟨by omega, by omega⟩), Int.toNat_natCast, iLt_t (by omega), iLt_t (by omega), Bool.and_self, cond_true, need_of (nIn_of ⟨by omega, by omega⟩), need_of (nIn_of ⟨by omega, by omega⟩), need_of (nCap_of (by simp only [List.length_append, List.length_cons, List.length_nil]; omega)), w64 (by omega), show (i : Int) + 1 = ((i + 1 : Nat) : Int) by omega, op_l19 hk hG n (i + 1) f _ (by omega) (by omega) (by simp; omega), take_drop _ 250 i (by omega) (by omega), Int.toNat_natCast]
    simp
theorem op_l11 (p : T_api_Program) (D : List T_api_Decl) (W : List (List (List T_api_Need))) (x y : Int) : ∀ (n i f : Nat) (acc : List T_api_Func), i + n = min p.Funcs.length 20 → n < f → acc.length = i →
    law10_Own_l11 p (x, D) (y, W) f ((i : Int), acc) = some ⟨D, W, acc ++ ((p.Funcs.take 20).drop i).map ownF⟩
  | n, i, 0, acc, hi, hf, ha => by omega
  | 0, i, f + 1, acc, hi, hf, ha => by
    rw [law10_Own_l11]
    dsimp only
    have : (iLt (i : Int) (p.Funcs.length : Int) && iLt (i : Int) 20) = false := by
      rw [Bool.and_eq_false_iff, iLt_iff', iLt_iff']; omega
    rw [this, cond_false, List.drop_eq_nil_of_le (by rw [List.length_take]; omega), List.map_nil, List.append_nil]
  | n + 1, i, f + 1, acc, hi, hf, ha => by
    rw [law10_Own_l11]
    dsimp only
    have hN : nIn (i : Int) (p.Funcs.length : Int) = true := nIn_of ⟨by omega, by omega⟩
    rw [iLt_t (by omega), iLt_t (by omega), Bool.and_self, cond_true, withK_eq, need_of hN, need_of hN, take_drop _ 20 i (by omega) (by omega), List.map_cons]
    have := op_l19 (p := p) (k := i) (G := acc) (K := fun s14 => law10_Own_l11 p (x, D) (y, W) f (IntKind.i64.wrap ((i : Int) + 1), s14)) (by omega) (by omega) (min (p.Funcs.getD i default).Code.length 250) 0 fuel [] (by omega) (by have := fuel_big; omega) rfl
    refine Eq.trans this ?_
    rw [w64 (by omega), show (i : Int) + 1 = ((i + 1 : Nat) : Int) by omega, op_l11 p D W x y n (i + 1) f _ (by omega) (by omega) (by simp; omega)]
    simp [ownF]
theorem op_l7 (p : T_api_Program) (D : List T_api_Decl) (x : Int) : ∀ (n i f : Nat) (acc : List (List (List T_api_Need))), i + n = min p.Waits.length 40 → n < f → acc.length = i →
    law10_Own_l7 p (x, D) f ((i : Int), acc) = some ⟨D, acc ++ ((p.Waits.take 40).drop i).map ownW, (p.Funcs.take 20).map ownF⟩
  | n, i, 0, acc, hi, hf, ha => by omega
  | 0, i, f + 1, acc, hi, hf, ha => by
    rw [law10_Own_l7]
    dsimp only
    have : (iLt (i : Int) (p.Waits.length : Int) && iLt (i : Int) 40) = false := by
      rw [Bool.and_eq_false_iff, iLt_iff', iLt_iff']; omega
    rw [this, cond_false, List.drop_eq_nil_of_le (by rw [List.length_take]; omega), List.map_nil, List.append_nil]
    have h := op_l11 p D acc x (i : Int) (min p.Funcs.length 20) 0 fuel [] (by omega) (by have := fuel_big; omega) rfl
    rw [List.drop_zero, List.nil_append] at h
    exact h
  | n + 1, i, f + 1, acc, hi, hf, ha => by
    rw [law10_Own_l7]
    dsimp only
    rw [iLt_t (by omega), iLt_t (by omega), Bool.and_self, cond_true, need_of (nIn_of ⟨by omega, by omega⟩), Int.toNat_natCast, own09, bind_some', need_of (nCap_of (by simp only [List.length_append, List.length_cons, List.length_nil]; omega)), w64 (by omega), show (i : Int) + 1 = ((i + 1 : Nat) : Int) by omega, op_l7 p D x n (i + 1) f _ (by omega) (by omega) (by simp; omega), take_drop _ 40 i (by omega) (by omega), List.map_cons]
    simp
theorem op_l3 (p : T_api_Program) : ∀ (n i f : Nat) (acc : List T_api_Decl), i + n = min p.Decls.length 40 → n < f → acc.length = i →
    law10_Own_l3 p f ((i : Int), acc) = some ⟨acc ++ (p.Decls.take 40).drop i, (p.Waits.take 40).map ownW, (p.Funcs.take 20).map ownF⟩
  | n, i, 0, acc, hi, hf, ha => by omega
  | 0, i, f + 1, acc, hi, hf, ha => by
    rw [law10_Own_l3]
    dsimp only
    have : (iLt (i : Int) (p.Decls.length : Int) && iLt (i : Int) 40) = false := by
      rw [Bool.and_eq_false_iff, iLt_iff', iLt_iff']; omega
    rw [this, cond_false, List.drop_eq_nil_of_le (by rw [List.length_take]; omega), List.append_nil]
    have h := op_l7 p acc (i : Int) (min p.Waits.length 40) 0 fuel [] (by omega) (by have := fuel_big; omega) rfl
    rw [List.drop_zero, List.nil_append] at h
    exact h
  | n + 1, i, f + 1, acc, hi, hf, ha => by
    rw [law10_Own_l3]
    dsimp only
    rw [iLt_t (by omega), iLt_t (by omega), Bool.and_self, cond_true, need_of (nIn_of ⟨by omega, by omega⟩), Int.toNat_natCast, need_of (nCap_of (by simp only [List.length_append, List.length_cons, List.length_nil]; omega)), w64 (by omega), show (i : Int) + 1 = ((i + 1 : Nat) : Int) by omega, op_l3 p n (i + 1) f _ (by omega) (by omega) (by simp; omega), take_drop _ 40 i (by omega) (by omega)]
    simp
theorem own10 (p : T_api_Program) : law10_Own p = some (ownP p) := by
  unfold law10_Own
  have h := op_l3 p (min p.Decls.length 40) 0 fuel [] (by omega) (by have := fuel_big; omega) rfl
  rw [List.drop_zero, List.nil_append] at h
  exact h
theorem ownP_own (p : T_api_Program) : ownP (ownP p) = ownP p := by
  unfold ownP
  dsimp only
  congr 1
  · rw [List.take_take, Nat.min_self]
  · rw [List.take_of_length_le (by rw [List.length_map, List.length_take]; omega), List.map_map]
    exact List.map_congr_left fun l _ => own_own l
  · rw [List.take_of_length_le (by rw [List.length_map, List.length_take]; omega), List.map_map]
    refine List.map_congr_left fun F _ => ?_
    show (⟨F.Args, F.Locals, (F.Code.take 250).take 250⟩ : T_api_Func) = ⟨F.Args, F.Locals, F.Code.take 250⟩
    rw [List.take_take, Nat.min_self]
theorem ownP_good {p : T_api_Program} (g : GoodP p) : ownP p = p := by
  obtain ⟨D, W, F⟩ := p
  have g1 := (chkL_len g.decls).1
  have g2 := g.waits
  have g3 := g.funcs
  have g4 := g.fns
  have g0 := g.decls
  dsimp only at *
  unfold ownP
  dsimp only
  congr 1
  · exact List.take_of_length_le (by omega)
  · rw [List.take_of_length_le (by omega)]
    refine Eq.trans (List.map_congr_left (g := id) fun w hw => ?_) (List.map_id W)
    exact own_good (GoodW.of g0 (g2.2 w hw))
  · rw [List.take_of_length_le (by omega)]
    refine Eq.trans (List.map_congr_left (g := id) fun f hf => ?_) (List.map_id F)
    have := (g4 f hf).code
    unfold ownF
    rw [List.take_of_length_le (by omega)]
    rfl
end LJ
end

/- Plain laws of instructions, as the document's checks tell them. -/
section
namespace LJ
open Go Go.RowKit
set_option linter.unusedVariables false
set_option linter.unusedSimpArgs false

theorem shape_no {k : Int} (h : opK k = false) : op_shape k = some 0 := by
  have hk := opK_iff'.1 h
  unfold op_shape
  rw [op_known_eq, h]
  have e : ∀ c : Int, 0 ≤ c → c < 52 → iEq k c = false := fun c h0 h1 => iEq_f (by omega)
  rw [e 2 (by decide) (by decide), e 17 (by decide) (by decide), e 19 (by decide) (by decide), e 21 (by decide) (by decide), e 18 (by decide) (by decide), e 25 (by decide) (by decide), e 16 (by decide) (by decide), e 45 (by decide) (by decide), e 40 (by decide) (by decide), e 43 (by decide) (by decide), e 8 (by decide) (by decide), e 24 (by decide) (by decide), e 27 (by decide) (by decide), e 28 (by decide) (by decide), e 30 (by decide) (by decide), e 31 (by decide) (by decide), e 33 (by decide) (by decide), e 39 (by decide) (by decide), e 44 (by decide) (by decide), e 46 (by decide) (by decide), e 49 (by decide) (by decide)]
  have : (iLe 3 k && iLe k 15) = false := by simp only [Bool.and_eq_false_iff, iLe_iff']; omega
  rw [this]
  rfl
theorem pushes_yes : ∀ k : Fin 52, op_Pushes k = ref06_Pushes k := by decide +kernel
theorem pushes_eq (k : Int) : op_Pushes k = ref06_Pushes k := by
  cases h : opK k with
  | true =>
    have hk := opK_iff.1 h
    have := pushes_yes ⟨k.toNat, by omega⟩
    dsimp only at this
    rwa [Int.toNat_of_nonneg hk.1] at this
  | false =>
    unfold op_Pushes ref06_Pushes
    rw [shape_no h, ref06_Known_eq, h]
    rfl
theorem pops_yes : ∀ k : Fin 52, (k : Nat) ≠ 20 → (k : Nat) ≠ 41 → (k : Nat) ≠ 42 → op_Pops ⟨k, 0, 0⟩ 0 = ref06_Pops ⟨k, 0, 0⟩ 0 := by decide +kernel
theorem pops_eq {x : T_api_Ins} (a : Int) (hb : -1099511627776 ≤ x.B ∧ x.B ≤ 1099511627776) : op_Pops x a = ref06_Pops x a := by
  obtain ⟨k, A, B⟩ := x
  dsimp only at hb
  cases h : opK k with
  | false =>
    have hk := opK_iff'.1 h
    unfold op_Pops ref06_Pops
    dsimp only
    rw [iEq_f (show k ≠ 20 by omega), iEq_f (show k ≠ 42 by omega), iEq_f (show k ≠ 41 by omega), shape_no h, ref06_Known_eq, h]
    rfl
  | true =>
    have hk := opK_iff.1 h
    by_cases h20 : k = 20
    · subst h20; rfl
    · by_cases h42 : k = 42
      · subst h42
        show some (IntKind.i64.wrap (IntKind.i64.wrap ((0 : Int) + 1) + B)) = some (IntKind.i64.wrap ((1 : Int) + B))
        rw [w64 (a := (0 : Int) + 1) (by decide)]
        rfl
      · by_cases h41 : k = 41
        · subst h41; rfl
        · have h1 : op_Pops ⟨k, A, B⟩ a = op_Pops ⟨k, 0, 0⟩ 0 := by
            unfold op_Pops
            dsimp only
            rw [iEq_f h20, iEq_f h42, iEq_f h41]
            rfl
          have h2 : ref06_Pops ⟨k, A, B⟩ a = ref06_Pops ⟨k, 0, 0⟩ 0 := by
            unfold ref06_Pops
            dsimp only
            rw [iEq_f h20, iEq_f h42, iEq_f h41]
            rfl
          have := pops_yes ⟨k.toNat, by omega⟩ (by dsimp only; omega) (by dsimp only; omega) (by dsimp only; omega)
          dsimp only at this
          rw [Int.toNat_of_nonneg hk.1] at this
          rw [h1, h2, this]


end LJ
end

/- Plain laws of a program that may be: the document's check answers, and what it lets by. -/
section
namespace LJ
open Go Go.RowKit
set_option linter.unusedVariables false
set_option linter.unusedSimpArgs false

def Tot (P : Prop) (z : Option Int) : Prop := ∃ e, z = some e ∧ (e = 0 → P)
theorem Tot.ok {P : Prop} (h : P) (e : Int) : Tot P (some e) := ⟨e, rfl, fun _ => h⟩
theorem Tot.bad {P : Prop} {e : Int} (h : e ≠ 0) : Tot P (some e) := ⟨e, rfl, fun h' => absurd h' h⟩
theorem Tot.br {P : Prop} {b : Bool} {z z' : Option Int} (h : b = true → Tot P z) (h' : b = false → Tot P z') : Tot P (cond b z z') := by
  cases b with
  | true => exact h rfl
  | false => exact h' rfl
theorem Tot.nd {P : Prop} {b : Bool} {z : Option Int} (hb : b = true) (h : Tot P z) : Tot P (need b z) := by subst hb; exact h
theorem Tot.next {P Q : Prop} {z r : Option Int} (h : Tot Q z) (k : Q → Tot P r) : Tot P (z.bind fun x => cond (iNe x 0) (some x) r) := by
  obtain ⟨e, rfl, he⟩ := h
  show Tot P (cond (iNe e 0) (some e) r)
  by_cases h0 : e = 0
  · rw [iNe_f h0]; exact k (he h0)
  · rw [iNe_t h0]; exact .bad h0
theorem Tot.mono {P Q : Prop} {z : Option Int} (h : Tot P z) (k : P → Q) : Tot Q z := by
  obtain ⟨e, h1, h2⟩ := h
  exact ⟨e, h1, fun h => k (h2 h)⟩

theorem ins_tot (x : T_api_Ins) : Tot (OkI x) (ref07_Check x) := ⟨_, ref07_Check_eq x, chkI_ok⟩
theorem fn_l5 (F : T_api_Func) (hF : F.Code.length ≤ 200) : ∀ (n i f : Nat), i + n = F.Code.length → n < f → Tot (∀ j, i ≤ j → j < F.Code.length → OkI (F.Code.getD j default)) (ref10_function_l5 F f (i : Int))
  | n, i, 0, hi, hf => by omega
  | 0, i, f + 1, hi, hf => by
    rw [ref10_function_l5, iLt_f (by omega), cond_false]
    exact .ok (fun j h1 h2 => by omega) _
  | n + 1, i, f + 1, hi, hf => by
    rw [ref10_function_l5, iLt_t (by omega), cond_true, need_of (nIn_of ⟨by omega, by omega⟩), Int.toNat_natCast, w64 (by omega), show (i : Int) + 1 = ((i + 1 : Nat) : Int) by omega]
    refine .next (ins_tot _) fun h => (fn_l5 F hF n (i + 1) f (by omega) (by omega)).mono fun h' j h1 h2 => ?_
    rcases Nat.eq_or_lt_of_le h1 with rfl | h1
    · exact h
    · exact h' j h1 h2
structure OkFn (F : T_api_Func) : Prop where
  args : 0 ≤ F.Args ∧ F.Args ≤ 8
  pos : 1 ≤ F.Code.length
  most : F.Code.length ≤ 200
  ins : ∀ j, j < F.Code.length → OkI (F.Code.getD j default)
theorem fn_tot (F : T_api_Func) : Tot (OkFn F) (ref10_function F) := by
  unfold ref10_function
  refine .br (fun _ => .bad (by decide)) fun h1 => .br (fun _ => .bad (by decide)) fun h2 => .br (fun _ => .bad (by decide)) fun h3 => ?_
  simp only [Bool.or_eq_false_iff, iLt_iff'] at h1 h3
  have h2' : (F.Code.length : Int) ≠ 0 := fun h => by rw [iEq_t h] at h2; cases h2
  exact (fn_l5 F (by omega) F.Code.length 0 fuel (by omega) (by have := fuel_big; omega)).mono fun h => ⟨by omega, by omega, by omega, fun j hj => h j (Nat.zero_le _) hj⟩
theorem fns_tot (p : T_api_Program) (hF : p.Funcs.length ≤ 16) : ∀ (n i f : Nat), i + n = p.Funcs.length → n < f → Tot (∀ j, i ≤ j → j < p.Funcs.length → OkFn (p.Funcs.getD j default)) (ref10_Check_l13 p f (i : Int))
  | n, i, 0, hi, hf => by omega
  | 0, i, f + 1, hi, hf => by
    rw [ref10_Check_l13, iLt_f (by omega), cond_false]
    exact .ok (fun j h1 h2 => by omega) _
  | n + 1, i, f + 1, hi, hf => by
    rw [ref10_Check_l13, iLt_t (by omega), cond_true, need_of (nIn_of ⟨by omega, by omega⟩), Int.toNat_natCast, w64 (by omega), show (i : Int) + 1 = ((i + 1 : Nat) : Int) by omega]
    refine .next (fn_tot _) fun h => (fns_tot p hF n (i + 1) f (by omega) (by omega)).mono fun h' j h1 h2 => ?_
    rcases Nat.eq_or_lt_of_le h1 with rfl | h1
    · exact h
    · exact h' j h1 h2

theorem need_tot (L : List T_api_Decl) (x : T_api_Need) : Tot True (ref09_one L x) := by
  unfold ref09_one
  refine .br (fun _ => .ok trivial _) fun h1 => ?_
  simp only [Bool.or_eq_false_iff, iLt_iff'] at h1
  by_cases ho : 0 ≤ x.Obj ∧ x.Obj < L.length
  · have hn : nIn x.Obj (L.length : Int) = true := nIn_of ho
    have hk : nIn x.Kind (([0, 1, 2, 2, 3, 6] : List Int).length : Int) = true := nIn_of ⟨by omega, by simp only [List.length_cons, List.length_nil]; omega⟩
    refine .nd (by rw [hn, Bool.or_true]) (.nd (by rw [hk, Bool.or_true]) ?_)
    simp only [hn, need_of, cond_some]
    exact .ok trivial _
  · have hc : (iLt x.Obj 0 || iLe (L.length : Int) x.Obj) = true := by
      rw [Bool.or_eq_true, iLt_iff, iLe_iff]; omega
    refine .nd (by rw [hc]; rfl) (.nd (by rw [hc]; rfl) ?_)
    rw [hc, Bool.true_or, cond_true]
    exact .ok trivial _
theorem n_l23 {W : List (List T_api_Need)} {s : Int} {j : Nat} {K : Unit → Option Int} (hK : Tot True (K ())) (hj : j < (W.getD s.toNat default).length) (h4 : (W.getD s.toNat default).length ≤ 4) : ∀ (n i f : Nat), i + n = j → n < f → Tot True (ref09_Check_l23 W s (j : Int) K f (i : Int))
  | n, i, 0, hi, hf => by omega
  | 0, i, f + 1, hi, hf => by
    rw [ref09_Check_l23, iLt_f (by omega), cond_false]
    exact hK
  | n + 1, i, f + 1, hi, hf => by
    have e1 : nIn (i : Int) ((W.getD s.toNat default).length : Int) = true := nIn_of ⟨by omega, by omega⟩
    have e2 : nIn (j : Int) ((W.getD s.toNat default).length : Int) = true := nIn_of ⟨by omega, by omega⟩
    rw [ref09_Check_l23, iLt_t (by omega), cond_true, e1, e2, Bool.or_true, Bool.or_true, w64 (by omega), show (i : Int) + 1 = ((i + 1 : Nat) : Int) by omega]
    exact .nd rfl (.nd rfl (.nd rfl (.nd rfl (.br (fun _ => .ok trivial _) fun _ => n_l23 hK hj h4 n (i + 1) f (by omega) (by omega)))))
theorem n_l18 {W : List (List T_api_Need)} {s : Int} {K : Unit → Option Int} (hK : Tot True (K ())) (h4 : (W.getD s.toNat default).length ≤ 4) : ∀ (n i f : Nat), i + n = (W.getD s.toNat default).length → n < f → Tot True (ref09_Check_l18 W s K f (i : Int))
  | n, i, 0, hi, hf => by omega
  | 0, i, f + 1, hi, hf => by
    rw [ref09_Check_l18, iLt_f (by omega), cond_false]
    exact hK
  | n + 1, i, f + 1, hi, hf => by
    rw [ref09_Check_l18, iLt_t (by omega), cond_true, withK_eq, w64 (by omega), show (i : Int) + 1 = ((i + 1 : Nat) : Int) by omega]
    have ih := n_l18 hK h4 n (i + 1) f (by omega) (by omega)
    exact n_l23 (K := fun _ => ref09_Check_l18 W s K f ((i + 1 : Nat) : Int)) ih (by omega) h4 i 0 fuel (by omega) (by have := fuel_big; omega)
theorem n_l12 {L : List T_api_Decl} {W : List (List T_api_Need)} {s : Int} {K : Unit → Option Int} (hK : Tot True (K ())) (h4 : (W.getD s.toNat default).length ≤ 4) : ∀ (n i f : Nat), i + n = (W.getD s.toNat default).length → n < f → Tot True (ref09_Check_l12 L W s K f (i : Int))
  | n, i, 0, hi, hf => by omega
  | 0, i, f + 1, hi, hf => by
    rw [ref09_Check_l12, iLt_f (by omega), cond_false]
    exact n_l18 hK h4 (W.getD s.toNat default).length 0 fuel (by omega) (by have := fuel_big; omega)
  | n + 1, i, f + 1, hi, hf => by
    rw [ref09_Check_l12, iLt_t (by omega), cond_true, need_of (nIn_of ⟨by omega, by omega⟩), w64 (by omega), show (i : Int) + 1 = ((i + 1 : Nat) : Int) by omega]
    exact .next (need_tot _ _) fun _ => n_l12 hK h4 n (i + 1) f (by omega) (by omega)
theorem n_l4 {L : List T_api_Decl} {W : List (List T_api_Need)} (hW : W.length ≤ 4) : ∀ (n i f : Nat), i + n = W.length → n < f → Tot True (ref09_Check_l4 L W f (i : Int))
  | n, i, 0, hi, hf => by omega
  | 0, i, f + 1, hi, hf => by
    rw [ref09_Check_l4, iLt_f (by omega), cond_false]
    exact .ok trivial _
  | n + 1, i, f + 1, hi, hf => by
    rw [ref09_Check_l4, iLt_t (by omega), cond_true, withK_eq, w64 (by omega), show (i : Int) + 1 = ((i + 1 : Nat) : Int) by omega]
    refine .nd (nIn_of ⟨by omega, by omega⟩) (.br (fun _ => .ok trivial _) fun _ => .br (fun _ => .ok trivial _) fun h => ?_)
    rw [iLt_iff'] at h
    have ih := n_l4 (L := L) hW n (i + 1) f (by omega) (by omega)
    exact n_l12 (K := fun _ => ref09_Check_l4 L W f ((i + 1 : Nat) : Int)) ih (by omega) (W.getD (i : Int).toNat default).length 0 fuel (by omega) (by have := fuel_big; omega)
theorem wait_tot (L : List T_api_Decl) (W : List (List T_api_Need)) : Tot True (ref09_Check L W) := by
  unfold ref09_Check
  refine .br (fun _ => .ok trivial _) fun _ => .br (fun _ => .ok trivial _) fun h => ?_
  rw [iLt_iff'] at h
  exact n_l4 (by omega) W.length 0 fuel (by omega) (by have := fuel_big; omega)

theorem kinds117 : ref08_kinds 117 = some [1, 2] := by decide +kernel
theorem fits_tot (L : List T_api_Decl) (o : Int) : ∀ (n i f : Nat), i + n = 2 → n < f → ∃ b, ref08_Fits_l3 L o [1, 2] f (i : Int) = some b
  | n, i, 0, hi, hf => by omega
  | 0, i, f + 1, hi, hf => by
    rw [ref08_Fits_l3, iLt_f (by simp only [List.length_cons, List.length_nil]; omega)]
    exact ⟨_, rfl⟩
  | n + 1, i, f + 1, hi, hf => by
    rw [ref08_Fits_l3]
    cases h : ((iLt (i : Int) (([1, 2] : List Int).length : Int) && iLe 0 o) && iLt o (L.length : Int)) with
    | false => exact ⟨_, rfl⟩
    | true =>
      simp only [Bool.and_eq_true, iLt_iff, iLe_iff] at h
      rw [cond_true, need_of (nIn_of ⟨h.1.2, h.2⟩), need_of (nIn_of ⟨by omega, h.1.1⟩), w64 (by omega), show (i : Int) + 1 = ((i + 1 : Nat) : Int) by omega]
      obtain ⟨b, hb⟩ := fits_tot L o n (i + 1) f (by omega) (by omega)
      rw [hb, cond_some]
      exact ⟨_, rfl⟩
theorem fits117 (L : List T_api_Decl) (o : Int) : ∃ b, ref08_Fits L 117 o = some b := by
  unfold ref08_Fits
  rw [kinds117, bind_some']
  exact fits_tot L o 2 0 fuel (by omega) (by have := fuel_big; omega)
theorem decl_tot (L : List T_api_Decl) (x : T_api_Decl) : Tot True (ref08_one L x) := by
  unfold ref08_one
  refine .br (fun _ => .ok trivial _) fun _ => .br (fun _ => .ok trivial _) fun _ => .br (fun _ => .ok trivial _) fun _ => ?_
  obtain ⟨b, hb⟩ := fits117 L x.B
  have : ∃ c, cond (iEq x.Kind 7) (ref03_Fits x.A) (some default) = some c := by cases iEq x.Kind 7 <;> exact ⟨_, rfl⟩
  obtain ⟨c, hc⟩ := this
  rw [hc, bind_some', hb, cond_some, bind_some']
  exact .br (fun _ => .ok trivial _) fun _ => .br (fun _ => .ok trivial _) fun _ => .ok trivial _
theorem decls_l3 (L : List T_api_Decl) (hL : L.length ≤ 32) : ∀ (n i f : Nat), i + n = L.length → n < f → ∃ p, ref08_Check_l3 L f (i : Int) = some p
  | n, i, 0, hi, hf => by omega
  | 0, i, f + 1, hi, hf => by
    rw [ref08_Check_l3, iLt_f (by omega), cond_false]
    exact ⟨_, rfl⟩
  | n + 1, i, f + 1, hi, hf => by
    rw [ref08_Check_l3, iLt_t (by omega), cond_true, need_of (nIn_of ⟨by omega, by omega⟩), Int.toNat_natCast, w64 (by omega), show (i : Int) + 1 = ((i + 1 : Nat) : Int) by omega]
    obtain ⟨e, he, _⟩ := decl_tot L (L.getD i default)
    obtain ⟨p, hp⟩ := decls_l3 L hL n (i + 1) f (by omega) (by omega)
    rw [he, bind_some', hp, cond_some]
    exact ⟨_, rfl⟩
theorem decls_tot (L : List T_api_Decl) : ∃ p, ref08_Check L = some p := by
  unfold ref08_Check
  cases h : iLt 32 (L.length : Int) with
  | true => exact ⟨_, rfl⟩
  | false =>
    rw [iLt_iff'] at h
    rw [cond_false]
    exact decls_l3 L (by omega) L.length 0 fuel (by omega) (by have := fuel_big; omega)

structure OkP (p : T_api_Program) : Prop where
  most : p.Funcs.length ≤ 16
  fns : ∀ j, j < p.Funcs.length → OkFn (p.Funcs.getD j default)
  pos : 0 < p.Funcs.length
theorem waits_l5 (p : T_api_Program) (hW : p.Waits.length ≤ 32) : ∀ (n i f : Nat), i + n = p.Waits.length → n < f → Tot (OkP p) (ref10_Check_l5 p f (i : Int))
  | n, i, 0, hi, hf => by omega
  | 0, i, f + 1, hi, hf => by
    rw [ref10_Check_l5, iLt_f (by omega), cond_false]
    refine .br (fun _ => .bad (by decide)) fun h1 => .br (fun _ => .bad (by decide)) fun h => ?_
    rw [iLt_iff'] at h
    rw [iEq_iff'] at h1
    exact (fns_tot p (by omega) p.Funcs.length 0 fuel (by omega) (by have := fuel_big; omega)).mono fun h' => ⟨by omega, fun j hj => h' j (Nat.zero_le _) hj, by omega⟩
  | n + 1, i, f + 1, hi, hf => by
    rw [ref10_Check_l5, iLt_t (by omega), cond_true, need_of (nIn_of ⟨by omega, by omega⟩), Int.toNat_natCast, w64 (by omega), show (i : Int) + 1 = ((i + 1 : Nat) : Int) by omega]
    exact .next (wait_tot _ _) fun _ => waits_l5 p hW n (i + 1) f (by omega) (by omega)
theorem prog_tot (p : T_api_Program) : Tot (OkP p) (ref10_Check p) := by
  unfold ref10_Check
  obtain ⟨q, hq⟩ := decls_tot p.Decls
  rw [hq, bind_some']
  refine .br (fun h => ⟨_, rfl, fun h0 => ?_⟩) fun _ => .br (fun _ => .bad (by decide)) fun h => ?_
  · rw [iNe_f h0] at h; cases h
  · rw [iLt_iff'] at h
    exact waits_l5 p (by omega) p.Waits.length 0 fuel (by omega) (by have := fuel_big; omega)

def Same (p : T_api_Program) (z : Option T_api_Program) : Prop := ∃ d w, z = some ⟨d, w, p.Funcs⟩
end LJ
end

/- Plain laws of the depths: what the worklist keeps. -/
section
namespace LJ
open Go Go.RowKit
set_option linter.unusedVariables false
set_option linter.unusedSimpArgs false

theorem shapes_some : ∀ k : Fin 52, (op_shape k).isSome = true ∧ (op_Pushes k).isSome = true ∧ (match op_Pushes k with | some v => decide (0 ≤ v) && decide (v ≤ 2) | none => false) = true := by decide +kernel
theorem pushes_some {k : Int} (h : 0 ≤ k ∧ k < 52) : ∃ v, op_Pushes k = some v ∧ 0 ≤ v ∧ v ≤ 2 := by
  have := (shapes_some ⟨k.toNat, by omega⟩).2.2
  dsimp only at this
  rw [Int.toNat_of_nonneg h.1] at this
  cases hp : op_Pushes k with
  | none => rw [hp] at this; cases this
  | some v =>
    rw [hp] at this
    simp only [Bool.and_eq_true, decide_eq_true_eq] at this
    exact ⟨v, rfl, this.1, this.2⟩
theorem shape_some {k : Int} (h : 0 ≤ k ∧ k < 52) : ∃ v, op_shape k = some v := by
  have := (shapes_some ⟨k.toNat, by omega⟩).1
  dsimp only at this
  rw [Int.toNat_of_nonneg h.1] at this
  exact Option.isSome_iff_exists.1 this
theorem pops_some {x : T_api_Ins} {a : Int} (h : 0 ≤ x.Op ∧ x.Op < 52) (ha : 0 ≤ a ∧ a ≤ 8) (hb : -2147483648 ≤ x.B ∧ x.B < 2147483648) : ∃ v, op_Pops x a = some v ∧ -2147483648 ≤ v ∧ v ≤ 2147483650 := by
  obtain ⟨s, hs⟩ := shape_some h
  unfold op_Pops
  rw [withK_eq, hs]
  simp only [bind_some', withK_eq]
  have w1 : IntKind.i64.wrap ((0 : Int) + 1) = 1 := by decide
  have w2 : IntKind.i64.wrap ((1 : Int) + 1) = 2 := by decide
  rw [w1, w2, w64 (a := 1 + x.B) (by omega), w64 (a := 0 + x.B) (by omega)]
  simp only [cond_some]
  refine ⟨_, rfl, ?_⟩
  cases iEq x.Op 20 with
  | true => rw [cond_true]; omega
  | false =>
    rw [cond_false]
    cases iEq x.Op 42 with
    | true => rw [cond_true]; omega
    | false =>
      rw [cond_false]
      cases iEq x.Op 41 with
      | true => rw [cond_true]; omega
      | false =>
        rw [cond_false]
        cases iEq s 4 <;> cases iEq s 2 <;> cases iEq s 3 <;> cases iEq s 5 <;> simp only [cond_true, cond_false] <;> omega
theorem okI_B {x : T_api_Ins} (h : OkI x) : -2147483648 ≤ x.B ∧ x.B < 2147483648 := by
  by_cases h0 : (formL x.Op).size ≤ 1
  · rw [h.b0 h0]; omega
  · have := inL_rng (h.b1 (by omega)); omega
theorem okI_jump {x : T_api_Ins} (h : OkI x) (hx : x.Op = 18 ∨ x.Op = 19 ∨ x.Op = 20) : 0 ≤ x.A := by
  have key : 0 < (formL x.Op).size ∧ byteAt (formL x.Op) 0 ≠ 110 := by rcases hx with h | h | h <;> rw [h] <;> decide +kernel
  exact (inL_rng (h.a1 key.1)).2.2 key.2

abbrev W := T_depth_walk
def dAt (w : W) (i : Nat) : Int := w.depth.getD i default
def nAt (w : W) (i : Nat) : Bool := w.next.getD i default
structure Ext (w w' : W) : Prop where
  p : w'.p = w.p
  code : w'.code = w.code
  dl : w'.depth.length = w.depth.length
  nl : w'.next.length = w.next.length
  old : ∀ i, 0 ≤ dAt w i → dAt w' i = dAt w i ∧ nAt w' i = nAt w i
  new : ∀ i, dAt w i < 0 → (dAt w' i = dAt w i ∧ nAt w' i = nAt w i) ∨ (0 ≤ dAt w' i ∧ dAt w' i ≤ 16 ∧ nAt w' i = true)
  err : w.err ≠ 0 → w'.err ≠ 0
theorem Ext.refl (w : W) : Ext w w := ⟨rfl, rfl, rfl, rfl, fun _ _ => ⟨rfl, rfl⟩, fun _ _ => .inl ⟨rfl, rfl⟩, id⟩
theorem Ext.trans {a b c : W} (h : Ext a b) (h' : Ext b c) : Ext a c where
  p := h'.p.trans h.p
  code := h'.code.trans h.code
  dl := h'.dl.trans h.dl
  nl := h'.nl.trans h.nl
  old i hi := by
    obtain ⟨h1, h2⟩ := h.old i hi
    obtain ⟨h3, h4⟩ := h'.old i (by omega)
    exact ⟨h3.trans h1, h4.trans h2⟩
  new i hi := by
    rcases h.new i hi with ⟨h1, h2⟩ | ⟨h1, h2, h3⟩
    · rcases h'.new i (by omega) with ⟨h4, h5⟩ | h4
      · exact .inl ⟨h4.trans h1, h5.trans h2⟩
      · exact .inr h4
    · obtain ⟨h4, h5⟩ := h'.old i h1
      exact .inr ⟨by omega, by omega, h5.trans h3⟩
  err he := h'.err (h.err he)
theorem wrong_ok (w : W) (a e : Int) (he : e ≠ 0) : ∃ w', depth_walk_wrong w a e = some w' ∧ Ext w w' ∧ w'.err ≠ 0 := by
  unfold depth_walk_wrong
  cases h : (iEq w.err 0 || iLt a w.at_) with
  | true => exact ⟨_, rfl, ⟨rfl, rfl, rfl, rfl, fun _ _ => ⟨rfl, rfl⟩, fun _ _ => .inl ⟨rfl, rfl⟩, fun _ => he⟩, he⟩
  | false =>
    rw [Bool.or_eq_false_iff, iEq_iff'] at h
    exact ⟨_, rfl, .refl w, h.1⟩
theorem set_at {α : Type} [Inhabited α] (L : List α) (k : Nat) (v : α) (hk : k < L.length) (i : Nat) : (L.set k v).getD i default = if i = k then v else L.getD i default := by
  rw [List.getD_eq_getElem?_getD, List.getD_eq_getElem?_getD, List.getElem?_set]
  by_cases h : i = k
  · subst h; simp [hk]
  · rw [if_neg (fun h' => h h'.symm), if_neg h]
structure Lens (w : W) : Prop where
  d : w.depth.length = w.code.length
  n : w.next.length = w.code.length
theorem Ext.lens {w w' : W} (h : Ext w w') (hl : Lens w) : Lens w' := ⟨by rw [h.dl, h.code, hl.d], by rw [h.nl, h.code, hl.n]⟩
theorem leads_ok (w : W) (hw : Lens w) (a to b : Int) (h0 : 0 ≤ to) (hb : 0 ≤ b ∧ b ≤ 16) : ∃ k w', depth_walk_leads w a to b = some (k, w') ∧ Ext w w' ∧ (k = false → w'.err ≠ 0) ∧ (k = true → to < w.code.length ∧ dAt w' to.toNat = b) := by
  unfold depth_walk_leads
  by_cases h : to < w.code.length
  · have hd : nIn to (w.depth.length : Int) = true := nIn_of ⟨h0, by rw [hw.d]; exact h⟩
    have hn : nIn to (w.next.length : Int) = true := nIn_of ⟨h0, by rw [hw.n]; exact h⟩
    have hd' : to.toNat < w.depth.length := by rw [hw.d]; omega
    have hn' : to.toNat < w.next.length := by rw [hw.n]; omega
    rw [iLe_f (by omega), cond_false, need_of hd, need_of hd, need_of hn, need_of hd]
    by_cases hneg : w.depth.getD to.toNat default < 0
    · rw [iLt_t hneg, cond_true]
      have hD : ∀ i, dAt (⟨w.p, w.code, w.depth.set to.toNat b, w.next.set to.toNat true, w.at_, w.err⟩ : W) i = if i = to.toNat then b else dAt w i := fun i => set_at _ _ _ hd' i
      have hN : ∀ i, nAt (⟨w.p, w.code, w.depth.set to.toNat b, w.next.set to.toNat true, w.at_, w.err⟩ : W) i = if i = to.toNat then true else nAt w i := fun i => set_at _ _ _ hn' i
      refine ⟨_, _, rfl, ⟨rfl, rfl, List.length_set, List.length_set, fun i hi => ?_, fun i hi => ?_, id⟩, fun h => (by cases h), fun _ => ⟨h, ?_⟩⟩
      · have : i ≠ to.toNat := fun h => by subst h; exact absurd hneg (Int.not_lt.2 hi)
        rw [hD, hN, if_neg this, if_neg this]
        exact ⟨rfl, rfl⟩
      · rw [hD, hN]
        by_cases h : i = to.toNat
        · rw [if_pos h, if_pos h]; exact .inr ⟨hb.1, hb.2, rfl⟩
        · rw [if_neg h, if_neg h]; exact .inl ⟨rfl, rfl⟩
      · rw [hD, if_pos rfl]
    · rw [iLt_f (by omega), cond_false]
      by_cases he : w.depth.getD to.toNat default = b
      · rw [iNe_f he, cond_false]
        exact ⟨_, _, rfl, .refl w, fun h => (by cases h), fun _ => ⟨h, he⟩⟩
      · obtain ⟨w', h1, h2, h3⟩ := wrong_ok w a 2 (by decide)
        rw [iNe_t he, cond_true, h1, bind_some']
        exact ⟨_, _, rfl, h2, fun _ => h3, fun h => (by cases h)⟩
  · obtain ⟨w', h1, h2, h3⟩ := wrong_ok w a 3 (by decide)
    rw [iLe_t (by omega), cond_true, h1, bind_some']
    exact ⟨_, _, rfl, h2, fun _ => h3, fun h => (by cases h)⟩

def argsP (p : T_api_Program) (x : T_api_Ins) : Int := cond (iEq x.Op 20 && iLt x.A (p.Funcs.length : Int)) (p.Funcs.getD x.A.toNat default).Args 0
structure Good (p : T_api_Program) (code : List T_api_Ins) (dep : Nat → Int) (i : Nat) : Prop where
  h : ∃ v u : Int, op_Pops (code.getD i default) (argsP p (code.getD i default)) = some v ∧ op_Pushes (code.getD i default).Op = some u ∧ -2147483648 ≤ v ∧ v ≤ 2147483650 ∧ 0 ≤ u ∧ u ≤ 2 ∧ 0 ≤ dep i - v ∧ dep i - v + u ≤ 16 ∧
    ((code.getD i default).Op ≠ 18 → (code.getD i default).Op ≠ 21 → i + 1 < code.length ∧ dep (i + 1) = dep i - v + u) ∧
    ((code.getD i default).Op = 18 ∨ (code.getD i default).Op = 19 → 0 ≤ (code.getD i default).A ∧ (code.getD i default).A < code.length ∧ dep (code.getD i default).A.toNat = dep i - v + u)
theorem goes_eq {k : Int} (h : 0 ≤ k ∧ k < 52) : op_Goes k = some (iNe k 18 && iNe k 21) := by
  unfold op_Goes
  rw [op_known_eq, opK_iff.2 h, bind_some', Bool.true_and]
theorem look_tail {p : T_api_Program} {code : List T_api_Ins} {w : W} (hp : w.p = p) (hc : w.code = code) (hw : Lens w) {i : Nat} (hi : i < code.length) (hlen : code.length ≤ 200) (hx : OkI (code.getD i default)) (hd : 0 ≤ dAt w i ∧ dAt w i ≤ 16) {v u : Int} (hv : op_Pops (code.getD i default) (argsP p (code.getD i default)) = some v) (hv1 : -2147483648 ≤ v ∧ v ≤ 2147483650) (hu : op_Pushes (code.getD i default).Op = some u) (hu1 : 0 ≤ u ∧ u ≤ 2) :
    ∃ w', (cond (iLt (IntKind.i64.wrap ((w.depth.getD i default) - v)) 0) ((depth_walk_wrong w (i : Int) 2).bind fun (x5 : T_depth_walk) => some x5) ((op_Pushes ((code.getD i default).Op)).bind fun (x6 : Int) => cond (iLt 16 (IntKind.i64.wrap ((IntKind.i64.wrap ((w.depth.getD i default) - v)) + x6))) ((depth_walk_wrong w (i : Int) 4).bind fun (x8 : T_depth_walk) => some x8) ((op_Goes ((code.getD i default).Op)).bind fun (x9 : Bool) => cond x9 ((depth_walk_leads w (i : Int) (IntKind.i64.wrap ((i : Int) + 1)) (IntKind.i64.wrap ((IntKind.i64.wrap ((w.depth.getD i default) - v)) + x6))).bind fun (x11 : Bool × T_depth_walk) => cond (!x11.1) (some x11.2) (cond ((iEq ((code.getD i default).Op) 18) || (iEq ((code.getD i default).Op) 19)) ((depth_walk_leads x11.2 (i : Int) ((code.getD i default).A) (IntKind.i64.wrap ((IntKind.i64.wrap ((w.depth.getD i default) - v)) + x6))).bind fun (x14 : Bool × T_depth_walk) => some x14.2) (some x11.2))) (cond ((iEq ((code.getD i default).Op) 18) || (iEq ((code.getD i default).Op) 19)) ((depth_walk_leads w (i : Int) ((code.getD i default).A) (IntKind.i64.wrap ((IntKind.i64.wrap ((w.depth.getD i default) - v)) + x6))).bind fun (x16 : Bool × T_depth_walk) => some x16.2) (some w))))) = some w' ∧ Ext w w' ∧ (w'.err ≠ 0 ∨ Good p code (dAt w') i) := by
  have hd0 : w.depth.getD i default = dAt w i := rfl
  rw [hd0, w64 (a := dAt w i - v) (by omega)]
  by_cases h1 : dAt w i - v < 0
  · obtain ⟨w', e1, e2, e3⟩ := wrong_ok w (i : Int) 2 (by decide)
    rw [iLt_t h1, cond_true, e1]
    exact ⟨_, rfl, e2, .inl e3⟩
  rw [iLt_f (by omega), cond_false, hu, bind_some', w64 (by omega)]
  by_cases h2 : 16 < dAt w i - v + u
  · obtain ⟨w', e1, e2, e3⟩ := wrong_ok w (i : Int) 4 (by decide)
    rw [iLt_t h2, cond_true, e1]
    exact ⟨_, rfl, e2, .inl e3⟩
  rw [iLt_f (by omega), cond_false, goes_eq hx.op, bind_some', w64 (by omega)]
  have hb : 0 ≤ dAt w i - v + u ∧ dAt w i - v + u ≤ 16 := by omega
  have mk : ∀ w' : W, Ext w w' → ((code.getD i default).Op ≠ 18 → (code.getD i default).Op ≠ 21 → i + 1 < code.length ∧ dAt w' (i + 1) = dAt w i - v + u) → ((code.getD i default).Op = 18 ∨ (code.getD i default).Op = 19 → (code.getD i default).A < code.length ∧ dAt w' (code.getD i default).A.toNat = dAt w i - v + u) → Good p code (dAt w') i := fun w' he g1 g2 => by
    have := (he.old i hd.1).1
    rw [← this] at g1 g2 h1 h2
    exact ⟨v, u, hv, hu, hv1.1, hv1.2, hu1.1, hu1.2, by omega, by omega, g1, fun h => ⟨okI_jump hx (by omega), g2 h⟩⟩
  generalize hz : dAt w i - v + u = z at *
  cases hg : (iNe (code.getD i default).Op 18 && iNe (code.getD i default).Op 21) with
  | true =>
    rw [Bool.and_eq_true, iNe_iff, iNe_iff] at hg
    obtain ⟨k, w1, e1, e2, e3, e4⟩ := leads_ok w hw (i : Int) ((i : Int) + 1) z (by omega) hb
    rw [cond_true, e1, bind_some']
    dsimp only
    cases k with
    | false => exact ⟨_, rfl, e2, .inl (e3 rfl)⟩
    | true =>
      obtain ⟨e4, e5⟩ := e4 rfl
      rw [hc] at e4
      have e6 : dAt w1 (i + 1) = z := by rw [← e5]; congr 1
      rw [Bool.not_true, cond_false]
      cases hj : (iEq (code.getD i default).Op 18 || iEq (code.getD i default).Op 19) with
      | false =>
        rw [Bool.or_eq_false_iff, iEq_iff', iEq_iff'] at hj
        exact ⟨_, rfl, e2, .inr (mk w1 e2 (fun _ _ => ⟨by omega, e6⟩) (fun h => (h.elim hj.1 hj.2).elim))⟩
      | true =>
        rw [Bool.or_eq_true, iEq_iff, iEq_iff] at hj
        obtain ⟨k2, w2, f1, f2, f3, f4⟩ := leads_ok w1 (e2.lens hw) (i : Int) (code.getD i default).A z (okI_jump hx (by omega)) hb
        rw [cond_true, f1, bind_some']
        cases k2 with
        | false => exact ⟨_, rfl, e2.trans f2, .inl (f3 rfl)⟩
        | true =>
          obtain ⟨f4, f5⟩ := f4 rfl
          rw [e2.code, hc] at f4
          exact ⟨_, rfl, e2.trans f2, .inr (mk w2 (e2.trans f2) (fun _ _ => ⟨by omega, by rw [(f2.old (i + 1) (by omega)).1, e6]⟩) (fun _ => ⟨f4, f5⟩))⟩
  | false =>
    rw [cond_false]
    have hg' : (code.getD i default).Op = 18 ∨ (code.getD i default).Op = 21 := by
      rcases Bool.and_eq_false_iff.1 hg with h | h
      · exact .inl (iNe_iff'.1 h)
      · exact .inr (iNe_iff'.1 h)
    cases hj : (iEq (code.getD i default).Op 18 || iEq (code.getD i default).Op 19) with
    | false =>
      rw [Bool.or_eq_false_iff, iEq_iff', iEq_iff'] at hj
      exact ⟨_, rfl, .refl w, .inr (mk w (.refl w) (fun h h' => (hg'.elim h h').elim) (fun h => (h.elim hj.1 hj.2).elim))⟩
    | true =>
      rw [Bool.or_eq_true, iEq_iff, iEq_iff] at hj
      obtain ⟨k2, w2, f1, f2, f3, f4⟩ := leads_ok w hw (i : Int) (code.getD i default).A z (okI_jump hx (by omega)) hb
      rw [cond_true, f1, bind_some']
      cases k2 with
      | false => exact ⟨_, rfl, f2, .inl (f3 rfl)⟩
      | true =>
        obtain ⟨f4, f5⟩ := f4 rfl
        rw [hc] at f4
        exact ⟨_, rfl, f2, .inr (mk w2 f2 (fun h h' => (hg'.elim h h').elim) (fun _ => ⟨f4, f5⟩))⟩
theorem look_ok {p : T_api_Program} {code : List T_api_Ins} {w : W} (hp : w.p = p) (hc : w.code = code) (hF : ∀ j, j < p.Funcs.length → OkFn (p.Funcs.getD j default)) (hw : Lens w) {i : Nat} (hi : i < code.length) (hlen : code.length ≤ 200) (hx : OkI (code.getD i default)) (hd : 0 ≤ dAt w i ∧ dAt w i ≤ 16) :
    ∃ w', depth_walk_look w (i : Int) = some w' ∧ Ext w w' ∧ (w'.err ≠ 0 ∨ Good p code (dAt w') i) := by
  obtain ⟨u, hu, hu1⟩ := pushes_some hx.op
  have hargs : 0 ≤ argsP p (code.getD i default) ∧ argsP p (code.getD i default) ≤ 8 := by
    unfold argsP
    cases h : (iEq (code.getD i default).Op 20 && iLt (code.getD i default).A (p.Funcs.length : Int)) with
    | false => rw [cond_false]; omega
    | true =>
      rw [Bool.and_eq_true, iEq_iff, iLt_iff] at h
      have h0 := okI_jump hx (.inr (.inr h.1))
      have := (hF (code.getD i default).A.toNat (by omega)).args
      rw [cond_true]; exact this
  obtain ⟨v, hv, hv1⟩ := pops_some hx.op hargs (okI_B hx)
  have key := look_tail hp hc hw hi hlen hx hd hv hv1 hu hu1
  unfold depth_walk_look
  have hdn : nIn (i : Int) (w.depth.length : Int) = true := nIn_of ⟨by omega, by rw [hw.d, hc]; omega⟩
  rw [hc, hp, need_of (nIn_of ⟨by omega, by omega⟩), Int.toNat_natCast]
  unfold argsP at hv
  cases h : (iEq (code.getD i default).Op 20 && iLt (code.getD i default).A (p.Funcs.length : Int)) with
  | true =>
    rw [h, cond_true] at hv
    rw [Bool.and_eq_true, iEq_iff, iLt_iff] at h
    have h0 := okI_jump hx (.inr (.inr h.1))
    rw [cond_true, need_of (nIn_of ⟨h0, h.2⟩), need_of hdn, hv, bind_some']
    exact key
  | false =>
    rw [h, cond_false] at hv
    rw [cond_false, need_of hdn, hv, bind_some']
    exact key
end LJ
end

/- The law DepthHolds, plainly. -/
section
namespace LJ
open Go Go.RowKit
set_option linter.unusedVariables false
set_option linter.unusedSimpArgs false

theorem Good.ext {p : T_api_Program} {code : List T_api_Ins} {w w' : W} {i : Nat} (h : Good p code (dAt w) i) (he : Ext w w') (hd : 0 ≤ dAt w i) : Good p code (dAt w') i := by
  obtain ⟨v, u, h1, h2, h3, h4, h5, h6, h7, h8, h9, h10⟩ := h.h
  have e := (he.old i hd).1
  refine ⟨v, u, h1, h2, h3, h4, h5, h6, by omega, by omega, fun a b => ?_, fun a => ?_⟩
  · obtain ⟨g1, g2⟩ := h9 a b
    exact ⟨g1, by rw [(he.old (i + 1) (by omega)).1]; omega⟩
  · obtain ⟨g0, g1, g2⟩ := h10 a
    exact ⟨g0, g1, by rw [(he.old _ (by omega)).1]; omega⟩
structure Inv (p : T_api_Program) (code : List T_api_Ins) (w : W) : Prop where
  ep : w.p = p
  ec : w.code = code
  lens : Lens w
  d0 : dAt w 0 = 0
  rng : ∀ i, i < code.length → dAt w i ≤ 16
  nx : ∀ i, i < code.length → nAt w i = true → 0 ≤ dAt w i
  good : ∀ i, i < code.length → 0 ≤ dAt w i → nAt w i = false → w.err ≠ 0 ∨ Good p code (dAt w) i
def pend (w : W) (i : Nat) : Bool := decide (dAt w i < 0) || nAt w i
def cnt (w : W) (n : Nat) : Nat := (List.range n).countP (pend w)
theorem countP_lt {α : Type} {p q : α → Bool} : ∀ (l : List α) (a : α), (∀ x ∈ l, q x = true → p x = true) → a ∈ l → p a = true → q a = false → l.countP q < l.countP p
  | [], a, h, ha, _, _ => by cases ha
  | x :: l, a, h, ha, hp, hq => by
    rw [List.countP_cons, List.countP_cons]
    have hm : l.countP q ≤ l.countP p := List.countP_mono_left fun y hy => h y (List.mem_cons_of_mem _ hy)
    by_cases e : a = x
    · subst e
      rw [hp, hq]
      simp
      omega
    · have hin : a ∈ l := by
        rcases List.mem_cons.1 ha with h' | h'
        · exact absurd h' e
        · exact h'
      have ih := countP_lt l a (fun y hy => h y (List.mem_cons_of_mem _ hy)) hin hp hq
      have hx := h x (List.mem_cons_self ..)
      cases hqx : q x with
      | false => simp; split <;> omega
      | true => rw [hx hqx]; omega
theorem round {p : T_api_Program} {code : List T_api_Ins} {w : W} (hF : ∀ j, j < p.Funcs.length → OkFn (p.Funcs.getD j default)) (hlen : code.length ≤ 200) (hI : ∀ j, j < code.length → OkI (code.getD j default)) (h : Inv p code w) {k : Nat} (hk : k < code.length) (hn : nAt w k = true) :
    ∃ w', depth_walk_look ⟨w.p, w.code, w.depth, w.next.set k false, w.at_, w.err⟩ (k : Int) = some w' ∧ Inv p code w' ∧ cnt w' code.length < cnt w code.length := by
  have hkn : k < w.next.length := by rw [h.lens.n, h.ec]; exact hk
  have hN : ∀ i, nAt (⟨w.p, w.code, w.depth, w.next.set k false, w.at_, w.err⟩ : W) i = if i = k then false else nAt w i := fun i => set_at _ _ _ hkn i
  have hD : ∀ i, dAt (⟨w.p, w.code, w.depth, w.next.set k false, w.at_, w.err⟩ : W) i = dAt w i := fun i => rfl
  have hE : (⟨w.p, w.code, w.depth, w.next.set k false, w.at_, w.err⟩ : W).err = w.err := rfl
  have hL : Lens (⟨w.p, w.code, w.depth, w.next.set k false, w.at_, w.err⟩ : W) := ⟨h.lens.d, by rw [List.length_set]; exact h.lens.n⟩
  have hdk := h.nx k hk hn
  have hdk2 := h.rng k hk
  obtain ⟨w', e1, e2, e3⟩ := look_ok (w := ⟨w.p, w.code, w.depth, w.next.set k false, w.at_, w.err⟩) h.ep h.ec hF hL hk hlen (hI k hk) ⟨hdk, hdk2⟩
  generalize hw0 : (⟨w.p, w.code, w.depth, w.next.set k false, w.at_, w.err⟩ : W) = w0 at *
  have hp0 : w0.p = w.p := by rw [← hw0]
  have hc0 : w0.code = w.code := by rw [← hw0]
  refine ⟨w', e1, ⟨e2.p.trans (hp0.trans h.ep), e2.code.trans (hc0.trans h.ec), e2.lens hL, ?_, fun i hi => ?_, fun i hi hni => ?_, fun i hi hdi hni => ?_⟩, ?_⟩
  · rw [(e2.old 0 (by rw [hD, h.d0]; exact Int.le_refl _)).1, hD, h.d0]
  · by_cases hd : 0 ≤ dAt w0 i
    · rw [(e2.old i hd).1, hD]; exact h.rng i hi
    · rcases e2.new i (by omega) with ⟨a, _⟩ | ⟨_, a, _⟩
      · omega
      · exact a
  · by_cases hd : 0 ≤ dAt w0 i
    · rw [(e2.old i hd).1]; exact hd
    · rcases e2.new i (by omega) with ⟨_, b⟩ | ⟨a, _⟩
      · rw [b, hN] at hni
        by_cases hik : i = k
        · rw [if_pos hik] at hni; cases hni
        · rw [if_neg hik] at hni
          have := h.nx i hi hni
          rw [hD] at hd
          exact absurd this hd
      · exact a
  · by_cases hik : i = k
    · rw [hik]; exact e3
    · by_cases hd : 0 ≤ dAt w0 i
      · have hh := (e2.old i hd).2
        rw [hni, hN, if_neg hik] at hh
        rcases h.good i hi (by rw [← hD]; exact hd) hh.symm with a | a
        · exact .inl (e2.err (by rw [hE]; exact a))
        · refine .inr (Good.ext (w := w0) ?_ e2 hd)
          have : dAt w0 = dAt w := funext hD
          rw [this]; exact a
      · rcases e2.new i (by omega) with ⟨a, _⟩ | ⟨_, _, a⟩
        · omega
        · rw [a] at hni; cases hni
  · refine countP_lt (List.range code.length) k (fun i hi hpi => ?_) (List.mem_range.2 hk) ?_ ?_
    · unfold pend at hpi ⊢
      by_cases hd : 0 ≤ dAt w0 i
      · obtain ⟨a, b⟩ := e2.old i hd
        rw [a, b, hN] at hpi
        by_cases hik : i = k
        · rw [hik, hn, Bool.or_true]
        · rwa [if_neg hik, hD] at hpi
      · rw [hD] at hd
        rw [decide_eq_true (by omega : dAt w i < 0)]; rfl
    · unfold pend; rw [hn, Bool.or_true]
    · unfold pend
      obtain ⟨a, b⟩ := e2.old k (by rw [hD]; exact hdk)
      rw [a, b, hN, if_pos rfl, hD, decide_eq_false (by omega)]; rfl

theorem index_l2 (L : List Bool) (hL : L.length ≤ 1000) : ∀ (n i f : Nat), i + n = L.length → n < f → ∃ r, slices_Index___bool_bool__l2 L true f (i : Int) = some r ∧ ((r = -1 ∧ ∀ j, i ≤ j → j < L.length → L.getD j default = false) ∨ ∃ k : Nat, k < L.length ∧ r = (k : Int) ∧ L.getD k default = true)
  | n, i, 0, hi, hf => by omega
  | 0, i, f + 1, hi, hf => by
    rw [slices_Index___bool_bool__l2, iLt_f (by omega), cond_false]
    exact ⟨_, rfl, .inl ⟨rfl, fun j h1 h2 => by omega⟩⟩
  | n + 1, i, f + 1, hi, hf => by
    rw [slices_Index___bool_bool__l2, iLt_t (by omega), cond_true, need_of (nIn_of ⟨by omega, by omega⟩), Int.toNat_natCast, w64 (by omega), show (i : Int) + 1 = ((i + 1 : Nat) : Int) by omega]
    cases hb : L.getD i default with
    | true => exact ⟨_, rfl, .inr ⟨i, by omega, rfl, hb⟩⟩
    | false =>
      obtain ⟨r, h1, h2⟩ := index_l2 L hL n (i + 1) f (by omega) (by omega)
      refine ⟨r, h1, ?_⟩
      rcases h2 with ⟨h3, h4⟩ | h3
      · refine .inl ⟨h3, fun j h5 h6 => ?_⟩
        rcases Nat.eq_or_lt_of_le h5 with rfl | h5
        · exact hb
        · exact h4 j h5 h6
      · exact .inr h3
theorem least_ok (w : W) (hL : w.next.length ≤ 1000) : ∃ r, depth_walk_least w = some r ∧ ((r = -1 ∧ ∀ j, j < w.next.length → nAt w j = false) ∨ ∃ k : Nat, k < w.next.length ∧ r = (k : Int) ∧ nAt w k = true) := by
  obtain ⟨r, h1, h2⟩ := index_l2 w.next hL w.next.length 0 fuel (by omega) (by have := fuel_big; omega)
  refine ⟨r, ?_, h2.imp (fun h => ⟨h.1, fun j hj => h.2 j (Nat.zero_le _) hj⟩) id⟩
  unfold depth_walk_least slices_Index___bool_bool_
  rw [show (0 : Int) = ((0 : Nat) : Int) from rfl, h1, bind_some']

structure OkL (p : T_api_Program) (code : List T_api_Ins) (l : List Int) : Prop where
  len : l.length = code.length
  d0 : l.getD 0 default = 0
  rng : ∀ i, i < code.length → l.getD i default ≤ 16
  good : ∀ i, i < code.length → 0 ≤ l.getD i default → Good p code (fun j => l.getD j default) i
def Res (p : T_api_Program) (code : List T_api_Ins) (z : Option (List Int × Int × Int)) : Prop := ∃ l a e, z = some (l, a, e) ∧ (e = 0 → OkL p code l)
theorem of_l13 {p : T_api_Program} {code : List T_api_Ins} (hF : ∀ j, j < p.Funcs.length → OkFn (p.Funcs.getD j default)) (hlen : code.length ≤ 200) (hI : ∀ j, j < code.length → OkI (code.getD j default)) : ∀ (m f : Nat) (w : W) (x : Int), cnt w code.length ≤ m → m < f → Inv p code w → depth_walk_least w = some x → Res p code (depth_Of_l13 f (x, w.p.Decls, w.p.Waits, w.p.Funcs, w.code, w.at_, w.err, w.depth, w.next))
  | m, 0, w, x, hm, hf, hv, hx => by omega
  | m, f + 1, w, x, hm, hf, hv, hx => by
    have hnl : w.next.length = code.length := by rw [hv.lens.n, hv.ec]
    obtain ⟨r, h1, h2⟩ := least_ok w (by omega)
    obtain rfl : r = x := Option.some.inj (h1.symm.trans hx)
    rw [depth_Of_l13]
    dsimp only
    rcases h2 with ⟨h3, h4⟩ | ⟨k, h3, h4, h5⟩
    · rw [iLe_f (by omega), cond_false]
      by_cases he : w.err = 0
      · rw [iNe_f he, cond_false]
        refine ⟨_, _, _, rfl, fun _ => ⟨by rw [hv.lens.d, hv.ec], hv.d0, hv.rng, fun i hi hd => ?_⟩⟩
        exact (hv.good i hi hd (h4 i (by omega))).resolve_left (fun h => h he)
      · rw [iNe_t he, cond_true]
        exact ⟨_, _, _, rfl, fun h => absurd h he⟩
    · subst h4
      obtain ⟨w', g1, g2, g3⟩ := round hF hlen hI hv (by omega) h5
      obtain ⟨y, y1, _⟩ := least_ok w' (by rw [g2.lens.n, g2.ec]; omega)
      rw [iLe_t (by omega), cond_true, need_of (nIn_of ⟨by omega, by omega⟩), Int.toNat_natCast]
      rw [show (⟨(⟨w.p.Decls, w.p.Waits, w.p.Funcs⟩ : T_api_Program), w.code, w.depth, w.next.set k false, w.at_, w.err⟩ : T_depth_walk) = ⟨w.p, w.code, w.depth, w.next.set k false, w.at_, w.err⟩ from rfl, g1, bind_some', y1, bind_some']
      cases m with
      | zero => omega
      | succ m => exact of_l13 hF hlen hI m f w' y (by omega) (by omega) g2 y1
theorem fill_l5 {p : T_api_Program} {k : Int} {code : List T_api_Ins} (hc : (p.Funcs.getD k.toNat default).Code = code) (hlen : code.length ≤ 200) {P : Option (List Int × Int × Int) → Prop} (hK : ∀ L : List Int, L.length = code.length → (∀ i, i < code.length → L.getD i default = -1) → P (cond (iEq (code.length : Int) 0) (some ([], 0, 3)) (need (nMk (code.length : Int) 1) ((depth_walk_leads (⟨p, code, L, List.replicate (code.length : Int).toNat (false : Bool), 0, 0⟩ : T_depth_walk) 0 0 0).bind fun (x10 : Bool × T_depth_walk) => (depth_walk_least x10.2).bind fun (x11 : Int) => depth_Of_l13 fuel (x11, x10.2.p.Decls, x10.2.p.Waits, x10.2.p.Funcs, x10.2.code, x10.2.at_, x10.2.err, x10.2.depth, x10.2.next))))) : ∀ (n i f : Nat) (L : List Int), i + n = code.length → n < f → L.length = code.length → (∀ j, j < i → L.getD j default = -1) → P (depth_Of_l5 p k f ((i : Int), L))
  | n, i, 0, L, hi, hf, hl, hL => by omega
  | 0, i, f + 1, L, hi, hf, hl, hL => by
    rw [depth_Of_l5, hc]
    dsimp only
    rw [List.length_map, List.length_replicate, Int.toNat_natCast, iLt_f (by omega), cond_false]
    exact hK L hl fun j hj => hL j (by omega)
  | n + 1, i, f + 1, L, hi, hf, hl, hL => by
    rw [depth_Of_l5, hc]
    dsimp only
    rw [List.length_map, List.length_replicate, Int.toNat_natCast, iLt_t (by omega), cond_true, need_of (nIn_of ⟨by omega, by omega⟩), Int.toNat_natCast, w64 (by omega), show (i : Int) + 1 = ((i + 1 : Nat) : Int) by omega]
    refine fill_l5 hc hlen hK n (i + 1) f _ (by omega) (by omega) (by rw [List.length_set]; exact hl) fun j hj => ?_
    rw [set_at _ _ _ (by omega)]
    by_cases h : j = i
    · rw [if_pos h]
    · rw [if_neg h]; exact hL j (by omega)
theorem depth_Of_ok {p : T_api_Program} (hm : p.Funcs.length ≤ 16) (hF : ∀ j, j < p.Funcs.length → OkFn (p.Funcs.getD j default)) (k : Int) : ∃ l a e, depth_Of p k = some (l, a, e) ∧ (e = 0 → 0 ≤ k ∧ k < p.Funcs.length ∧ OkL p (p.Funcs.getD k.toNat default).Code l) := by
  unfold depth_Of
  by_cases hk : 0 ≤ k ∧ k < p.Funcs.length
  · obtain ⟨h0, h1⟩ := hk
    have ok := hF k.toNat (by omega)
    generalize hc : (p.Funcs.getD k.toNat default).Code = code
    have hlen : code.length ≤ 200 := by rw [← hc]; exact ok.most
    have hpos : 1 ≤ code.length := by rw [← hc]; exact ok.pos
    have hI : ∀ j, j < code.length → OkI (code.getD j default) := by rw [← hc]; exact ok.ins
    rw [iLt_f h0, iLe_f h1, Bool.or_self, cond_false, need_of (nIn_of ⟨h0, h1⟩), need_of (nMk_of ⟨by omega, by omega, by rw [Int.toNat_natCast]; omega⟩), Int.toNat_natCast]
    have hz : Res p code (depth_Of_l5 p k fuel (((0 : Nat) : Int), List.replicate code.length 0)) := by
      refine fill_l5 (P := Res p code) hc hlen (fun L hl hL => ?_) code.length 0 fuel _ (by omega) (by have := fuel_big; omega) (List.length_replicate ..) (fun j hj => by omega)
      rw [iEq_f (by omega), cond_false, need_of (nMk_of ⟨by omega, by omega, by rw [Int.toNat_natCast]; omega⟩), Int.toNat_natCast]
      have hN : ∀ i, (List.replicate code.length false).getD i default = false := fun i => by
        rw [List.getD_eq_getElem?_getD, List.getElem?_replicate]
        split <;> rfl
      obtain ⟨b, w, e1, e2, e3, e4⟩ := leads_ok (⟨p, code, L, List.replicate code.length false, 0, 0⟩ : W) ⟨hl, List.length_replicate ..⟩ 0 0 0 (by decide) (by decide)
      generalize hw0 : (⟨p, code, L, List.replicate code.length false, 0, 0⟩ : W) = w0 at *
      have hD : ∀ i, i < code.length → dAt w0 i = -1 := fun i hi => by rw [← hw0]; exact hL i hi
      have hN' : ∀ i, nAt w0 i = false := fun i => by rw [← hw0]; exact hN i
      have hp0 : w0.p = p := by rw [← hw0]
      have hc0 : w0.code = code := by rw [← hw0]
      have hl0 : Lens w0 := by rw [← hw0]; exact ⟨hl, List.length_replicate ..⟩
      rw [e1, bind_some']
      dsimp only
      have hb : b = true := by
        cases b with
        | true => rfl
        | false =>
          exfalso
          have := e3 rfl
          unfold depth_walk_leads at e1
          rw [hc0, iLe_f (by omega), cond_false, need_of (nIn_of ⟨by omega, by rw [hl0.d, hc0]; omega⟩), show w0.depth.getD (0 : Int).toNat default = -1 from hD 0 (by omega), iLt_t (by decide), cond_true, need_of (nIn_of ⟨by omega, by rw [hl0.d, hc0]; omega⟩), need_of (nIn_of ⟨by omega, by rw [hl0.n, hc0]; omega⟩)] at e1
          cases e1
      have e5 := (e4 hb).2
      have hinv : Inv p code w := by
        refine ⟨e2.p.trans hp0, e2.code.trans hc0, e2.lens hl0, e5, fun i hi => ?_, fun i hi hn => ?_, fun i hi hd hn => ?_⟩
        · rcases e2.new i (by rw [hD i hi]; decide) with ⟨a, _⟩ | ⟨_, a, _⟩
          · rw [a, hD i hi]; decide
          · exact a
        · rcases e2.new i (by rw [hD i hi]; decide) with ⟨_, b⟩ | ⟨a, _⟩
          · rw [b, hN'] at hn; cases hn
          · exact a
        · rcases e2.new i (by rw [hD i hi]; decide) with ⟨a, _⟩ | ⟨_, _, a⟩
          · rw [a, hD i hi] at hd; exact absurd hd (by decide)
          · rw [a] at hn; cases hn
      obtain ⟨y, y1, _⟩ := least_ok w (by rw [hinv.lens.n, hinv.ec]; omega)
      rw [y1, bind_some']
      refine of_l13 hF hlen hI (cnt w code.length) fuel w y (Nat.le_refl _) ?_ hinv y1
      have : cnt w code.length ≤ (List.range code.length).length := List.countP_le_length
      rw [List.length_range] at this
      have := fuel_big
      omega
    obtain ⟨l, a, e, h2, h3⟩ := hz
    exact ⟨l, a, e, h2, fun h => ⟨h0, h1, h3 h⟩⟩
  · have : (iLt k 0 || iLe (p.Funcs.length : Int) k) = true := by rw [Bool.or_eq_true, iLt_iff, iLe_iff]; omega
    rw [this, cond_true]
    exact ⟨_, _, _, rfl, fun h => absurd h (by decide)⟩

end LJ
end

/- A program that may run, as the document tells: the check answers, and what it lets by. -/
section
namespace LJ
open Go Go.RowKit
set_option linter.unusedVariables false
set_option linter.unusedSimpArgs false

def takesT : List Int := [0, 0, 1, 2, 2, 2, 2, 2, 1, 2, 2, 2, 2, 2, 2, 2, 1, 1, 0, 1, 0, 1, 0, 0, 1, 0, 0, 1, 1, 0, 1, 1, 0, 1, 0, 0, 0, 0, 0, 1, 2, 0, 1, 2, 1, 0, 1, 0, 0, 1, 0, 0]
def laysT : List Int := [1, 1, 0, 1, 1, 1, 1, 1, 1, 1, 1, 1, 1, 1, 1, 1, 2, 0, 0, 0, 1, 0, 1, 1, 1, 0, 1, 1, 1, 1, 1, 1, 1, 1, 1, 1, 1, 1, 1, 1, 1, 1, 1, 1, 1, 2, 1, 1, 1, 1, 1, 1]
def popsN (x : T_api_Ins) (a : Int) : Int := cond (iEq x.Op 20) a (cond (iEq x.Op 41 || iEq x.Op 42) (takesT.getD x.Op.toNat default + x.B) (takesT.getD x.Op.toNat default))
def pushN (k : Int) : Int := laysT.getD k.toNat default
theorem okB {x : T_api_Ins} (h : OkI x) : -2147483648 ≤ x.B ∧ x.B < 2147483648 := by
  by_cases h0 : (formL x.Op).size ≤ 1
  · rw [h.b0 h0]; omega
  · have := inL_rng (h.b1 (by omega)); omega
theorem okJump {x : T_api_Ins} (h : OkI x) (hx : x.Op = 18 ∨ x.Op = 19 ∨ x.Op = 20) : 0 ≤ x.A := by
  have key : 0 < (formL x.Op).size ∧ byteAt (formL x.Op) 0 ≠ 110 := by rcases hx with h | h | h <;> rw [h] <;> decide +kernel
  exact (inL_rng (h.a1 key.1)).2.2 key.2
theorem okJoin {x : T_api_Ins} (h : OkI x) (hx : x.Op = 41 ∨ x.Op = 42) : 1 ≤ x.B ∧ x.B ≤ 4 := by
  have key : 1 < (formL x.Op).size ∧ byteAt (formL x.Op) 1 = 106 := by rcases hx with h | h <;> rw [h] <;> decide +kernel
  have := h.b1 key.1
  rw [key.2] at this
  unfold inL at this
  rw [iEq_f (show (106 : Int) ≠ 110 by decide), iEq_f (show (106 : Int) ≠ 107 by decide), iEq_f (show (106 : Int) ≠ 116 by decide), iEq_f (show (106 : Int) ≠ 102 by decide), iEq_t rfl] at this
  simpa only [cond_true, cond_false, Bool.and_eq_true, iLe_iff] using this
theorem takes_eq : ref06_Takes = some takesT := rfl
theorem lays_eq : ref06_Lays = some laysT := rfl
theorem pops_ref {x : T_api_Ins} (h : OkI x) (a : Int) : ref06_Pops x a = some (popsN x a) := by
  have hk : (iLe 0 x.Op && iLe x.Op 51) = true := by rw [Bool.and_eq_true, iLe_iff, iLe_iff]; have := h.op; omega
  have ho := h.op
  have hb := okB h
  have hin : nIn x.Op ((52 : Nat) : Int) = true := nIn_of ⟨by omega, by omega⟩
  have hT : 0 ≤ takesT.getD x.Op.toNat default ∧ takesT.getD x.Op.toNat default ≤ 2 := by
    have key : ∀ k : Fin 52, 0 ≤ takesT.getD k default ∧ takesT.getD k default ≤ 2 := by decide +kernel
    exact key ⟨x.Op.toNat, by omega⟩
  unfold ref06_Pops ref06_Known popsN
  rw [bind_some', hk, Bool.not_true, cond_false, takes_eq]
  simp only [bind_some']
  rw [show (takesT.length : Int) = ((52 : Nat) : Int) from rfl, hin, need_of rfl, need_of rfl, w64 (by omega)]
  cases iEq x.Op 20 <;> cases (iEq x.Op 41 || iEq x.Op 42) <;> rfl
theorem push_ref {k : Int} (h : 0 ≤ k ∧ k < 52) : ref06_Pushes k = some (pushN k) := by
  unfold ref06_Pushes ref06_Known
  rw [bind_some', show (iLe 0 k && iLe k 51) = true by rw [Bool.and_eq_true, iLe_iff, iLe_iff]; omega, Bool.not_true, cond_false, lays_eq, bind_some', need_of (nIn_of ⟨by omega, by show k < 52; omega⟩)]
  rfl
theorem pushN_rng {k : Int} (h : 0 ≤ k ∧ k < 52) : 0 ≤ pushN k ∧ pushN k ≤ 2 := by
  have key : ∀ j : Fin 52, 0 ≤ laysT.getD j default ∧ laysT.getD j default ≤ 2 := by decide +kernel
  exact key ⟨k.toNat, by omega⟩
theorem popsN_rng {x : T_api_Ins} (h : OkI x) {a : Int} (ha : 0 ≤ a ∧ a ≤ 8) : 0 ≤ popsN x a ∧ popsN x a ≤ 8 ∧ (x.Op ≠ 20 → popsN x a ≤ 5) := by
  have ho := h.op
  have hT : 0 ≤ takesT.getD x.Op.toNat default ∧ takesT.getD x.Op.toNat default ≤ 2 := by
    have key : ∀ k : Fin 52, 0 ≤ takesT.getD k default ∧ takesT.getD k default ≤ 2 := by decide +kernel
    exact key ⟨x.Op.toNat, by omega⟩
  unfold popsN
  by_cases h20 : x.Op = 20
  · rw [iEq_t h20, cond_true]; omega
  · rw [iEq_f h20, cond_false]
    by_cases h4 : x.Op = 41 ∨ x.Op = 42
    · have := okJoin h h4
      rw [show (iEq x.Op 41 || iEq x.Op 42) = true by rw [Bool.or_eq_true, iEq_iff, iEq_iff]; exact h4, cond_true]
      have h1 : takesT.getD x.Op.toNat default ≤ 1 := by rcases h4 with e | e <;> rw [e] <;> decide
      omega
    · rw [show (iEq x.Op 41 || iEq x.Op 42) = false by rw [Bool.or_eq_false_iff, iEq_iff', iEq_iff']; omega, cond_false]
      omega
def argsR (p : T_api_Program) (x : T_api_Ins) : Int := cond (iEq x.Op 20 && iLt x.A (p.Funcs.length : Int)) (p.Funcs.getD x.A.toNat default).Args 0
def behR (p : T_api_Program) (x : T_api_Ins) (d : Int) : Int := d - popsN x (argsR p x) + pushN x.Op
theorem argsR_rng {p : T_api_Program} (hp : OkP p) {x : T_api_Ins} (hx : OkI x) : 0 ≤ argsR p x ∧ argsR p x ≤ 8 := by
  unfold argsR
  cases h : (iEq x.Op 20 && iLt x.A (p.Funcs.length : Int)) with
  | true =>
    rw [Bool.and_eq_true, iEq_iff, iLt_iff] at h
    have h0 := okJump hx (.inr (.inr h.1))
    exact (hp.fns x.A.toNat (by omega)).args
  | false => rw [cond_false]; omega
theorem behind_ref {p : T_api_Program} (hp : OkP p) {x : T_api_Ins} (hx : OkI x) {d : Int} (hd : 0 ≤ d ∧ d ≤ 16) : ref11_Behind p x d = some (cond (iLt (d - popsN x (argsR p x)) 0) (-1) (behR p x d)) := by
  have ha := argsR_rng hp hx
  have hv := popsN_rng hx ha
  have hu := pushN_rng hx.op
  have fin : ∀ a, argsR p x = a → (ref06_Pops x a).bind (fun (x3 : Int) => cond (iLt (IntKind.i64.wrap (d - x3)) 0) (some (-1)) ((ref06_Pushes x.Op).bind fun (x5 : Int) => some (IntKind.i64.wrap ((IntKind.i64.wrap (d - x3)) + x5)))) = some (cond (iLt (d - popsN x (argsR p x)) 0) (-1) (behR p x d)) := fun a e => by
    subst e
    rw [pops_ref hx, bind_some', push_ref hx.op, bind_some', w64 (a := d - popsN x (argsR p x)) (by omega), w64 (by omega), ← cond_some]
    rfl
  unfold ref11_Behind
  cases h : (iEq x.Op 20 && iLt x.A (p.Funcs.length : Int)) with
  | true =>
    have h' := h
    rw [Bool.and_eq_true, iEq_iff, iLt_iff] at h
    have h0 := okJump hx (.inr (.inr h.1))
    rw [cond_true, need_of (nIn_of ⟨h0, h.2⟩)]
    exact fin _ (by unfold argsR; rw [h', cond_true])
  | false =>
    rw [cond_false]
    exact fin _ (by unfold argsR; rw [h, cond_false])
def waysL (x : T_api_Ins) (i : Int) : List Int := cond (iNe x.Op 18 && iNe x.Op 21) [i + 1] [] ++ cond (iEq x.Op 18 || iEq x.Op 19) [x.A] []
theorem waysL_len (x : T_api_Ins) (i : Int) : (waysL x i).length ≤ 2 := by
  unfold waysL
  cases (iNe x.Op 18 && iNe x.Op 21) <;> cases (iEq x.Op 18 || iEq x.Op 19) <;> simp
theorem ways_ref (x : T_api_Ins) {i : Int} (h : 0 ≤ i ∧ i ≤ 1000) : ref11_ways x i = some (waysL x i) := by
  unfold ref11_ways waysL
  rw [w64 (by omega)]
  cases (iNe x.Op 18 && iNe x.Op 21) <;> cases (iEq x.Op 18 || iEq x.Op 19) <;> rfl
theorem ways_nn {x : T_api_Ins} (hx : OkI x) {i : Int} (h : 0 ≤ i) : ∀ t ∈ waysL x i, 0 ≤ t := fun t ht => by
  unfold waysL at ht
  rcases List.mem_append.1 ht with h1 | h1
  · cases hc : (iNe x.Op 18 && iNe x.Op 21) with
    | true => rw [hc, cond_true, List.mem_singleton] at h1; omega
    | false => rw [hc] at h1; cases h1
  · cases hc : (iEq x.Op 18 || iEq x.Op 19) with
    | true =>
      rw [hc, cond_true, List.mem_singleton] at h1
      rw [Bool.or_eq_true, iEq_iff, iEq_iff] at hc
      have := okJump hx (by omega)
      omega
    | false => rw [hc] at h1; cases h1
theorem set_getD {α : Type} [Inhabited α] (L : List α) (k : Nat) (v : α) (hk : k < L.length) (i : Nat) : (L.set k v).getD i default = if i = k then v else L.getD i default := by
  by_cases h : i = k
  · subst h
    rw [if_pos rfl, List.getD_eq_getElem?_getD, List.getElem?_set_self hk]; rfl
  · rw [if_neg h, List.getD_eq_getElem?_getD, List.getElem?_set_ne (fun e => h e.symm), List.getD_eq_getElem?_getD]
theorem one_l9 (code : List T_api_Ins) (hc : code.length ≤ 200) (d : Int) (hd : 0 ≤ d) (ws : List Int) (hw : ∀ t ∈ ws, 0 ≤ t) (hl : ws.length ≤ 2) : ∀ (n i f : Nat) (D : List Int), i + n = ws.length → n < f → D.length = code.length →
    ∃ e D', ref11_one_l9 code d ws f ((i : Int), D) = some (e, D') ∧ D'.length = code.length ∧ (∀ j, 0 ≤ D.getD j default → D'.getD j default = D.getD j default) ∧ (∀ j, D'.getD j default = D.getD j default ∨ D'.getD j default = d) ∧
      (e = 0 → ∀ k, i ≤ k → k < ws.length → ws.getD k default < code.length ∧ D'.getD (ws.getD k default).toNat default = d)
  | n, i, 0, D, hi, hf, hD => by omega
  | 0, i, f + 1, D, hi, hf, hD => by
    rw [ref11_one_l9]
    dsimp only
    rw [iLt_f (by omega), cond_false]
    exact ⟨0, D, rfl, hD, fun j _ => rfl, fun j => .inl rfl, fun _ k h1 h2 => by omega⟩
  | n + 1, i, f + 1, D, hi, hf, hD => by
    have ht : 0 ≤ ws.getD i default := hw _ (by
      rw [List.getD_eq_getElem?_getD, List.getElem?_eq_getElem (by omega)]
      exact List.getElem_mem _)
    have hN : nIn (i : Int) (ws.length : Int) = true := nIn_of ⟨by omega, by omega⟩
    rw [ref11_one_l9]
    dsimp only
    rw [iLt_t (by omega), cond_true, hN, need_of rfl, Int.toNat_natCast]
    by_cases h3 : (code.length : Int) ≤ ws.getD i default
    · rw [iLe_t h3, cond_true]
      exact ⟨3, D, rfl, hD, fun j _ => rfl, fun j => .inl rfl, fun h => by cases h⟩
    · have hT : nIn (ws.getD i default) (D.length : Int) = true := nIn_of ⟨ht, by omega⟩
      rw [iLe_f (by omega), cond_false, need_of rfl, hT, need_of rfl]
      have key : (0 ≤ D.getD (ws.getD i default).toNat default → D.getD (ws.getD i default).toNat default = d) → ∃ e D', ref11_one_l9 code d ws f (IntKind.i64.wrap ((i : Int) + 1), D.set (ws.getD i default).toNat d) = some (e, D') ∧ D'.length = code.length ∧ (∀ j, 0 ≤ D.getD j default → D'.getD j default = D.getD j default) ∧ (∀ j, D'.getD j default = D.getD j default ∨ D'.getD j default = d) ∧
          (e = 0 → ∀ k, i ≤ k → k < ws.length → ws.getD k default < code.length ∧ D'.getD (ws.getD k default).toNat default = d) := fun hq => by
        have hset := set_getD D (ws.getD i default).toNat d (by omega)
        obtain ⟨e, D', h1, h2, h4, h5, h6⟩ := one_l9 code hc d hd ws hw hl n (i + 1) f (D.set (ws.getD i default).toNat d) (by omega) (by omega) (by rw [List.length_set]; exact hD)
        rw [w64 (by omega), show (i : Int) + 1 = ((i + 1 : Nat) : Int) by omega]
        refine ⟨e, D', h1, h2, fun j hj => ?_, fun j => ?_, fun h0 k hk hk' => ?_⟩
        · have a := h4 j
          rw [hset] at a
          by_cases c : j = (ws.getD i default).toNat
          · rw [if_pos c] at a
            rw [a hd, c, hq (by rw [← c]; exact hj)]
          · rw [if_neg c] at a
            exact a hj
        · have a := h5 j
          rw [hset] at a
          by_cases c : j = (ws.getD i default).toNat
          · rw [if_pos c] at a
            exact .inr (a.elim id id)
          · rw [if_neg c] at a
            exact a
        · rcases Nat.eq_or_lt_of_le hk with rfl | hk
          · refine ⟨by omega, ?_⟩
            have a := h4 (ws.getD i default).toNat
            rw [hset, if_pos rfl] at a
            exact a hd
          · exact h6 h0 k hk hk'
      by_cases h4 : 0 ≤ D.getD (ws.getD i default).toNat default
      · rw [iLe_t h4, cond_true, need_of rfl, need_of rfl]
        by_cases h5 : D.getD (ws.getD i default).toNat default = d
        · rw [iNe_f h5, cond_false, need_of rfl, need_of rfl]
          exact key fun _ => h5
        · rw [iNe_t h5, cond_true]
          exact ⟨2, D, rfl, hD, fun j _ => rfl, fun j => .inl rfl, fun h => by cases h⟩
      · rw [iLe_f (by omega), cond_false, need_of rfl, need_of rfl]
        exact key fun h => absurd h h4
structure GoodR (p : T_api_Program) (code : List T_api_Ins) (D : List Int) (i : Nat) : Prop where
  takes : 0 ≤ D.getD i default - popsN (code.getD i default) (argsR p (code.getD i default))
  most : behR p (code.getD i default) (D.getD i default) ≤ 16
  ways : ∀ t ∈ waysL (code.getD i default) (i : Int), t < code.length ∧ D.getD t.toNat default = behR p (code.getD i default) (D.getD i default)
theorem mem_getD {l : List Int} {t : Int} (h : t ∈ l) : ∃ k, k < l.length ∧ l.getD k default = t := by
  obtain ⟨k, hk, e⟩ := List.getElem_of_mem h
  exact ⟨k, hk, by rw [List.getD_eq_getElem?_getD, List.getElem?_eq_getElem hk]; exact e⟩
theorem one_ref {p : T_api_Program} (hp : OkP p) {code : List T_api_Ins} (hc : code.length ≤ 200) (hI : ∀ j, j < code.length → OkI (code.getD j default)) {D : List Int} (hD : D.length = code.length) {i : Nat} (hi : i < code.length) (h0 : 0 ≤ D.getD i default ∧ D.getD i default ≤ 16) :
    ∃ e D', ref11_one p code D (i : Int) = some (e, D') ∧ D'.length = code.length ∧ (∀ j, 0 ≤ D.getD j default → D'.getD j default = D.getD j default) ∧ (∀ j, D'.getD j default = D.getD j default ∨ 0 ≤ D'.getD j default ∧ D'.getD j default ≤ 16) ∧ (e = 0 → GoodR p code D' i) := by
  have hx := hI i hi
  have ha := argsR_rng hp hx
  have hv := popsN_rng hx ha
  have hu := pushN_rng hx.op
  unfold ref11_one
  rw [need_of (nIn_of ⟨by omega, by omega⟩), need_of (nIn_of ⟨by omega, by omega⟩), Int.toNat_natCast, behind_ref hp hx h0, bind_some']
  by_cases h1 : D.getD i default - popsN (code.getD i default) (argsR p (code.getD i default)) < 0
  · rw [iLt_t h1, cond_true, iLt_t (by decide), cond_true]
    exact ⟨2, D, rfl, hD, fun j _ => rfl, fun j => .inl rfl, fun h => by cases h⟩
  · have hb : 0 ≤ behR p (code.getD i default) (D.getD i default) := by unfold behR; omega
    rw [iLt_f (a := D.getD i default - popsN (code.getD i default) (argsR p (code.getD i default))) (by omega), cond_false, iLt_f hb, cond_false]
    by_cases h2 : 16 < behR p (code.getD i default) (D.getD i default)
    · rw [iLt_t h2, cond_true]
      exact ⟨4, D, rfl, hD, fun j _ => rfl, fun j => .inl rfl, fun h => by cases h⟩
    · rw [iLt_f (by omega), cond_false, need_of (nIn_of ⟨by omega, by omega⟩), ways_ref _ (by omega), bind_some']
      obtain ⟨e, D', q1, q2, q3, q4, q5⟩ := one_l9 code hc _ hb (waysL (code.getD i default) (i : Int)) (ways_nn hx (by omega)) (waysL_len _ _) (waysL (code.getD i default) (i : Int)).length 0 fuel D (by omega) (by have := waysL_len (code.getD i default) (i : Int); have := fuel_big; omega) hD
      refine ⟨e, D', q1, q2, q3, fun j => (q4 j).imp id fun h => by omega, fun h => ⟨by rw [q3 i h0.1]; omega, by rw [q3 i h0.1]; omega, fun t ht => ?_⟩⟩
      obtain ⟨k, hk, e⟩ := mem_getD ht
      have := q5 h k (Nat.zero_le _) hk
      rw [e] at this
      rw [q3 i h0.1]
      exact this
theorem GoodR.ext {p : T_api_Program} {code : List T_api_Ins} {D D' : List Int} {i : Nat} (h : GoodR p code D i) (hI : OkI (code.getD i default)) (hp : OkP p) (h0 : 0 ≤ D.getD i default) (he : ∀ j, 0 ≤ D.getD j default → D'.getD j default = D.getD j default) : GoodR p code D' i := by
  have hb : 0 ≤ behR p (code.getD i default) (D.getD i default) := by
    have := pushN_rng hI.op
    have := h.takes
    unfold behR; omega
  refine ⟨by rw [he i h0]; exact h.takes, by rw [he i h0]; exact h.most, fun t ht => ?_⟩
  obtain ⟨h1, h2⟩ := h.ways t ht
  exact ⟨h1, by rw [he i h0, he t.toNat (by omega)]; exact h2⟩
structure InvR (p : T_api_Program) (code : List T_api_Ins) (s : Int × Int × List Int × List Bool) : Prop where
  dl : s.2.2.1.length = code.length
  nl : s.2.2.2.length = code.length
  d0 : s.2.2.1.getD 0 default = 0
  rng : ∀ j, s.2.2.1.getD j default ≤ 16
  dn : ∀ j, j < code.length → s.2.2.2.getD j default = true → 0 ≤ s.2.2.1.getD j default
  fb : s.2.1 = 0 → s.1 = code.length
  good : s.2.1 = 0 → ∀ j, j < code.length → s.2.2.2.getD j default = true → GoodR p code s.2.2.1 j
structure OkR (p : T_api_Program) (code : List T_api_Ins) (D : List Int) : Prop where
  len : D.length = code.length
  d0 : D.getD 0 default = 0
  rng : ∀ i, D.getD i default ≤ 16
  good : ∀ i, i < code.length → 0 ≤ D.getD i default → GoodR p code D i
theorem of_l15 {p : T_api_Program} {k : Int} {code : List T_api_Ins} (hc : (p.Funcs.getD k.toNat default).Code = code) (hlen : code.length ≤ 200) {s : Int × Int × List Int × List Bool} (hs : InvR p code s) {K : Int → Option (List Int × Int × Int)} {P : Option (List Int × Int × Int) → Prop} (hK : ∀ i : Nat, i ≤ code.length → (i < code.length → s.2.2.2.getD i default = false ∧ 0 ≤ s.2.2.1.getD i default) → (i = code.length → ∀ j, j < code.length → s.2.2.2.getD j default = true ∨ s.2.2.1.getD j default < 0) → P (K (i : Int))) : ∀ (n i f : Nat), i + n = code.length → n < f → (∀ j, j < i → s.2.2.2.getD j default = true ∨ s.2.2.1.getD j default < 0) → P (ref11_Of_l15 p k s K f (i : Int))
  | n, i, 0, hi, hf, hj => by omega
  | 0, i, f + 1, hi, hf, hj => by
    rw [ref11_Of_l15, hc, iLt_f (by omega), cond_false]
    exact hK i (by omega) (fun h => by omega) fun h j hj' => hj j (by omega)
  | n + 1, i, f + 1, hi, hf, hj => by
    have hd := hs.dl
    have hn := hs.nl
    have next : (s.2.2.2.getD i default = true ∨ s.2.2.1.getD i default < 0) → P (ref11_Of_l15 p k s K f (IntKind.i64.wrap ((i : Int) + 1))) := fun h => by
      rw [w64 (by omega), show (i : Int) + 1 = ((i + 1 : Nat) : Int) by omega]
      refine of_l15 hc hlen hs hK n (i + 1) f (by omega) (by omega) fun j hj' => ?_
      rcases Nat.lt_or_ge j i with h1 | h1
      · exact hj j h1
      · rw [show j = i by omega]; exact h
    rw [ref11_Of_l15, hc, iLt_t (by omega), cond_true, need_of (nIn_of ⟨by omega, by omega⟩), Int.toNat_natCast]
    cases hb : s.2.2.2.getD i default with
    | true => exact next (.inl hb)
    | false =>
      rw [cond_false, need_of (nIn_of ⟨by omega, by omega⟩)]
      by_cases h0 : s.2.2.1.getD i default < 0
      · rw [iLt_t h0, cond_true]; exact next (.inr h0)
      · rw [iLt_f (by omega), cond_false]
        exact hK i (by omega) (fun _ => ⟨hb, by omega⟩) fun h => by omega
def left (L : List Bool) (n : Nat) : Nat := (List.range n).countP fun i => !(L.getD i default)
theorem countP_lt' {p q : Nat → Bool} : ∀ (l : List Nat) (a : Nat), (∀ x ∈ l, q x = true → p x = true) → a ∈ l → p a = true → q a = false → l.countP q < l.countP p
  | [], a, h, ha, hp, hq => by cases ha
  | x :: l, a, h, ha, hp, hq => by
    have hx := h x (List.mem_cons_self ..)
    have hle : l.countP q ≤ l.countP p := List.countP_mono_left fun y hy => h y (List.mem_cons_of_mem _ hy)
    rw [List.countP_cons, List.countP_cons]
    rcases List.mem_cons.1 ha with rfl | ha
    · rw [if_pos hp, if_neg (by rw [hq]; decide)]; omega
    · have ih := countP_lt' l a (fun y hy => h y (List.mem_cons_of_mem _ hy)) ha hp hq
      cases hqx : q x with
      | true => rw [if_pos rfl, if_pos (hx hqx)]; omega
      | false => rw [if_neg (by decide)]; split <;> omega
def ResR (p : T_api_Program) (code : List T_api_Ins) (z : Option (List Int × Int × Int)) : Prop := ∃ l a e, z = some (l, a, e) ∧ (e = 0 → OkR p code l)
theorem of_l11 {p : T_api_Program} (hp : OkP p) {k : Int} {code : List T_api_Ins} (hc : (p.Funcs.getD k.toNat default).Code = code) (hlen : code.length ≤ 200) (hI : ∀ j, j < code.length → OkI (code.getD j default)) {K : Int × Int × List Int → Option (List Int × Int × Int)} (hK : ∀ a b D, K (a, b, D) = cond (iNe b 0) (some ([], a, b)) (some (D, 0, 0))) : ∀ (m f : Nat) (s : Int × Int × List Int × List Bool), left s.2.2.2 code.length ≤ m → m < f → InvR p code s → ResR p code (ref11_Of_l11 p k K f s)
  | m, 0, s, hm, hf, hs => by omega
  | m, f + 1, s, hm, hf, hs => by
    rw [ref11_Of_l11, withK_eq]
    refine of_l15 (P := ResR p code) hc hlen hs (fun i hi h1 h2 => ?_) code.length 0 fuel (by omega) (by have := fuel_big; omega) fun j hj => by omega
    rw [hc]
    have hd := hs.dl
    have hn := hs.nl
    by_cases hl : i = code.length
    · rw [iEq_t (by omega), cond_true, hK]
      by_cases hb : s.2.1 = 0
      · rw [iNe_f hb, cond_false]
        refine ⟨_, _, _, rfl, fun _ => ⟨hs.dl, hs.d0, hs.rng, fun j hj h0 => ?_⟩⟩
        rcases h2 hl j hj with h | h
        · exact hs.good hb j hj h
        · omega
      · rw [iNe_t hb, cond_true]
        exact ⟨_, _, _, rfl, fun h => absurd h hb⟩
    · obtain ⟨hb, h0⟩ := h1 (by omega)
      have hlt : i < code.length := by omega
      rw [iEq_f (by omega), cond_false]
      obtain ⟨e, D', q1, q2, q3, q4, q5⟩ := one_ref hp hlen hI hs.dl hlt ⟨h0, hs.rng i⟩
      rw [q1, bind_some', need_of (nIn_of ⟨by omega, by omega⟩), Int.toNat_natCast]
      have hset := set_getD s.2.2.2 i true (by omega)
      have hm' : left (s.2.2.2.set i true) code.length ≤ m - 1 ∧ 0 < m := by
        have : left (s.2.2.2.set i true) code.length < left s.2.2.2 code.length := by
          refine countP_lt' _ i (fun x _ hx => ?_) (List.mem_range.2 hlt) (by rw [hb]; rfl) (by rw [hset, if_pos rfl]; rfl)
          rw [hset] at hx
          by_cases c : x = i
          · rw [if_pos c] at hx; cases hx
          · rwa [if_neg c] at hx
        omega
      have inv : ∀ a b, (b = 0 → a = (code.length : Int) ∧ s.2.1 = 0 ∧ e = 0) → InvR p code (a, b, D', s.2.2.2.set i true) := fun a b hab => by
        refine ⟨q2, by rw [List.length_set]; exact hn, by dsimp only; rw [q3 0 (by rw [hs.d0]; decide), hs.d0], fun j => ?_, fun j hj hd' => ?_, fun h => (hab h).1, fun h j hj hd' => ?_⟩
        · have := hs.rng j
          dsimp only
          rcases q4 j with h | h <;> omega
        · dsimp only at hd' ⊢
          rw [hset] at hd'
          by_cases c : j = i
          · rw [c, q3 i h0]; exact h0
          · rw [if_neg c] at hd'
            have := hs.dn j hj hd'
            rw [q3 j this]; exact this
        · dsimp only at hd' ⊢
          rw [hset] at hd'
          by_cases c : j = i
          · rw [c]; exact q5 (hab h).2.2
          · rw [if_neg c] at hd'
            have h3 := hs.dn j hj hd'
            exact (hs.good (hab h).2.1 j hj hd').ext (hI j hj) hp h3 q3
      by_cases he : e = 0
      · rw [iNe_f he, Bool.false_and, cond_false]
        exact of_l11 hp hc hlen hI hK (m - 1) f _ hm'.1 (by omega) (inv _ _ fun h => ⟨hs.fb h, h, he⟩)
      · rw [iNe_t he, Bool.true_and]
        by_cases hfi : (i : Int) < s.1
        · rw [iLt_t hfi, cond_true]
          exact of_l11 hp hc hlen hI hK (m - 1) f _ hm'.1 (by omega) (inv _ _ fun h => absurd h he)
        · rw [iLt_f (by omega), cond_false]
          exact of_l11 hp hc hlen hI hK (m - 1) f _ hm'.1 (by omega) (inv _ _ fun h => by have := hs.fb h; omega)
theorem of_l5 {p : T_api_Program} {k : Int} {code : List T_api_Ins} (hc : (p.Funcs.getD k.toNat default).Code = code) (hlen : code.length ≤ 200) {P : Option (List Int × Int × Int) → Prop} (hK : ∀ D : List Int, D.length = code.length → D.getD 0 default = 0 → (∀ j, 1 ≤ j → j < code.length → D.getD j default = -1) → P (withK (fun s9 : Int × Int × (List Int) => cond (iNe s9.2.1 0) (some ([], s9.1, s9.2.1)) (some (s9.2.2, 0, 0))) fun K8 => ref11_Of_l11 p k K8 fuel ((((p.Funcs.getD k.toNat default).Code).length : Int), 0, D, List.replicate (((p.Funcs.getD k.toNat default).Code).length : Int).toNat (false : Bool)))) : ∀ (n i f : Nat) (D : List Int), i + n = code.length → n < f → 1 ≤ i → D.length = code.length → D.getD 0 default = 0 → (∀ j, 1 ≤ j → j < i → D.getD j default = -1) → P (ref11_Of_l5 p k f ((i : Int), D))
  | n, i, 0, D, hi, hf, h1, hD, h0, hj => by omega
  | 0, i, f + 1, D, hi, hf, h1, hD, h0, hj => by
    rw [ref11_Of_l5]
    dsimp only
    rw [iLt_f (by rw [hc]; omega), cond_false]
    exact hK D hD h0 fun j h1 h2 => hj j h1 (by omega)
  | n + 1, i, f + 1, D, hi, hf, h1, hD, h0, hj => by
    rw [ref11_Of_l5]
    dsimp only
    rw [iLt_t (by rw [hc]; omega), cond_true, need_of (nIn_of ⟨by omega, by omega⟩), w64 (by omega), show (i : Int) + 1 = ((i + 1 : Nat) : Int) by omega, Int.toNat_natCast]
    have hset := set_getD D i (-1) (by omega)
    refine of_l5 hc hlen hK n (i + 1) f _ (by omega) (by omega) (by omega) (by rw [List.length_set]; exact hD) (by rw [hset, if_neg (by omega)]; exact h0) fun j h2 h3 => ?_
    rw [hset]
    by_cases c : j = i
    · rw [if_pos c]
    · rw [if_neg c]; exact hj j h2 (by omega)
theorem rep_getD {α : Type} [Inhabited α] (n : Nat) (a : α) (i : Nat) (h : i < n) : (List.replicate n a).getD i default = a := by
  rw [List.getD_eq_getElem?_getD, List.getElem?_replicate, if_pos h]; rfl
theorem Of_ref {p : T_api_Program} (hp : OkP p) (k : Int) : ∃ l a e, ref11_Of p k = some (l, a, e) ∧ (e = 0 → 0 ≤ k ∧ k < p.Funcs.length ∧ OkR p (p.Funcs.getD k.toNat default).Code l) := by
  unfold ref11_Of
  by_cases hk : k < 0 ∨ (p.Funcs.length : Int) ≤ k
  · rw [show (iLt k 0 || iLe (p.Funcs.length : Int) k) = true by rw [Bool.or_eq_true, iLt_iff, iLe_iff]; exact hk, cond_true]
    exact ⟨_, _, _, rfl, fun h => by cases h⟩
  · have hF := hp.fns k.toNat (by omega)
    have hpos := hF.pos
    have hmost := hF.most
    rw [show (iLt k 0 || iLe (p.Funcs.length : Int) k) = false by rw [Bool.or_eq_false_iff, iLt_iff', iLe_iff']; omega, cond_false, need_of (nIn_of ⟨by omega, by omega⟩), iEq_f (by omega), cond_false]
    have hm8 : nMk ((p.Funcs.getD k.toNat default).Code.length : Int) 8 = true := nMk_of ⟨by omega, by omega, by omega⟩
    have hm1 : nMk ((p.Funcs.getD k.toNat default).Code.length : Int) 1 = true := nMk_of ⟨by omega, by omega, by omega⟩
    rw [need_of hm8, need_of hm1, Int.toNat_natCast]
    have main : ResR p (p.Funcs.getD k.toNat default).Code (ref11_Of_l5 p k fuel (((1 : Nat) : Int), List.replicate (p.Funcs.getD k.toNat default).Code.length (0 : Int))) := by
      refine of_l5 (P := ResR p _) rfl hmost (fun D hD h0 hj => ?_) ((p.Funcs.getD k.toNat default).Code.length - 1) 1 fuel _ (by omega) (by have := fuel_big; omega) (by omega) (by rw [List.length_replicate]) (by rw [rep_getD _ _ _ (by omega)]) fun j h1 h2 => by omega
      rw [withK_eq, Int.toNat_natCast]
      have hfree : ∀ j, j < (p.Funcs.getD k.toNat default).Code.length → (List.replicate (p.Funcs.getD k.toNat default).Code.length (false : Bool)).getD j default = false := fun j hj => rep_getD _ _ _ hj
      refine of_l11 hp rfl hmost hF.ins (fun a b D => rfl) (p.Funcs.getD k.toNat default).Code.length fuel _ ?_ (by have := fuel_big; omega) ⟨hD, by rw [List.length_replicate], h0, fun j => ?_, fun j hj h => ?_, fun _ => rfl, fun _ j hj h => ?_⟩
      · exact Nat.le_trans List.countP_le_length (by rw [List.length_range]; exact Nat.le_refl _)
      · dsimp only
        by_cases c : j = 0
        · rw [c, h0]; decide
        · by_cases c2 : j < (p.Funcs.getD k.toNat default).Code.length
          · rw [hj j (by omega) c2]; decide
          · rw [List.getD_eq_getElem?_getD, List.getElem?_eq_none (by omega)]; decide
      · dsimp only at h
        rw [hfree j hj] at h; cases h
      · dsimp only at h
        rw [hfree j hj] at h; cases h
    obtain ⟨l, a, e, h1, h2⟩ := main
    exact ⟨l, a, e, h1, fun h => ⟨by omega, by omega, h2 h⟩⟩
end LJ
end

/- A program that may run, as the document tells: all of the check. -/
section
namespace LJ
open Go Go.RowKit
set_option linter.unusedVariables false
set_option linter.unusedSimpArgs false

def Tot3 (P : Prop) (z : Option (Int × Int × Int)) : Prop := ∃ a b e, z = some (a, b, e) ∧ (e = 0 → P)
def CallOk (p : T_api_Program) (x : T_api_Ins) : Prop := x.Op = 20 → x.A < p.Funcs.length
structure FnR (p : T_api_Program) (k : Nat) : Prop where
  calls : ∀ j, j < (p.Funcs.getD k default).Code.length → CallOk p ((p.Funcs.getD k default).Code.getD j default)
  depth : ∃ D a, ref11_Of p (k : Int) = some (D, a, 0) ∧ OkR p (p.Funcs.getD k default).Code D
structure Runs (p : T_api_Program) : Prop where
  ok : OkP p
  fns : ∀ j, j < p.Funcs.length → FnR p j
end LJ
end

/- Where the document finds no wrong depth, the program finds none. -/
section
namespace LJ
open Go Go.RowKit
set_option linter.unusedVariables false
set_option linter.unusedSimpArgs false

def Agr (w : W) (D : List Int) : Prop := ∀ i, 0 ≤ dAt w i → dAt w i = D.getD i default
theorem leads_good {w : W} {D : List Int} (hw : Lens w) (a : Int) {to b : Int} (h0 : 0 ≤ to) (h1 : to < w.code.length) (hD : D.getD to.toNat default = b) (hb : 0 ≤ b) (ag : Agr w D) : ∃ w', depth_walk_leads w a to b = some (true, w') ∧ w'.err = w.err ∧ w'.p = w.p ∧ w'.code = w.code ∧ Lens w' ∧ Agr w' D ∧ (∀ i, 0 ≤ dAt w i → dAt w' i = dAt w i) := by
  unfold depth_walk_leads
  have hd : nIn to (w.depth.length : Int) = true := nIn_of ⟨h0, by rw [hw.d]; exact h1⟩
  have hn : nIn to (w.next.length : Int) = true := nIn_of ⟨h0, by rw [hw.n]; exact h1⟩
  have hd' : to.toNat < w.depth.length := by rw [hw.d]; omega
  rw [iLe_f (by omega), cond_false, need_of hd, need_of hd, need_of hn, need_of hd]
  by_cases hneg : w.depth.getD to.toNat default < 0
  · rw [iLt_t hneg, cond_true]
    have hS : ∀ i, dAt (⟨w.p, w.code, w.depth.set to.toNat b, w.next.set to.toNat true, w.at_, w.err⟩ : W) i = if i = to.toNat then b else dAt w i := fun i => set_at _ _ _ hd' i
    refine ⟨_, rfl, rfl, rfl, rfl, ⟨by rw [List.length_set]; exact hw.d, by rw [List.length_set]; exact hw.n⟩, fun i hi => ?_, fun i hi => ?_⟩
    · rw [hS] at hi ⊢
      by_cases c : i = to.toNat
      · rw [if_pos c, c]; exact hD.symm
      · rw [if_neg c] at hi ⊢
        exact ag i hi
    · rw [hS]
      by_cases c : i = to.toNat
      · subst c
        exact absurd hneg (Int.not_lt.2 hi)
      · rw [if_neg c]
  · have : w.depth.getD to.toNat default = b := (ag to.toNat (Int.not_lt.1 hneg)).trans hD
    rw [iLt_f (Int.not_lt.1 hneg), cond_false, iNe_f this, cond_false]
    exact ⟨_, rfl, rfl, rfl, rfl, hw, ag, fun i _ => rfl⟩
theorem look_tail_good {p : T_api_Program} {code : List T_api_Ins} {w : W} {D : List Int} (hp : w.p = p) (hc : w.code = code) (hw : Lens w) {i : Nat} (hi : i < code.length) (hlen : code.length ≤ 200) (hx : OkI (code.getD i default)) (hP : OkP p) (hd : dAt w i = D.getD i default) (h0 : 0 ≤ dAt w i ∧ dAt w i ≤ 16) (g : GoodR p code D i) (ag : Agr w D) (he : w.err = 0) {v u : Int} (hv : v = popsN (code.getD i default) (argsR p (code.getD i default))) (hu : op_Pushes (code.getD i default).Op = some u) (hu2 : u = pushN (code.getD i default).Op) :
    ∃ w', (cond (iLt (IntKind.i64.wrap ((w.depth.getD i default) - v)) 0) ((depth_walk_wrong w (i : Int) 2).bind fun (x5 : T_depth_walk) => some x5) ((op_Pushes ((code.getD i default).Op)).bind fun (x6 : Int) => cond (iLt 16 (IntKind.i64.wrap ((IntKind.i64.wrap ((w.depth.getD i default) - v)) + x6))) ((depth_walk_wrong w (i : Int) 4).bind fun (x8 : T_depth_walk) => some x8) ((op_Goes ((code.getD i default).Op)).bind fun (x9 : Bool) => cond x9 ((depth_walk_leads w (i : Int) (IntKind.i64.wrap ((i : Int) + 1)) (IntKind.i64.wrap ((IntKind.i64.wrap ((w.depth.getD i default) - v)) + x6))).bind fun (x11 : Bool × T_depth_walk) => cond (!x11.1) (some x11.2) (cond ((iEq ((code.getD i default).Op) 18) || (iEq ((code.getD i default).Op) 19)) ((depth_walk_leads x11.2 (i : Int) ((code.getD i default).A) (IntKind.i64.wrap ((IntKind.i64.wrap ((w.depth.getD i default) - v)) + x6))).bind fun (x14 : Bool × T_depth_walk) => some x14.2) (some x11.2))) (cond ((iEq ((code.getD i default).Op) 18) || (iEq ((code.getD i default).Op) 19)) ((depth_walk_leads w (i : Int) ((code.getD i default).A) (IntKind.i64.wrap ((IntKind.i64.wrap ((w.depth.getD i default) - v)) + x6))).bind fun (x16 : Bool × T_depth_walk) => some x16.2) (some w))))) = some w' ∧ w'.err = 0 ∧ Agr w' D := by
  have hvr := popsN_rng hx (argsR_rng hP hx)
  have hur := pushN_rng hx.op
  rw [← hv] at hvr
  rw [← hu2] at hur
  have hd0 : w.depth.getD i default = dAt w i := rfl
  have gt := g.takes
  have gm := g.most
  have gw := g.ways
  unfold behR at gm gw
  rw [← hv, ← hd] at gt gm
  rw [← hv, ← hu2, ← hd] at gw
  rw [← hu2] at gm
  rw [hd0, w64 (a := dAt w i - v) (by omega), iLt_f (by omega), cond_false, hu, bind_some', w64 (by omega), iLt_f (by omega), cond_false, goes_eq hx.op, bind_some', w64 (by omega)]
  unfold waysL at gw
  cases hg : (iNe (code.getD i default).Op 18 && iNe (code.getD i default).Op 21) with
  | true =>
    rw [hg, cond_true] at gw
    obtain ⟨q1, q2⟩ := gw ((i : Int) + 1) (List.mem_append_left _ (List.mem_singleton.2 rfl))
    obtain ⟨w1, e1, e2, e3, e4, e5, e6, e7⟩ := leads_good hw (i : Int) (by omega) (by rw [hc]; exact q1) q2 (by omega) ag
    rw [cond_true, e1, bind_some']
    dsimp only
    rw [Bool.not_true, cond_false]
    cases hj : (iEq (code.getD i default).Op 18 || iEq (code.getD i default).Op 19) with
    | false => exact ⟨_, rfl, by rw [e2, he], e6⟩
    | true =>
      rw [hj, cond_true] at gw
      obtain ⟨q3, q4⟩ := gw (code.getD i default).A (List.mem_append_right _ (List.mem_singleton.2 rfl))
      have hA := okJump hx (by rw [Bool.or_eq_true, iEq_iff, iEq_iff] at hj; omega)
      obtain ⟨w2, f1, f2, _, _, _, f6, _⟩ := leads_good e5 (i : Int) hA (by rw [e4, hc]; exact q3) q4 (by omega) e6
      rw [cond_true, f1, bind_some']
      exact ⟨_, rfl, by rw [f2, e2, he], f6⟩
  | false =>
    rw [cond_false]
    cases hj : (iEq (code.getD i default).Op 18 || iEq (code.getD i default).Op 19) with
    | false => exact ⟨_, rfl, he, ag⟩
    | true =>
      rw [hj, cond_true] at gw
      obtain ⟨q3, q4⟩ := gw (code.getD i default).A (List.mem_append_right _ (List.mem_singleton.2 rfl))
      have hA := okJump hx (by rw [Bool.or_eq_true, iEq_iff, iEq_iff] at hj; omega)
      obtain ⟨w2, f1, f2, _, _, _, f6, _⟩ := leads_good hw (i : Int) hA (by rw [hc]; exact q3) q4 (by omega) ag
      rw [cond_true, f1, bind_some']
      exact ⟨_, rfl, by rw [f2, he], f6⟩
theorem look_good {p : T_api_Program} {code : List T_api_Ins} {w : W} {D : List Int} (hp : w.p = p) (hc : w.code = code) (hw : Lens w) {i : Nat} (hi : i < code.length) (hlen : code.length ≤ 200) (hx : OkI (code.getD i default)) (hP : OkP p) (hd : dAt w i = D.getD i default) (h0 : 0 ≤ dAt w i ∧ dAt w i ≤ 16) (g : GoodR p code D i) (ag : Agr w D) (he : w.err = 0) : ∃ w', depth_walk_look w (i : Int) = some w' ∧ w'.err = 0 ∧ Agr w' D := by
  have hu : op_Pushes (code.getD i default).Op = some (pushN (code.getD i default).Op) := by rw [pushes_eq]; exact push_ref hx.op
  have hb := okB hx
  have hv : ∀ a, op_Pops (code.getD i default) a = some (popsN (code.getD i default) a) := fun a => by rw [pops_eq a (by omega)]; exact pops_ref hx a
  have key := look_tail_good hp hc hw hi hlen hx hP hd h0 g ag he rfl hu rfl
  unfold depth_walk_look
  have hdn : nIn (i : Int) (w.depth.length : Int) = true := nIn_of ⟨by omega, by rw [hw.d, hc]; omega⟩
  rw [hc, hp, need_of (nIn_of ⟨by omega, by omega⟩), Int.toNat_natCast]
  unfold argsR at key
  cases h : (iEq (code.getD i default).Op 20 && iLt (code.getD i default).A (p.Funcs.length : Int)) with
  | true =>
    rw [h, cond_true] at key
    rw [Bool.and_eq_true, iEq_iff, iLt_iff] at h
    have h0 := okJump hx (.inr (.inr h.1))
    rw [cond_true, need_of (nIn_of ⟨h0, h.2⟩), need_of hdn, hv, bind_some']
    exact key
  | false =>
    rw [h, cond_false] at key
    rw [cond_false, need_of hdn, hv, bind_some']
    exact key
theorem of_good {p : T_api_Program} {code : List T_api_Ins} {D : List Int} (hP : OkP p) (hlen : code.length ≤ 200) (hI : ∀ j, j < code.length → OkI (code.getD j default)) (hD : OkR p code D) : ∀ (m f : Nat) (w : W) (x : Int), cnt w code.length ≤ m → m < f → Inv p code w → Agr w D → w.err = 0 → depth_walk_least w = some x → ∃ l, depth_Of_l13 f (x, w.p.Decls, w.p.Waits, w.p.Funcs, w.code, w.at_, w.err, w.depth, w.next) = some (l, 0, 0)
  | m, 0, w, x, hm, hf, hv, ag, he, hx => by omega
  | m, f + 1, w, x, hm, hf, hv, ag, he, hx => by
    have hnl : w.next.length = code.length := by rw [hv.lens.n, hv.ec]
    obtain ⟨r, h1, h2⟩ := least_ok w (by omega)
    obtain rfl : r = x := Option.some.inj (h1.symm.trans hx)
    rw [depth_Of_l13]
    dsimp only
    rcases h2 with ⟨h3, h4⟩ | ⟨k, h3, h4, h5⟩
    · rw [iLe_f (by omega), cond_false, iNe_f he, cond_false]
      exact ⟨_, rfl⟩
    · subst h4
      have hk : k < code.length := by omega
      have h0 := hv.nx k hk h5
      have hr := hv.rng k hk
      have e := ag k h0
      obtain ⟨w', g1, g2, g3⟩ := round hP.fns hlen hI hv hk h5
      have hkn : k < w.next.length := by omega
      obtain ⟨w2, q1, q2, q3⟩ := look_good (w := ⟨w.p, w.code, w.depth, w.next.set k false, w.at_, w.err⟩) (D := D) hv.ep hv.ec ⟨hv.lens.d, by rw [List.length_set]; exact hv.lens.n⟩ hk hlen (hI k hk) hP e ⟨h0, hr⟩ (hD.good k hk (by rw [← e]; exact h0)) (fun i hi => ag i hi) he
      obtain rfl : w' = w2 := Option.some.inj (g1.symm.trans q1)
      obtain ⟨y, y1, _⟩ := least_ok w' (by rw [g2.lens.n, g2.ec]; omega)
      rw [iLe_t (by omega), cond_true, need_of (nIn_of ⟨by omega, by omega⟩), Int.toNat_natCast]
      rw [show (⟨(⟨w.p.Decls, w.p.Waits, w.p.Funcs⟩ : T_api_Program), w.code, w.depth, w.next.set k false, w.at_, w.err⟩ : T_depth_walk) = ⟨w.p, w.code, w.depth, w.next.set k false, w.at_, w.err⟩ from rfl, g1, bind_some', y1, bind_some']
      cases m with
      | zero => omega
      | succ m => exact of_good hP hlen hI hD m f w' y (by omega) (by omega) g2 q3 q2 y1
theorem depth_zero {p : T_api_Program} (hP : OkP p) {k : Nat} (hk : k < p.Funcs.length) {D : List Int} (hD : OkR p (p.Funcs.getD k default).Code D) : ∃ l, depth_Of p (k : Int) = some (l, 0, 0) := by
  unfold depth_Of
  have ok := hP.fns k hk
  have hm := hP.most
  generalize hc : (p.Funcs.getD k default).Code = code at hD
  have hlen : code.length ≤ 200 := by rw [← hc]; exact ok.most
  have hpos : 1 ≤ code.length := by rw [← hc]; exact ok.pos
  have hI : ∀ j, j < code.length → OkI (code.getD j default) := by rw [← hc]; exact ok.ins
  rw [iLt_f (by omega), iLe_f (by omega), Bool.or_self, cond_false, need_of (nIn_of ⟨by omega, by omega⟩), Int.toNat_natCast, hc, need_of (nMk_of ⟨by omega, by omega, by rw [Int.toNat_natCast]; omega⟩), Int.toNat_natCast]
  refine fill_l5 (P := fun z => ∃ l, z = some (l, 0, 0)) (k := (k : Int)) (by rw [Int.toNat_natCast]; exact hc) hlen (fun L hl hL => ?_) code.length 0 fuel _ (by omega) (by have := fuel_big; omega) (List.length_replicate ..) (fun j hj => by omega)
  rw [iEq_f (by omega), cond_false, need_of (nMk_of ⟨by omega, by omega, by rw [Int.toNat_natCast]; omega⟩), Int.toNat_natCast]
  have hN : ∀ i, (List.replicate code.length false).getD i default = false := fun i => by
    rw [List.getD_eq_getElem?_getD, List.getElem?_replicate]
    split <;> rfl
  obtain ⟨b, w, e1, e2, e3, e4⟩ := leads_ok (⟨p, code, L, List.replicate code.length false, 0, 0⟩ : W) ⟨hl, List.length_replicate ..⟩ 0 0 0 (by decide) (by decide)
  obtain ⟨w2, f1, f2, _, _, _, f6, _⟩ := leads_good (w := (⟨p, code, L, List.replicate code.length false, 0, 0⟩ : W)) (D := D) ⟨hl, List.length_replicate ..⟩ 0 (to := 0) (b := 0) (by decide) (by show (0 : Int) < code.length; omega) hD.d0 (by decide) (fun i hi => by
    by_cases c : i < code.length
    · have : dAt (⟨p, code, L, List.replicate code.length false, 0, 0⟩ : W) i = -1 := hL i c
      rw [this] at hi
      exact absurd hi (by decide)
    · show L.getD i default = D.getD i default
      rw [List.getD_eq_getElem?_getD, List.getElem?_eq_none (by omega), List.getD_eq_getElem?_getD, List.getElem?_eq_none (by have := hD.len; omega)])
  have hbw : (b, w) = (true, w2) := Option.some.inj (e1.symm.trans f1)
  obtain ⟨rfl, rfl⟩ := Prod.mk.inj hbw
  rw [e1, bind_some']
  dsimp only
  have e5 := (e4 rfl).2
  have hinv : Inv p code w := by
    refine ⟨e2.p, e2.code, e2.lens ⟨hl, List.length_replicate ..⟩, e5, fun i hi => ?_, fun i hi hn => ?_, fun i hi hd hn => ?_⟩
    · rcases e2.new i (by show L.getD i default < 0; rw [hL i hi]; decide) with ⟨a, _⟩ | ⟨_, a, _⟩
      · rw [a]; show L.getD i default ≤ 16; rw [hL i hi]; decide
      · exact a
    · rcases e2.new i (by show L.getD i default < 0; rw [hL i hi]; decide) with ⟨_, b⟩ | ⟨a, _⟩
      · rw [b] at hn
        have : nAt (⟨p, code, L, List.replicate code.length false, 0, 0⟩ : W) i = false := hN i
        rw [this] at hn; cases hn
      · exact a
    · rcases e2.new i (by show L.getD i default < 0; rw [hL i hi]; decide) with ⟨a, _⟩ | ⟨_, _, a⟩
      · rw [a] at hd
        have : dAt (⟨p, code, L, List.replicate code.length false, 0, 0⟩ : W) i = -1 := hL i hi
        rw [this] at hd
        exact absurd hd (by decide)
      · rw [a] at hn; cases hn
  obtain ⟨y, y1, _⟩ := least_ok w (by rw [hinv.lens.n, hinv.ec]; omega)
  rw [y1, bind_some']
  refine of_good hP hlen hI hD (cnt w code.length) fuel w y (Nat.le_refl _) ?_ hinv f6 (by rw [f2]) y1
  have : cnt w code.length ≤ (List.range code.length).length := List.countP_le_length
  rw [List.length_range] at this
  have := fuel_big
  omega
end LJ
end

/- A program that may run: operands, functions, by the program and by the document. -/
section
namespace LJ
open Go Go.RowKit
set_option linter.unusedVariables false
set_option linter.unusedSimpArgs false

def opV (p : T_api_Program) (F : T_api_Func) (x : T_api_Ins) (c n : Int) : Int :=
  cond (iEq c 110) 0 (cond (iEq c 106) 0 (cond (iEq c 107) (cond (iLt n F.Locals) 0 1) (cond (iEq c 116) (cond (iLt n (F.Code.length : Int)) 0 1) (cond (iEq c 102) (cond (iLt n (p.Funcs.length : Int) && (iNe x.Op 40 || iEq (p.Funcs.getD n.toNat default).Args 1)) 0 1) (cond (iEq c 119) (cond (iLt n (p.Waits.length : Int)) 0 1) (cond (fitD p.Decls c n) 0 6))))))
theorem iLe_lt (a b : Int) : iLe a b = !iLt b a := by
  cases h : iLt b a with
  | true => rw [iLt_iff] at h; exact iLe_f h
  | false => rw [iLt_iff'] at h; exact iLe_t (by omega)
theorem ver_operand (p : T_api_Program) (F : T_api_Func) (x : T_api_Ins) (c n : Int) (hn : c = 102 → 0 ≤ n) : verify_operand p F x c n = some (opV p F x c n) := by
  unfold verify_operand opV
  cases h1 : iEq c 110 with
  | true => rfl
  | false =>
  cases h2 : iEq c 106 with
  | true => rfl
  | false =>
  cases h3 : iEq c 107 with
  | true => cases iLt n F.Locals <;> rfl
  | false =>
  cases h4 : iEq c 116 with
  | true => cases iLt n (F.Code.length : Int) <;> rfl
  | false =>
  cases h5 : iEq c 102 with
  | true =>
    have h0 := hn (iEq_iff.1 h5)
    simp only [cond_true, cond_false]
    cases h : iLt n (p.Funcs.length : Int) with
    | false => rfl
    | true =>
      rw [nIn_of ⟨h0, iLt_iff.1 h⟩, Bool.or_true, need_of rfl, Bool.true_and]
      cases (iNe x.Op 40 || iEq (p.Funcs.getD n.toNat default).Args 1) <;> rfl
  | false =>
  cases h6 : iEq c 119 with
  | true => cases iLt n (p.Waits.length : Int) <;> rfl
  | false =>
    simp only [cond_false]
    rw [decl_Fits_eq, bind_some']
    cases fitD p.Decls c n <;> rfl
theorem ref_operand (p : T_api_Program) (F : T_api_Func) (x : T_api_Ins) (c n : Int) (hn : c = 102 → 0 ≤ n) : ref12_operand p F x c n = some (opV p F x c n) := by
  unfold ref12_operand ref12_object opV
  rw [ne_eq c 110, ne_eq c 107, ne_eq c 116, ne_eq c 102, ne_eq c 119, ne_eq c 106]
  by_cases h1 : c = 110
  · subst h1; rfl
  by_cases h2 : c = 106
  · subst h2; rfl
  by_cases h3 : c = 107
  · subst h3
    rw [iLe_lt]
    cases iLt n F.Locals <;> rfl
  by_cases h4 : c = 116
  · subst h4
    rw [iLe_lt (F.Code.length : Int)]
    cases iLt n (F.Code.length : Int) <;> rfl
  by_cases h6 : c = 119
  · subst h6
    rw [iLe_lt (p.Waits.length : Int)]
    cases iLt n (p.Waits.length : Int) <;> rfl
  by_cases h5 : c = 102
  · have h0 := hn h5
    subst h5
    rw [iLe_lt (p.Funcs.length : Int)]
    cases h : iLt n (p.Funcs.length : Int) with
    | false => rfl
    | true =>
      rw [nIn_of ⟨h0, iLt_iff.1 h⟩, Bool.or_true, need_of rfl, ne_eq x.Op 40, ne_eq _ 1]
      cases iEq x.Op 40 <;> cases iEq (p.Funcs.getD n.toNat default).Args 1 <;> rfl
  rw [iEq_f h1, iEq_f h2, iEq_f h3, iEq_f h4, iEq_f h5, iEq_f h6]
  simp only [Bool.false_and, Bool.or_self, cond_false, Bool.not_false, Bool.true_or, Bool.and_self, bind_some', cond_true]
  rw [need_of rfl, ref08_Fits_eq, bind_some', Bool.true_and]
  cases fitD p.Decls c n <;> rfl
def KO (p : T_api_Program) (F : T_api_Func) (x : T_api_Ins) : Prop := ∀ q : Nat, q < (formL x.Op).size → opV p F x (byteAt (formL x.Op) q) (([x.A, x.B] : List Int).getD q default) = 0
theorem letter_nn {x : T_api_Ins} (hx : OkI x) {i : Nat} (h : i < (formL x.Op).size) : byteAt (formL x.Op) i = 102 → 0 ≤ ([x.A, x.B] : List Int).getD i default := fun hb => by
  have hf2 := formL_size x.Op
  have : i = 0 ∨ i = 1 := by omega
  rcases this with rfl | rfl
  · exact (inL_rng (hx.a1 (by omega))).2.2 (by rw [hb]; decide)
  · exact (inL_rng (hx.b1 (by omega))).2.2 (by rw [hb]; decide)
theorem bytesI_at (s : ByteArray) (i : Nat) (h : i < s.size) : (bytesI s).getD i default = byteAt s i := by
  have h' : i < s.data.toList.length := by simpa using h
  unfold bytesI byteAt
  rw [List.getD_eq_getElem?_getD, List.getElem?_map, List.getElem?_eq_getElem h']
  have e : s.get! i = s.data[i]'(by simpa using h') := by
    show s.data[i]! = _
    exact getElem!_pos s.data i (by simpa using h')
  rw [e]
  simp
theorem vf_l10 {p : T_api_Program} {s t : Int} {F : T_api_Func} {x : T_api_Ins} (hF : p.Funcs.getD s.toNat default = F) (hx0 : F.Code.getD t.toNat default = x) (hx : OkI x) {K : Unit → Option (Int × Int)} {Pr : Option (Int × Int) → Prop} (hb : ¬ KO p F x → ∀ e : Int, e ≠ 0 → Pr (some (t, e))) (hK : KO p F x → Pr (K ())) : ∀ (n i f : Nat), i + n = (formL x.Op).size → n < f → (∀ q, q < i → opV p F x (byteAt (formL x.Op) q) (([x.A, x.B] : List Int).getD q default) = 0) → Pr (verify_function_l10 p s t K (formL x.Op) f (i : Int))
  | n, i, 0, hi, hf, hc => by omega
  | 0, i, f + 1, hi, hf, hc => by
    rw [verify_function_l10, bytesI_len, iLt_f (by omega), cond_false]
    exact hK fun q hq => hc q (by omega)
  | n + 1, i, f + 1, hi, hf, hc => by
    have hf2 := formL_size x.Op
    rw [verify_function_l10, hF, hx0, bytesI_len, iLt_t (by omega), cond_true, need_of (nIn_of ⟨by omega, by omega⟩), need_of (nIn_of ⟨by omega, by show (i : Int) < 2; omega⟩), Int.toNat_natCast, bytesI_at _ _ (by omega), ver_operand _ _ _ _ _ (letter_nn hx (by omega)), bind_some', w64 (by omega), show (i : Int) + 1 = ((i + 1 : Nat) : Int) by omega]
    by_cases h0 : opV p F x (byteAt (formL x.Op) i) (([x.A, x.B] : List Int).getD i default) = 0
    · rw [iNe_f h0, cond_false]
      refine vf_l10 hF hx0 hx hb hK n (i + 1) f (by omega) (by omega) fun q hq => ?_
      rcases Nat.lt_or_ge q i with h | h
      · exact hc q h
      · rw [show q = i by omega]; exact h0
    · rw [iNe_t h0, cond_true]
      exact hb (fun hko => h0 (hko i (by omega))) _ h0
theorem op_Form_ok (k : Int) : op_Form k = some (formL k) := op_Form_eq k
theorem vf_l3 {p : T_api_Program} (hp : OkP p) {k : Nat} (hk : k < p.Funcs.length) {Pr : Option (Int × Int) → Prop} (hb : ∀ j, j < (p.Funcs.getD k default).Code.length → ¬ KO p (p.Funcs.getD k default) ((p.Funcs.getD k default).Code.getD j default) → ∀ t e : Int, e ≠ 0 → Pr (some (t, e))) (hK : (∀ j, j < (p.Funcs.getD k default).Code.length → KO p (p.Funcs.getD k default) ((p.Funcs.getD k default).Code.getD j default)) → Pr ((depth_Of p (k : Int)).bind fun (x16 : List Int × Int × Int) => some (x16.2.1, x16.2.2))) : ∀ (n i f : Nat), i + n = (p.Funcs.getD k default).Code.length → n < f → (∀ j, j < i → KO p (p.Funcs.getD k default) ((p.Funcs.getD k default).Code.getD j default)) → Pr (verify_function_l3 p (k : Int) f (i : Int))
  | n, i, 0, hi, hf, hc => by omega
  | 0, i, f + 1, hi, hf, hc => by
    rw [verify_function_l3, Int.toNat_natCast, iLt_f (by omega), cond_false]
    exact hK fun j hj => hc j (by omega)
  | n + 1, i, f + 1, hi, hf, hc => by
    have hF := hp.fns k hk
    have hm := hF.most
    rw [verify_function_l3, Int.toNat_natCast, iLt_t (by omega), cond_true, withK_eq, need_of (nIn_of ⟨by omega, by omega⟩), Int.toNat_natCast, op_Form_ok, bind_some']
    refine vf_l10 (Pr := Pr) (F := p.Funcs.getD k default) (x := (p.Funcs.getD k default).Code.getD i default) rfl rfl (hF.ins i (by omega)) (fun h e he => hb i (by omega) h _ e he) (fun hko => ?_) (formL ((p.Funcs.getD k default).Code.getD i default).Op).size 0 fuel (by omega) (by have := formL_size ((p.Funcs.getD k default).Code.getD i default).Op; have := fuel_big; omega) (fun q hq => by omega)
    rw [w64 (by omega), show (i : Int) + 1 = ((i + 1 : Nat) : Int) by omega]
    refine vf_l3 hp hk hb hK n (i + 1) f (by omega) (by omega) fun j hj => ?_
    rcases Nat.lt_or_ge j i with h | h
    · exact hc j h
    · rw [show j = i by omega]; exact hko
def FnV (p : T_api_Program) (k : Nat) : Prop := ∀ j, j < (p.Funcs.getD k default).Code.length → KO p (p.Funcs.getD k default) ((p.Funcs.getD k default).Code.getD j default)
theorem ver_fn_tot {p : T_api_Program} (hp : OkP p) {k : Nat} (hk : k < p.Funcs.length) : ∃ a e, verify_function p (k : Int) = some (a, e) ∧ (e = 0 → FnV p k) := by
  unfold verify_function
  have hm := (hp.fns k hk).most
  rw [need_of (nIn_of ⟨by omega, by omega⟩)]
  refine vf_l3 (Pr := fun z => ∃ a e, z = some (a, e) ∧ (e = 0 → FnV p k)) hp hk (fun j hj h t e he => ⟨t, e, rfl, fun h0 => absurd h0 he⟩) (fun h => ?_) (p.Funcs.getD k default).Code.length 0 fuel (by omega) (by have := fuel_big; omega) (fun j hj => by omega)
  obtain ⟨l, a, e, h1, _⟩ := depth_Of_ok hp.most hp.fns (k : Int)
  rw [h1, bind_some']
  exact ⟨_, _, rfl, fun _ => h⟩
theorem ver_fn_zero {p : T_api_Program} (hp : OkP p) {k : Nat} (hk : k < p.Funcs.length) (hv : FnV p k) {D : List Int} (hD : OkR p (p.Funcs.getD k default).Code D) : ∃ a, verify_function p (k : Int) = some (a, 0) := by
  unfold verify_function
  have hm := (hp.fns k hk).most
  rw [need_of (nIn_of ⟨by omega, by omega⟩)]
  refine vf_l3 (Pr := fun z => ∃ a, z = some (a, 0)) hp hk (fun j hj h t e he => absurd (hv j hj) h) (fun h => ?_) (p.Funcs.getD k default).Code.length 0 fuel (by omega) (by have := fuel_big; omega) (fun j hj => by omega)
  obtain ⟨l, h1⟩ := depth_zero hp hk hD
  rw [h1, bind_some']
  exact ⟨_, rfl⟩
theorem ver_l6_tot {p : T_api_Program} (hp : OkP p) : ∀ (n i f : Nat), i + n = p.Funcs.length → n < f → (∀ j, j < i → FnV p j) → ∃ w e, verify_Program_l6 p f (i : Int) = some (w, e) ∧ (e = 0 → ∀ j, j < p.Funcs.length → FnV p j)
  | n, i, 0, hi, hf, hc => by omega
  | 0, i, f + 1, hi, hf, hc => by
    rw [verify_Program_l6, iLt_f (by omega), cond_false]
    exact ⟨_, _, rfl, fun _ j hj => hc j (by omega)⟩
  | n + 1, i, f + 1, hi, hf, hc => by
    have hm := hp.most
    obtain ⟨a, e, h1, h2⟩ := ver_fn_tot hp (k := i) (by omega)
    rw [verify_Program_l6, iLt_t (by omega), cond_true, h1, bind_some']
    by_cases h0 : e = 0
    · rw [iNe_f h0, cond_false, w64 (by omega), show (i : Int) + 1 = ((i + 1 : Nat) : Int) by omega]
      refine ver_l6_tot hp n (i + 1) f (by omega) (by omega) fun j hj => ?_
      rcases Nat.lt_or_ge j i with h | h
      · exact hc j h
      · rw [show j = i by omega]; exact h2 h0
    · rw [iNe_t h0, cond_true]
      exact ⟨_, _, rfl, fun h => absurd h h0⟩
theorem ver_l6_zero {p : T_api_Program} (hp : OkP p) (hv : ∀ j, j < p.Funcs.length → FnV p j ∧ ∃ D, OkR p (p.Funcs.getD j default).Code D) : ∀ (n i f : Nat), i + n = p.Funcs.length → n < f → verify_Program_l6 p f (i : Int) = some (⟨0, 0⟩, 0)
  | n, i, 0, hi, hf => by omega
  | 0, i, f + 1, hi, hf => by
    rw [verify_Program_l6, iLt_f (by omega), cond_false]
  | n + 1, i, f + 1, hi, hf => by
    have hm := hp.most
    obtain ⟨g1, D, g2⟩ := hv i (by omega)
    obtain ⟨a, h1⟩ := ver_fn_zero hp (k := i) (by omega) g1 g2
    rw [verify_Program_l6, iLt_t (by omega), cond_true, h1, bind_some', iNe_f rfl, cond_false, w64 (by omega), show (i : Int) + 1 = ((i + 1 : Nat) : Int) by omega]
    exact ver_l6_zero hp hv n (i + 1) f (by omega) (by omega)
theorem okP_of {p : T_api_Program} (h : chkP p = 0) : OkP p := by
  obtain ⟨e, h1, h2⟩ := prog_tot p
  rw [ref10_Check_eq] at h1
  exact h2 ((Option.some.inj h1).symm.trans h)
theorem ver_tot (p : T_api_Program) : ∃ w e, verify_Program p = some (w, e) ∧ (e = 0 → OkP p ∧ ∀ j, j < p.Funcs.length → FnV p j) := by
  unfold verify_Program
  rw [prog_Check_eq, bind_some']
  by_cases h0 : chkP p = 0
  · have hp := okP_of h0
    have hl := hp.pos
    have hm := hp.most
    rw [iNe_f h0, cond_false, need_of (nIn_of ⟨by decide, by omega⟩)]
    cases iLt 0 (p.Funcs.getD (0 : Int).toNat default).Args with
    | true => exact ⟨_, 1, rfl, fun h => by cases h⟩
    | false =>
      rw [cond_false]
      obtain ⟨w, e, h1, h2⟩ := ver_l6_tot hp p.Funcs.length 0 fuel (by omega) (by have := fuel_big; omega) (fun j hj => by omega)
      exact ⟨w, e, h1, fun h => ⟨hp, h2 h⟩⟩
  · rw [iNe_t h0, cond_true]
    exact ⟨_, _, rfl, fun h => absurd h h0⟩

structure FnG (p : T_api_Program) (k : Nat) : Prop where
  v : FnV p k
  d : ∃ D, OkR p (p.Funcs.getD k default).Code D
theorem refp_l18 {p : T_api_Program} {s t : Int} {F : T_api_Func} {x : T_api_Ins} (hF : p.Funcs.getD s.toNat default = F) (hx0 : F.Code.getD t.toNat default = x) (hx : OkI x) {K : Unit → Option (Int × Int × Int)} {P : Prop} (hK : KO p F x → Tot3 P (K ())) : ∀ (n i f : Nat), i + n = (formL x.Op).size → n < f → (∀ q, q < i → opV p F x (byteAt (formL x.Op) q) (([x.A, x.B] : List Int).getD q default) = 0) → Tot3 P (ref12_Program_l18 p s t (formL x.Op) K f (i : Int))
  | n, i, 0, hi, hf, hc => by omega
  | 0, i, f + 1, hi, hf, hc => by
    rw [ref12_Program_l18, iLt_f (by omega), cond_false]
    exact hK fun q hq => hc q (by omega)
  | n + 1, i, f + 1, hi, hf, hc => by
    have hf2 := formL_size x.Op
    have h2 : nIn (i : Int) (([x.A, x.B] : List Int).length : Int) = true := nIn_of ⟨by omega, by simp only [List.length_cons, List.length_nil]; omega⟩
    rw [ref12_Program_l18, hF, hx0, iLt_t (by omega), cond_true, need_of (nIn_of ⟨by omega, by omega⟩), need_of h2, Int.toNat_natCast, ref_operand _ _ _ _ _ (letter_nn hx (by omega)), bind_some', w64 (by omega), show (i : Int) + 1 = ((i + 1 : Nat) : Int) by omega]
    by_cases h0 : opV p F x (byteAt (formL x.Op) i) (([x.A, x.B] : List Int).getD i default) = 0
    · rw [iNe_f h0, cond_false]
      refine refp_l18 hF hx0 hx hK n (i + 1) f (by omega) (by omega) fun q hq => ?_
      rcases Nat.lt_or_ge q i with h | h
      · exact hc q h
      · rw [show q = i by omega]; exact h0
    · rw [iNe_t h0, cond_true]
      exact ⟨_, _, _, rfl, fun h => absurd h h0⟩
theorem refp_l12 {p : T_api_Program} (hp : OkP p) {k : Nat} (hk : k < p.Funcs.length) {K : Unit → Option (Int × Int × Int)} {P : Prop} (hK : FnG p k → Tot3 P (K ())) : ∀ (n i f : Nat), i + n = (p.Funcs.getD k default).Code.length → n < f → (∀ j, j < i → KO p (p.Funcs.getD k default) ((p.Funcs.getD k default).Code.getD j default)) → Tot3 P (ref12_Program_l12 p (k : Int) K f (i : Int))
  | n, i, 0, hi, hf, hc => by omega
  | 0, i, f + 1, hi, hf, hc => by
    rw [ref12_Program_l12, Int.toNat_natCast, iLt_f (by omega), cond_false]
    obtain ⟨l, a, e, h1, h2⟩ := Of_ref hp (k : Int)
    rw [h1, bind_some']
    by_cases h0 : e = 0
    · rw [iNe_f h0, cond_false]
      have := (h2 h0).2.2
      rw [Int.toNat_natCast] at this
      exact hK ⟨fun j hj => hc j (by omega), l, this⟩
    · rw [iNe_t h0, cond_true]
      exact ⟨_, _, _, rfl, fun h => absurd h h0⟩
  | n + 1, i, f + 1, hi, hf, hc => by
    have hF := hp.fns k hk
    have hm := hF.most
    rw [ref12_Program_l12, Int.toNat_natCast, iLt_t (by omega), cond_true, withK_eq, need_of (nIn_of ⟨by omega, by omega⟩), Int.toNat_natCast, ref06_Form_eq, bind_some']
    refine refp_l18 (F := p.Funcs.getD k default) (x := (p.Funcs.getD k default).Code.getD i default) rfl rfl (hF.ins i (by omega)) (fun hko => ?_) (formL ((p.Funcs.getD k default).Code.getD i default).Op).size 0 fuel (by omega) (by have := formL_size ((p.Funcs.getD k default).Code.getD i default).Op; have := fuel_big; omega) (fun q hq => by omega)
    rw [w64 (by omega), show (i : Int) + 1 = ((i + 1 : Nat) : Int) by omega]
    refine refp_l12 hp hk hK n (i + 1) f (by omega) (by omega) fun j hj => ?_
    rcases Nat.lt_or_ge j i with h | h
    · exact hc j h
    · rw [show j = i by omega]; exact hko
theorem refp_l6 {p : T_api_Program} (hp : OkP p) : ∀ (n i f : Nat), i + n = p.Funcs.length → n < f → (∀ j, j < i → FnG p j) → Tot3 (∀ j, j < p.Funcs.length → FnG p j) (ref12_Program_l6 p f (i : Int))
  | n, i, 0, hi, hf, hc => by omega
  | 0, i, f + 1, hi, hf, hc => by
    rw [ref12_Program_l6, iLt_f (by omega), cond_false]
    exact ⟨_, _, _, rfl, fun _ j hj => hc j (by omega)⟩
  | n + 1, i, f + 1, hi, hf, hc => by
    have hm := hp.most
    rw [ref12_Program_l6, iLt_t (by omega), cond_true, withK_eq, need_of (nIn_of ⟨by omega, by omega⟩)]
    refine refp_l12 hp (k := i) (by omega) (fun h => ?_) (p.Funcs.getD i default).Code.length 0 fuel (by omega) (by have := (hp.fns i (by omega)).most; have := fuel_big; omega) fun j hj => by omega
    rw [w64 (by omega), show (i : Int) + 1 = ((i + 1 : Nat) : Int) by omega]
    refine refp_l6 hp n (i + 1) f (by omega) (by omega) fun j hj => ?_
    rcases Nat.lt_or_ge j i with h1 | h1
    · exact hc j h1
    · rw [show j = i by omega]; exact h
theorem good_ver (p : T_api_Program) : ∃ b, ref12_Good p = some b ∧ (b = true → verify_Program p = some (⟨0, 0⟩, 0)) := by
  unfold ref12_Good ref12_Program verify_Program
  rw [ref10_Check_eq, prog_Check_eq, bind_some', bind_some']
  by_cases h0 : chkP p = 0
  · have hp := okP_of h0
    have hl := hp.pos
    have hm := hp.most
    rw [iNe_f h0, cond_false, cond_false, need_of (nIn_of ⟨by decide, by omega⟩), need_of (nIn_of ⟨by decide, by omega⟩)]
    by_cases ha : (p.Funcs.getD (0 : Int).toNat default).Args = 0
    · rw [iNe_f ha, cond_false, iLt_f (by omega), cond_false]
      obtain ⟨a, b, e, q1, q2⟩ := refp_l6 hp p.Funcs.length 0 fuel (by omega) (by have := fuel_big; omega) fun j hj => by omega
      rw [show (0 : Int) = ((0 : Nat) : Int) from rfl, q1, bind_some']
      refine ⟨_, rfl, fun h => ?_⟩
      have hg := q2 (iEq_iff.1 h)
      exact ver_l6_zero hp (fun j hj => ⟨(hg j hj).v, (hg j hj).d⟩) p.Funcs.length 0 fuel (by omega) (by have := fuel_big; omega)
    · rw [iNe_t ha, cond_true]
      exact ⟨_, rfl, fun h => by cases h⟩
  · rw [iNe_t h0, cond_true]
    exact ⟨_, rfl, fun h => absurd (iEq_iff.1 h) h0⟩
end LJ
end

/- The law VerifyKinds, plainly. -/
section
namespace LJ
open Go Go.RowKit
set_option linter.unusedVariables false
set_option linter.unusedSimpArgs false

theorem lives12 : law12_lives = some true := by decide +kernel
theorem fit_ok {L : List T_api_Decl} {c o kd : Int} (h : cond (fitD L c o) (0 : Int) 6 = 0) (hk : ∀ z, fitK c z = iEq z kd) : iLe (L.length : Int) o = false ∧ nIn o (L.length : Int) = true ∧ iNe (L.getD o.toNat default).Kind kd = false := by
  cases hf : fitD L c o with
  | false => rw [hf] at h; cases h
  | true =>
    unfold fitD at hf
    cases hr : (iLt o 0 || iLe (L.length : Int) o) with
    | true => rw [hr] at hf; cases hf
    | false =>
      rw [hr, cond_false, hk] at hf
      rw [Bool.or_eq_false_iff, iLt_iff', iLe_iff'] at hr
      exact ⟨iLe_f (by omega), nIn_of ⟨by omega, by omega⟩, iNe_f (iEq_iff.1 hf)⟩
theorem lt_ok {a b : Int} (h : cond (iLt a b) (0 : Int) 1 = 0) : iLe b a = false := by
  cases hf : iLt a b with
  | false => rw [hf] at h; cases h
  | true => exact iLe_f (iLt_iff.1 hf)
theorem and_f {a b : Bool} (h : a = true → b = false) : (a && b) = false := by
  cases a with
  | true => rw [h rfl]; rfl
  | false => rfl
theorem needT {α : Type} (z : Option α) : need true z = z := rfl
structure KF (p : T_api_Program) (F : T_api_Func) (x : T_api_Ins) : Prop where
  w : (iEq x.Op 26 && iLe (p.Waits.length : Int) x.A) = false
  f : (iEq x.Op 20 && iLe (p.Funcs.length : Int) x.A) = false
  t : (iEq x.Op 18 && iLe (F.Code.length : Int) x.A) = false
  k : (iEq x.Op 1 && iLe F.Locals x.A) = false
  k30 : x.Op = 30 → iLe (p.Decls.length : Int) x.A = false ∧ nIn x.A (p.Decls.length : Int) = true ∧ iNe (p.Decls.getD x.A.toNat default).Kind 3 = false
  k31 : x.Op = 31 → iLe (p.Decls.length : Int) x.A = false ∧ nIn x.A (p.Decls.length : Int) = true ∧ iNe (p.Decls.getD x.A.toNat default).Kind 6 = false
  k32 : x.Op = 32 → iLe (p.Decls.length : Int) x.A = false ∧ nIn x.A (p.Decls.length : Int) = true ∧ iNe (p.Decls.getD x.A.toNat default).Kind 4 = false
  k33 : x.Op = 33 → iLe (p.Decls.length : Int) x.A = false ∧ nIn x.A (p.Decls.length : Int) = true ∧ iNe (p.Decls.getD x.A.toNat default).Kind 4 = false
  k34 : x.Op = 34 → iLe (p.Decls.length : Int) x.A = false ∧ nIn x.A (p.Decls.length : Int) = true ∧ iNe (p.Decls.getD x.A.toNat default).Kind 4 = false
  k35 : x.Op = 35 → iLe (p.Decls.length : Int) x.A = false ∧ nIn x.A (p.Decls.length : Int) = true ∧ iNe (p.Decls.getD x.A.toNat default).Kind 4 = false
  k36 : x.Op = 36 → iLe (p.Decls.length : Int) x.A = false ∧ nIn x.A (p.Decls.length : Int) = true ∧ iNe (p.Decls.getD x.A.toNat default).Kind 5 = false
  k37 : x.Op = 37 → iLe (p.Decls.length : Int) x.A = false ∧ nIn x.A (p.Decls.length : Int) = true ∧ iNe (p.Decls.getD x.A.toNat default).Kind 5 = false
  k38 : x.Op = 38 → iLe (p.Decls.length : Int) x.A = false ∧ nIn x.A (p.Decls.length : Int) = true ∧ iNe (p.Decls.getD x.A.toNat default).Kind 5 = false
  k39 : x.Op = 39 → iLe (p.Decls.length : Int) x.A = false ∧ nIn x.A (p.Decls.length : Int) = true ∧ iNe (p.Decls.getD x.A.toNat default).Kind 5 = false
  k45 : x.Op = 45 → iLe (p.Decls.length : Int) x.A = false ∧ nIn x.A (p.Decls.length : Int) = true ∧ iNe (p.Decls.getD x.A.toNat default).Kind 7 = false
  k46 : x.Op = 46 → iLe (p.Decls.length : Int) x.A = false ∧ nIn x.A (p.Decls.length : Int) = true ∧ iNe (p.Decls.getD x.A.toNat default).Kind 7 = false
  k50 : x.Op = 50 → iLe (p.Decls.length : Int) x.A = false ∧ nIn x.A (p.Decls.length : Int) = true ∧ iNe (p.Decls.getD x.A.toNat default).Kind 1 = false
  k51 : x.Op = 51 → iLe (p.Decls.length : Int) x.A = false ∧ nIn x.A (p.Decls.length : Int) = true ∧ iNe (p.Decls.getD x.A.toNat default).Kind 1 = false
theorem KF.of {p : T_api_Program} {F : T_api_Func} {x : T_api_Ins} (h : KO p F x) : KF p F x := by
  have h0 : ∀ c : Int, 0 < (formL x.Op).size → byteAt (formL x.Op) 0 = c → opV p F x c x.A = 0 := fun c hs hc => by
    have := h 0 hs
    rw [hc] at this
    exact this
  refine ⟨and_f fun e => ?_, and_f fun e => ?_, and_f fun e => ?_, and_f fun e => ?_, fun e => ?_, fun e => ?_, fun e => ?_, fun e => ?_, fun e => ?_, fun e => ?_, fun e => ?_, fun e => ?_, fun e => ?_, fun e => ?_, fun e => ?_, fun e => ?_, fun e => ?_, fun e => ?_⟩
  · have key : 0 < (formL 26).size ∧ byteAt (formL 26) 0 = 119 := by decide +kernel
    rw [iEq_iff] at e
    exact lt_ok (h0 119 (by rw [e]; exact key.1) (by rw [e]; exact key.2))
  · have key : 0 < (formL 20).size ∧ byteAt (formL 20) 0 = 102 := by decide +kernel
    rw [iEq_iff] at e
    have := h0 102 (by rw [e]; exact key.1) (by rw [e]; exact key.2)
    have h2 : cond (iLt x.A (p.Funcs.length : Int) && (iNe x.Op 40 || iEq (p.Funcs.getD x.A.toNat default).Args 1)) (0 : Int) 1 = 0 := this
    cases hl : iLt x.A (p.Funcs.length : Int) with
    | false => rw [hl] at h2; cases h2
    | true => exact iLe_f (iLt_iff.1 hl)
  · have key : 0 < (formL 18).size ∧ byteAt (formL 18) 0 = 116 := by decide +kernel
    rw [iEq_iff] at e
    exact lt_ok (h0 116 (by rw [e]; exact key.1) (by rw [e]; exact key.2))
  · have key : 0 < (formL 1).size ∧ byteAt (formL 1) 0 = 107 := by decide +kernel
    rw [iEq_iff] at e
    exact lt_ok (h0 107 (by rw [e]; exact key.1) (by rw [e]; exact key.2))
  · have key : 0 < (formL 30).size ∧ byteAt (formL 30) 0 = 115 := by decide +kernel
    exact fit_ok (c := 115) (h0 115 (by rw [e]; exact key.1) (by rw [e]; exact key.2)) (fun _ => rfl)
  · have key : 0 < (formL 31).size ∧ byteAt (formL 31) 0 = 112 := by decide +kernel
    exact fit_ok (c := 112) (h0 112 (by rw [e]; exact key.1) (by rw [e]; exact key.2)) (fun _ => rfl)
  · have key : 0 < (formL 32).size ∧ byteAt (formL 32) 0 = 99 := by decide +kernel
    exact fit_ok (c := 99) (h0 99 (by rw [e]; exact key.1) (by rw [e]; exact key.2)) (fun _ => rfl)
  · have key : 0 < (formL 33).size ∧ byteAt (formL 33) 0 = 99 := by decide +kernel
    exact fit_ok (c := 99) (h0 99 (by rw [e]; exact key.1) (by rw [e]; exact key.2)) (fun _ => rfl)
  · have key : 0 < (formL 34).size ∧ byteAt (formL 34) 0 = 99 := by decide +kernel
    exact fit_ok (c := 99) (h0 99 (by rw [e]; exact key.1) (by rw [e]; exact key.2)) (fun _ => rfl)
  · have key : 0 < (formL 35).size ∧ byteAt (formL 35) 0 = 99 := by decide +kernel
    exact fit_ok (c := 99) (h0 99 (by rw [e]; exact key.1) (by rw [e]; exact key.2)) (fun _ => rfl)
  · have key : 0 < (formL 36).size ∧ byteAt (formL 36) 0 = 98 := by decide +kernel
    exact fit_ok (c := 98) (h0 98 (by rw [e]; exact key.1) (by rw [e]; exact key.2)) (fun _ => rfl)
  · have key : 0 < (formL 37).size ∧ byteAt (formL 37) 0 = 98 := by decide +kernel
    exact fit_ok (c := 98) (h0 98 (by rw [e]; exact key.1) (by rw [e]; exact key.2)) (fun _ => rfl)
  · have key : 0 < (formL 38).size ∧ byteAt (formL 38) 0 = 98 := by decide +kernel
    exact fit_ok (c := 98) (h0 98 (by rw [e]; exact key.1) (by rw [e]; exact key.2)) (fun _ => rfl)
  · have key : 0 < (formL 39).size ∧ byteAt (formL 39) 0 = 98 := by decide +kernel
    exact fit_ok (c := 98) (h0 98 (by rw [e]; exact key.1) (by rw [e]; exact key.2)) (fun _ => rfl)
  · have key : 0 < (formL 45).size ∧ byteAt (formL 45) 0 = 118 := by decide +kernel
    exact fit_ok (c := 118) (h0 118 (by rw [e]; exact key.1) (by rw [e]; exact key.2)) (fun _ => rfl)
  · have key : 0 < (formL 46).size ∧ byteAt (formL 46) 0 = 118 := by decide +kernel
    exact fit_ok (c := 118) (h0 118 (by rw [e]; exact key.1) (by rw [e]; exact key.2)) (fun _ => rfl)
  · have key : 0 < (formL 50).size ∧ byteAt (formL 50) 0 = 109 := by decide +kernel
    exact fit_ok (c := 109) (h0 109 (by rw [e]; exact key.1) (by rw [e]; exact key.2)) (fun _ => rfl)
  · have key : 0 < (formL 51).size ∧ byteAt (formL 51) 0 = 109 := by decide +kernel
    exact fit_ok (c := 109) (h0 109 (by rw [e]; exact key.1) (by rw [e]; exact key.2)) (fun _ => rfl)
theorem k_l13 {p : T_api_Program} (hp : OkP p) {k : Nat} (hk : k < p.Funcs.length) (hv : FnV p k) {K : Unit → Option Bool} (hK : K () = some true) : ∀ (n i f : Nat), i + n = (p.Funcs.getD k default).Code.length → n < f → law12_VerifyKinds_l13 p (k : Int) K f (i : Int) = some true
  | n, i, 0, hi, hf => by omega
  | 0, i, f + 1, hi, hf => by
    rw [law12_VerifyKinds_l13, need_of (nIn_of ⟨by omega, by omega⟩), Int.toNat_natCast, iLt_f (by omega), cond_false]
    exact hK
  | n + 1, i, f + 1, hi, hf => by
    have hm := (hp.fns k hk).most
    have ih := k_l13 hp hk hv hK n (i + 1) f (by omega) (by omega)
    have kf := KF.of (hv i (by omega))
    have hN : nIn (k : Int) (p.Funcs.length : Int) = true := nIn_of ⟨by omega, by omega⟩
    rw [law12_VerifyKinds_l13, need_of hN, Int.toNat_natCast, iLt_t (by omega), cond_true, withK_eq, need_of hN, need_of (nIn_of ⟨by omega, by omega⟩), Int.toNat_natCast, w64 (by omega), show (i : Int) + 1 = ((i + 1 : Nat) : Int) by omega]
    rw [ih]
    generalize (p.Funcs.getD k default).Code.getD i default = x at kf
    rw [kf.w, kf.f, kf.t, kf.k, hN]
    simp only [Bool.or_self, Bool.or_true, Bool.false_or, Bool.or_false, needT, cond_false]
    by_cases e30 : x.Op = 30
    · obtain ⟨q1, q2, q3⟩ := kf.k30 e30
      rw [iEq_t e30, cond_true, q1, q2, q3]; rfl
    rw [iEq_f e30, cond_false]
    by_cases e31 : x.Op = 31
    · obtain ⟨q1, q2, q3⟩ := kf.k31 e31
      rw [iEq_t e31, cond_true, q1, q2, q3]; rfl
    rw [iEq_f e31, cond_false]
    by_cases e32 : x.Op = 32
    · obtain ⟨q1, q2, q3⟩ := kf.k32 e32
      rw [iEq_t e32, cond_true, q1, q2, q3]; rfl
    rw [iEq_f e32, cond_false]
    by_cases e33 : x.Op = 33
    · obtain ⟨q1, q2, q3⟩ := kf.k33 e33
      rw [iEq_t e33, cond_true, q1, q2, q3]; rfl
    rw [iEq_f e33, cond_false]
    by_cases e34 : x.Op = 34
    · obtain ⟨q1, q2, q3⟩ := kf.k34 e34
      rw [iEq_t e34, cond_true, q1, q2, q3]; rfl
    rw [iEq_f e34, cond_false]
    by_cases e35 : x.Op = 35
    · obtain ⟨q1, q2, q3⟩ := kf.k35 e35
      rw [iEq_t e35, cond_true, q1, q2, q3]; rfl
    rw [iEq_f e35, cond_false]
    by_cases e36 : x.Op = 36
    · obtain ⟨q1, q2, q3⟩ := kf.k36 e36
      rw [iEq_t e36, cond_true, q1, q2, q3]; rfl
    rw [iEq_f e36, cond_false]
    by_cases e37 : x.Op = 37
    · obtain ⟨q1, q2, q3⟩ := kf.k37 e37
      rw [iEq_t e37, cond_true, q1, q2, q3]; rfl
    rw [iEq_f e37, cond_false]
    by_cases e38 : x.Op = 38
    · obtain ⟨q1, q2, q3⟩ := kf.k38 e38
      rw [iEq_t e38, cond_true, q1, q2, q3]; rfl
    rw [iEq_f e38, cond_false]
    by_cases e39 : x.Op = 39
    · obtain ⟨q1, q2, q3⟩ := kf.k39 e39
      rw [iEq_t e39, cond_true, q1, q2, q3]; rfl
    rw [iEq_f e39, cond_false]
    by_cases e45 : x.Op = 45
    · obtain ⟨q1, q2, q3⟩ := kf.k45 e45
      rw [iEq_t e45, cond_true, q1, q2, q3]; rfl
    rw [iEq_f e45, cond_false]
    by_cases e46 : x.Op = 46
    · obtain ⟨q1, q2, q3⟩ := kf.k46 e46
      rw [iEq_t e46, cond_true, q1, q2, q3]; rfl
    rw [iEq_f e46, cond_false]
    by_cases e50 : x.Op = 50
    · obtain ⟨q1, q2, q3⟩ := kf.k50 e50
      rw [iEq_t e50, cond_true, q1, q2, q3]; rfl
    rw [iEq_f e50, cond_false]
    by_cases e51 : x.Op = 51
    · obtain ⟨q1, q2, q3⟩ := kf.k51 e51
      rw [iEq_t e51, cond_true, q1, q2, q3]; rfl
    rw [iEq_f e51, cond_false]
theorem k_l8 {p : T_api_Program} (hp : OkP p) (hv : ∀ j, j < p.Funcs.length → FnV p j) : ∀ (n i f : Nat), i + n = p.Funcs.length → n < f → law12_VerifyKinds_l8 p f (i : Int) = some true
  | n, i, 0, hi, hf => by omega
  | 0, i, f + 1, hi, hf => by
    rw [law12_VerifyKinds_l8, iLt_f (by omega), cond_false, lives12]
    rfl
  | n + 1, i, f + 1, hi, hf => by
    have hm := hp.most
    rw [law12_VerifyKinds_l8, iLt_t (by omega), cond_true, withK_eq]
    refine k_l13 hp (k := i) (by omega) (hv i (by omega)) ?_ (p.Funcs.getD i default).Code.length 0 fuel (by omega) (by have := (hp.fns i (by omega)).most; have := fuel_big; omega)
    rw [w64 (by omega), show (i : Int) + 1 = ((i + 1 : Nat) : Int) by omega]
    exact k_l8 hp hv n (i + 1) f (by omega) (by omega)
theorem VerifyKinds_pure (p : T_api_Program) : law12_VerifyKinds p = some true := by
  unfold law12_VerifyKinds
  rw [own10, bind_some', own10, bind_some', ownP_own]
  generalize ownP p = q
  obtain ⟨w, e, h1, h2⟩ := ver_tot q
  obtain ⟨b, g1, g2⟩ := good_ver q
  rw [h1, bind_some']
  by_cases h0 : e = 0
  · obtain ⟨hp, hv⟩ := h2 h0
    have hm := hp.most
    rw [iNe_f h0, cond_false]
    exact k_l8 hp hv q.Funcs.length 0 fuel (by omega) (by have := fuel_big; omega)
  · rw [iNe_t h0, cond_true, g1, bind_some']
    cases b with
    | true =>
      have := g2 rfl
      rw [h1] at this
      injection this with this
      injection this with _ this
      exact absurd this h0
    | false => rw [lives12]; rfl
end LJ
end
