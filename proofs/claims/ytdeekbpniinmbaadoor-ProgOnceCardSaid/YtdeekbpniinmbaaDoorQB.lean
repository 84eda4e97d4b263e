/- Several texts of plain Lean, one behind the other. No condition. -/
import Derived.Test.YtdeekbpniinmbaaDoorQA
/- The objects, as above. -/
section
namespace LJ
end LJ
end

/- Plain laws of waits: what is wrong with a need, with a way, with a wait. -/
section
namespace LJ
open Go Go.RowKit
set_option linter.unusedVariables false
set_option linter.unusedSimpArgs false

def kindN (k : Int) : Int := cond (iEq k 1) 1 (cond (iEq k 2 || iEq k 3) 2 (cond (iEq k 4) 3 6))
def badN (L : List T_api_Decl) (x : T_api_Need) : Int :=
  cond (iLt x.Kind 1 || iLt 5 x.Kind) 6 (cond (iLt x.Obj 0 || iLe (L.length : Int) x.Obj) 1 (cond (iEq (L.getD x.Obj.toNat default).Kind (kindN x.Kind))
    (cond (iEq x.Kind 4) (cond (iLt x.N 1 || iLt (L.getD x.Obj.toNat default).B x.N) 1 0) (cond (iEq x.Kind 5) (cond (iLt x.N 1 || iLt (L.getD x.Obj.toNat default).A x.N) 1 0) (cond (iLt x.N 0 || iLt 0 x.N) 1 0))) 1))
theorem ne_not (a b : Int) : iNe a b = !iEq a b := by unfold iNe iEq; simp
theorem kinds_at {k : Int} (h : 1 ≤ k ∧ k ≤ 5) : ([0, 1, 2, 2, 3, 6] : List Int).getD k.toNat default = kindN k := by
  have h5 : k = 1 ∨ k = 2 ∨ k = 3 ∨ k = 4 ∨ k = 5 := by omega
  rcases h5 with rfl | rfl | rfl | rfl | rfl <;> decide
theorem ref09_one_eq (L : List T_api_Decl) (x : T_api_Need) : ref09_one L x = some (badN L x) := by
  unfold ref09_one badN
  cases h1 : (iLt x.Kind 1 || iLt 5 x.Kind) with
  | true => rfl
  | false =>
    simp only [Bool.or_eq_false_iff, iLt_iff'] at h1
    rw [cond_false, cond_false]
    cases h2 : (iLt x.Obj 0 || iLe (L.length : Int) x.Obj) with
    | true => rfl
    | false =>
      simp only [Bool.or_eq_false_iff, iLt_iff', iLe_iff'] at h2
      have hn : nIn x.Obj (L.length : Int) = true := nIn_of h2
      have hk : nIn x.Kind (([0, 1, 2, 2, 3, 6] : List Int).length : Int) = true := nIn_of ⟨by omega, by simp only [List.length_cons, List.length_nil]; omega⟩
      rw [hn, hk, Bool.or_true, need_of rfl, need_of rfl, Bool.false_or, cond_false, kinds_at (by omega), ne_not, cond_not]
      simp only [need_of, cond_some]
      by_cases k4 : x.Kind = 4
      · rw [iEq_t k4, iEq_f (show x.Kind ≠ 5 by omega)]
        simp only [cond_true, cond_false]
      · rw [iEq_f k4]
        simp only [cond_true, cond_false]
theorem need_one_eq (L : List T_api_Decl) (x : T_api_Need) : need_one L x = some (badN L x) := by
  unfold need_one badN need_counted
  simp only [decl_Fits_eq, bind_some']
  by_cases h : x.Kind < 1 ∨ 5 < x.Kind
  · rw [show (iLt x.Kind 1 || iLt 5 x.Kind) = true by simp only [Bool.or_eq_true, iLt_iff]; exact h, cond_true]
    rw [iEq_f (show x.Kind ≠ 1 by omega), iEq_f (show x.Kind ≠ 2 by omega), iEq_f (show x.Kind ≠ 3 by omega), iEq_f (show x.Kind ≠ 4 by omega), iEq_f (show x.Kind ≠ 5 by omega)]
    rfl
  · rw [show (iLt x.Kind 1 || iLt 5 x.Kind) = false by simp only [Bool.or_eq_false_iff, iLt_iff']; omega, cond_false]
    have h5 : x.Kind = 1 ∨ x.Kind = 2 ∨ x.Kind = 3 ∨ x.Kind = 4 ∨ x.Kind = 5 := by omega
    unfold fitD fitK kindN
    cases h2 : (iLt x.Obj 0 || iLe (L.length : Int) x.Obj) with
    | true =>
      rcases h5 with e | e | e | e | e <;> rw [e] <;> rfl
    | false =>
      simp only [Bool.or_eq_false_iff, iLt_iff', iLe_iff'] at h2
      have hn : nIn x.Obj (L.length : Int) = true := nIn_of h2
      have lt : iLt x.N 1 = true → iLt x.N 0 = true ∨ iLt x.N 0 = false := fun _ => by cases iLt x.N 0 <;> simp
      have l01 : (iLt x.N 1 || iLt x.N 0) = iLt x.N 1 := by
        rw [Bool.eq_iff_iff]; simp only [Bool.or_eq_true, iLt_iff]; omega
      rcases h5 with e | e | e | e | e <;> rw [e] <;> simp only [show iEq 1 1 = true from rfl, show iEq 1 2 = false from rfl, show iEq 1 3 = false from rfl, show iEq 1 4 = false from rfl, show iEq 1 5 = false from rfl, show iEq 2 1 = false from rfl, show iEq 2 2 = true from rfl, show iEq 2 3 = false from rfl, show iEq 2 4 = false from rfl, show iEq 2 5 = false from rfl, show iEq 3 1 = false from rfl, show iEq 3 2 = false from rfl, show iEq 3 3 = true from rfl, show iEq 3 4 = false from rfl, show iEq 3 5 = false from rfl, show iEq 4 1 = false from rfl, show iEq 4 2 = false from rfl, show iEq 4 3 = false from rfl, show iEq 4 4 = true from rfl, show iEq 4 5 = false from rfl, show iEq 5 1 = false from rfl, show iEq 5 2 = false from rfl, show iEq 5 3 = false from rfl, show iEq 5 4 = false from rfl, show iEq 5 5 = true from rfl, show iEq 109 117 = false from rfl, show iEq 109 115 = false from rfl, show iEq 109 112 = false from rfl, show iEq 109 99 = false from rfl, show iEq 109 109 = true from rfl, show iEq 117 117 = true from rfl, show iEq 115 117 = false from rfl, show iEq 115 115 = true from rfl, show iEq 112 117 = false from rfl, show iEq 112 115 = false from rfl, show iEq 112 112 = true from rfl, hn, Bool.or_true, need_of, cond_true, cond_false, Bool.false_or, Bool.or_false, Bool.true_or, Bool.false_and, Bool.true_and, Bool.not_not, Bool.and_true, Bool.and_false, ne_not, cond_some, l01]
      all_goals
        generalize hK : (L.getD x.Obj.toNat default).Kind = K
        first
          | (cases iEq K 1 <;> rfl)
          | (cases iEq K 3 <;> rfl)
          | (cases iEq K 6 <;> rfl)
          | (by_cases hK1 : K = 1
             · subst hK1; rfl
             · rw [iEq_f hK1]; cases iEq K 2 <;> rfl)
def firstN (L : List T_api_Decl) : List T_api_Need → Int
  | [] => 0
  | x :: t => cond (iNe (badN L x) 0) (badN L x) (firstN L t)
def pairN (l : List T_api_Need) (j k : Nat) : Bool := (iEq (l.getD j default).Obj (l.getD k default).Obj || iEq (l.getD j default).Kind 4) || iEq (l.getD k default).Kind 4
def hit (l : List T_api_Need) (k : Nat) : Nat → Nat → Bool
  | 0, _ => false
  | n + 1, i => pairN l i k || hit l k n (i + 1)
def hits (l : List T_api_Need) : Nat → Nat → Bool
  | 0, _ => false
  | n + 1, k => hit l k k 0 || hits l n (k + 1)
def badW (L : List T_api_Decl) (l : List T_api_Need) : Int :=
  cond (iEq (l.length : Int) 0) 2 (cond (iLt 4 (l.length : Int)) 4 (cond (iNe (firstN L l) 0) (firstN L l) (cond (hits l l.length 0) 2 0)))
def firstW (L : List T_api_Decl) : List (List T_api_Need) → Int
  | [] => 0
  | l :: t => cond (iNe (badW L l) 0) (badW L l) (firstW L t)
def chkW (L : List T_api_Decl) (W : List (List T_api_Need)) : Int := cond (iEq (W.length : Int) 0) 2 (cond (iLt 4 (W.length : Int)) 4 (firstW L W))
theorem withK_eq {α β γ : Type} (K : α → β) (f : (α → β) → γ) : withK K f = f K := rfl
theorem cond_or {α : Type} (a b : Bool) (x y : α) : cond (a || b) x y = cond a x (cond b x y) := by cases a <;> rfl
theorem w_l23 {W : List (List T_api_Need)} {s : Int} {j : Nat} {K : Unit → Option Int} (hj : j < (W.getD s.toNat default).length) (h4 : (W.getD s.toNat default).length ≤ 4) : ∀ (n i f : Nat), i + n = j → n < f → ref09_Check_l23 W s (j : Int) K f (i : Int) = cond (hit (W.getD s.toNat default) j n i) (some 2) (K ())
  | n, i, 0, hi, hf => by omega
  | 0, i, f + 1, hi, hf => by
    rw [ref09_Check_l23, iLt_f (by omega), cond_false]; rfl
  | n + 1, i, f + 1, hi, hf => by
    have e1 : nIn (i : Int) ((W.getD s.toNat default).length : Int) = true := nIn_of ⟨by omega, by omega⟩
    have e2 : nIn (j : Int) ((W.getD s.toNat default).length : Int) = true := nIn_of ⟨by omega, by omega⟩
    rw [ref09_Check_l23, iLt_t (by omega), cond_true, e1, e2, Bool.or_true, Bool.or_true, w64 (by omega), show (i : Int) + 1 = ((i + 1 : Nat) : Int) by omega, need_of rfl, need_of rfl, need_of rfl, need_of rfl, w_l23 hj h4 n (i + 1) f (by omega) (by omega), Int.toNat_natCast, Int.toNat_natCast, hit]
    exact (cond_or (pairN _ i j) _ _ _).symm
theorem w_l18 {W : List (List T_api_Need)} {s : Int} {K : Unit → Option Int} (h4 : (W.getD s.toNat default).length ≤ 4) : ∀ (n i f : Nat), i + n = (W.getD s.toNat default).length → n < f → ref09_Check_l18 W s K f (i : Int) = cond (hits (W.getD s.toNat default) n i) (some 2) (K ())
  | n, i, 0, hi, hf => by omega
  | 0, i, f + 1, hi, hf => by
    rw [ref09_Check_l18, iLt_f (by omega), cond_false]; rfl
  | n + 1, i, f + 1, hi, hf => by
    rw [ref09_Check_l18, iLt_t (by omega), cond_true, withK_eq, w64 (by omega), show (i : Int) + 1 = ((i + 1 : Nat) : Int) by omega]
    have ih := w_l18 (K := K) h4 n (i + 1) f (by omega) (by omega)
    have := w_l23 (W := W) (s := s) (j := i) (K := fun _ => ref09_Check_l18 W s K f ((i + 1 : Nat) : Int)) (by omega) h4 i 0 fuel (by omega) (by have := fuel_big; omega)
    rw [hits, cond_or, ← ih]
    exact this
theorem w_l12 {L : List T_api_Decl} {W : List (List T_api_Need)} {s : Int} {K : Unit → Option Int} (h4 : (W.getD s.toNat default).length ≤ 4) : ∀ (n i f : Nat), i + n = (W.getD s.toNat default).length → n < f → ref09_Check_l12 L W s K f (i : Int) = cond (iNe (firstN L ((W.getD s.toNat default).drop i)) 0) (some (firstN L ((W.getD s.toNat default).drop i))) (cond (hits (W.getD s.toNat default) (W.getD s.toNat default).length 0) (some 2) (K ()))
  | n, i, 0, hi, hf => by omega
  | 0, i, f + 1, hi, hf => by
    rw [ref09_Check_l12, iLt_f (by omega), cond_false, List.drop_eq_nil_of_le (by omega), firstN, iNe_f rfl, cond_false]
    exact w_l18 h4 (W.getD s.toNat default).length 0 fuel (by omega) (by have := fuel_big; omega)
  | n + 1, i, f + 1, hi, hf => by
    rw [ref09_Check_l12, iLt_t (by omega), cond_true, need_of (nIn_of ⟨by omega, by omega⟩), w64 (by omega), show (i : Int) + 1 = ((i + 1 : Nat) : Int) by omega, ref09_one_eq, bind_some', w_l12 h4 n (i + 1) f (by omega) (by omega), getD_drop _ i (by omega), firstN, Int.toNat_natCast]
    by_cases hb : badN L ((W.getD s.toNat default).getD i default) = 0
    · rw [iNe_f hb, cond_false, cond_false]
    · rw [iNe_t hb, cond_true, cond_true, iNe_t hb, cond_true]
theorem w_l4 {L : List T_api_Decl} {W : List (List T_api_Need)} (hW : W.length ≤ 4) : ∀ (n i f : Nat), i + n = W.length → n < f → ref09_Check_l4 L W f (i : Int) = some (firstW L (W.drop i))
  | n, i, 0, hi, hf => by omega
  | 0, i, f + 1, hi, hf => by
    rw [ref09_Check_l4, iLt_f (by omega), cond_false, List.drop_eq_nil_of_le (by omega)]
    rfl
  | n + 1, i, f + 1, hi, hf => by
    rw [ref09_Check_l4, iLt_t (by omega), cond_true, withK_eq, w64 (by omega), show (i : Int) + 1 = ((i + 1 : Nat) : Int) by omega, need_of (nIn_of ⟨by omega, by omega⟩), getD_drop W i (by omega), firstW, badW]
    have ih := w_l4 (L := L) hW n (i + 1) f (by omega) (by omega)
    rw [Int.toNat_natCast]
    by_cases h0 : ((W.getD i default).length : Int) = 0
    · rw [iEq_t h0, cond_true, cond_true, iNe_t (by decide), cond_true]
    · rw [iEq_f h0, cond_false, cond_false]
      by_cases h4 : 4 < ((W.getD i default).length : Int)
      · rw [iLt_t h4, cond_true, cond_true, iNe_t (by decide), cond_true]
      · rw [iLt_f (by omega), cond_false, cond_false]
        have := w_l12 (L := L) (W := W) (s := (i : Int)) (K := fun _ => ref09_Check_l4 L W f ((i + 1 : Nat) : Int)) (by rw [Int.toNat_natCast]; omega) ((W.getD (i : Int).toNat default).length) 0 fuel (by omega) (by have := fuel_big; rw [Int.toNat_natCast]; omega)
        rw [Int.toNat_natCast, List.drop_zero] at this
        refine Eq.trans this ?_
        rw [ih]
        by_cases hb : firstN L (W.getD i default) = 0
        · rw [iNe_f hb, cond_false, cond_false]
          cases hits (W.getD i default) (W.getD i default).length 0 with
          | true => rfl
          | false => rfl
        · rw [iNe_t hb, cond_true, cond_true, iNe_t hb, cond_true]
theorem ref09_Check_eq (L : List T_api_Decl) (W : List (List T_api_Need)) : ref09_Check L W = some (chkW L W) := by
  unfold ref09_Check chkW
  by_cases h0 : (W.length : Int) = 0
  · rw [iEq_t h0]; rfl
  · rw [iEq_f h0, cond_false, cond_false]
    by_cases h4 : 4 < (W.length : Int)
    · rw [iLt_t h4]; rfl
    · rw [iLt_f (by omega), cond_false, cond_false]
      exact w_l4 (by omega) W.length 0 fuel (by omega) (by have := fuel_big; omega)

theorem badN_ok {L : List T_api_Decl} {x : T_api_Need} (h : badN L x = 0) : (1 ≤ x.Kind ∧ x.Kind ≤ 5) ∧ (0 ≤ x.Obj ∧ x.Obj < L.length) ∧ (L.getD x.Obj.toNat default).Kind = kindN x.Kind ∧ 0 ≤ x.N ∧ (x.Kind = 4 → x.N ≤ (L.getD x.Obj.toNat default).B) ∧ (x.Kind = 5 → x.N ≤ (L.getD x.Obj.toNat default).A) ∧ (x.Kind ≤ 3 → x.N = 0) := by
  unfold badN at h
  cases h1 : (iLt x.Kind 1 || iLt 5 x.Kind) with
  | true => rw [h1, cond_true] at h; cases h
  | false =>
    rw [h1, cond_false] at h
    simp only [Bool.or_eq_false_iff, iLt_iff'] at h1
    cases h2 : (iLt x.Obj 0 || iLe (L.length : Int) x.Obj) with
    | true => rw [h2, cond_true] at h; cases h
    | false =>
      rw [h2, cond_false] at h
      simp only [Bool.or_eq_false_iff, iLt_iff', iLe_iff'] at h2
      cases h3 : iEq (L.getD x.Obj.toNat default).Kind (kindN x.Kind) with
      | false => rw [h3, cond_false] at h; cases h
      | true =>
        rw [h3, cond_true] at h
        rw [iEq_iff] at h3
        refine ⟨by omega, by omega, h3, ?_⟩
        by_cases k4 : x.Kind = 4
        · rw [iEq_t k4, cond_true] at h
          cases h4 : (iLt x.N 1 || iLt (L.getD x.Obj.toNat default).B x.N) with
          | true => rw [h4] at h; cases h
          | false => simp only [Bool.or_eq_false_iff, iLt_iff'] at h4; omega
        · rw [iEq_f k4, cond_false] at h
          by_cases k5 : x.Kind = 5
          · rw [iEq_t k5, cond_true] at h
            cases h4 : (iLt x.N 1 || iLt (L.getD x.Obj.toNat default).A x.N) with
            | true => rw [h4] at h; cases h
            | false => simp only [Bool.or_eq_false_iff, iLt_iff'] at h4; omega
          · rw [iEq_f k5, cond_false] at h
            cases h4 : (iLt x.N 0 || iLt 0 x.N) with
            | true => rw [h4] at h; cases h
            | false => simp only [Bool.or_eq_false_iff, iLt_iff'] at h4; omega
theorem firstN_ok {L : List T_api_Decl} : ∀ {l : List T_api_Need}, firstN L l = 0 → ∀ x ∈ l, badN L x = 0
  | [], h => fun x hx => by cases hx
  | y :: t, h => by
    unfold firstN at h
    by_cases hy : badN L y = 0
    · rw [iNe_f hy, cond_false] at h
      intro x hx
      rcases List.mem_cons.1 hx with rfl | hx
      · exact hy
      · exact firstN_ok h x hx
    · rw [iNe_t hy, cond_true] at h; exact absurd h hy
def withs (s : Nat) : List T_api_Need → Nat
  | [] => s
  | x :: t => withs (s ||| 2 ^ x.Obj.toNat) t
theorem pc_put : ∀ (i k x : Nat), i < k → x.testBit i = false → pc k (x + 2 ^ i) = pc k x + 1
  | 0, k + 1, x, hi, h => by
    rw [Nat.testBit_zero] at h
    simp only [decide_eq_false_iff_not] at h
    rw [pc, pc, Nat.pow_zero, show (x + 1) / 2 = x / 2 by omega]
    omega
  | i + 1, k + 1, x, hi, h => by
    rw [Nat.testBit_succ] at h
    have e1 : (x + 2 ^ (i + 1)) % 2 = x % 2 := by rw [Nat.pow_succ]; omega
    have e2 : (x + 2 ^ (i + 1)) / 2 = x / 2 + 2 ^ i := by rw [Nat.pow_succ]; omega
    rw [pc, pc, e1, e2, pc_put i k (x / 2) (by omega) h]
    omega
theorem or_lt {s i : Nat} (hs : s < 2 ^ 64) (hi : i < 64) : s ||| 2 ^ i < 2 ^ 64 := Nat.or_lt_two_pow hs (Nat.pow_lt_pow_right (by decide) hi)
theorem withs_pc : ∀ (l : List T_api_Need) (s : Nat), (∀ x ∈ l, x.Obj.toNat < 64) → pc 64 (withs s l) ≤ pc 64 s + l.length ∧ (pc 64 (withs s l) = pc 64 s + l.length ↔ (∀ x ∈ l, s.testBit x.Obj.toNat = false) ∧ l.Pairwise fun x y => x.Obj.toNat ≠ y.Obj.toNat)
  | [], s, h => by simp [withs]
  | x :: t, s, h => by
    obtain ⟨h1, h2⟩ := withs_pc t (s ||| 2 ^ x.Obj.toNat) fun y hy => h y (List.mem_cons_of_mem _ hy)
    have hx := h x (List.mem_cons_self ..)
    rw [withs, List.length_cons]
    have ho := or_pow x.Obj.toNat s
    cases hb : s.testBit x.Obj.toNat with
    | true =>
      rw [hb, if_pos rfl] at ho
      rw [ho] at h1 ⊢
      refine ⟨by omega, ⟨fun h => by omega, fun h => ?_⟩⟩
      have := h.1 x (List.mem_cons_self ..)
      rw [hb] at this; cases this
    | false =>
      rw [hb, if_neg Bool.false_ne_true] at ho
      have hp := pc_put x.Obj.toNat 64 s hx hb
      rw [← ho] at hp
      rw [hp] at h1 h2
      refine ⟨by omega, ?_⟩
      rw [show pc 64 s + (t.length + 1) = pc 64 s + 1 + t.length by omega, h2, List.pairwise_cons]
      constructor
      · rintro ⟨a, b⟩
        refine ⟨fun y hy => ?_, fun y hy he => ?_, b⟩
        · rcases List.mem_cons.1 hy with rfl | hy
          · exact hb
          · have := a y hy
            rw [Nat.testBit_or, Bool.or_eq_false_iff] at this
            exact this.1
        · have := a y hy
          rw [← he, Nat.testBit_or, Nat.testBit_two_pow] at this
          simp at this
      · rintro ⟨a, b, c⟩
        refine ⟨fun y hy => ?_, c⟩
        rw [Nat.testBit_or, a y (List.mem_cons_of_mem _ hy), Nat.testBit_two_pow, Bool.false_or]
        exact decide_eq_false (b y hy)
theorem hit_iff (l : List T_api_Need) (k : Nat) : ∀ n i, hit l k n i = true ↔ ∃ j, i ≤ j ∧ j < i + n ∧ pairN l j k = true
  | 0, i => by simp [hit]; intro j h1 h2; omega
  | n + 1, i => by
    rw [hit, Bool.or_eq_true, hit_iff l k n (i + 1)]
    constructor
    · rintro (h | ⟨j, h1, h2, h3⟩)
      · exact ⟨i, by omega, by omega, h⟩
      · exact ⟨j, by omega, by omega, h3⟩
    · rintro ⟨j, h1, h2, h3⟩
      rcases Nat.eq_or_lt_of_le h1 with rfl | h1
      · exact .inl h3
      · exact .inr ⟨j, h1, by omega, h3⟩
theorem hits_iff (l : List T_api_Need) : ∀ n i, hits l n i = true ↔ ∃ j k, i ≤ k ∧ k < i + n ∧ j < k ∧ pairN l j k = true
  | 0, i => by simp [hits]; intro j k h1 h2; omega
  | n + 1, i => by
    rw [hits, Bool.or_eq_true, hits_iff l n (i + 1), hit_iff]
    constructor
    · rintro (⟨j, h1, h2, h3⟩ | ⟨j, k, h1, h2, h3, h4⟩)
      · exact ⟨j, i, by omega, by omega, by omega, h3⟩
      · exact ⟨j, k, by omega, by omega, h3, h4⟩
    · rintro ⟨j, k, h1, h2, h3, h4⟩
      rcases Nat.eq_or_lt_of_le h1 with rfl | h1
      · exact .inl ⟨j, by omega, by omega, h4⟩
      · exact .inr ⟨j, k, h1, by omega, h3, h4⟩
theorem doubles {l : List T_api_Need} (h64 : ∀ x ∈ l, 0 ≤ x.Obj ∧ x.Obj < 64) : (iLt ((pc 64 (withs 0 l) : Nat) : Int) (l.length : Int) || (l.any (fun x => iEq x.Kind 4) && iLt 1 (l.length : Int))) = hits l l.length 0 := by
  obtain ⟨h1, h2⟩ := withs_pc l 0 fun x hx => by have := h64 x hx; omega
  rw [pc_zero, Nat.zero_add] at h1 h2
  have hmem : ∀ j, j < l.length → l.getD j default ∈ l := fun j hj => by
    rw [List.getD_eq_getElem?_getD, List.getElem?_eq_getElem hj]; exact List.getElem_mem hj
  have hpw : (l.Pairwise fun x y => x.Obj.toNat ≠ y.Obj.toNat) ↔ ∀ j k, j < k → k < l.length → (l.getD j default).Obj ≠ (l.getD k default).Obj := by
    rw [List.pairwise_iff_getElem]
    constructor
    · intro h j k hjk hk he
      have := h j k (by omega) hk hjk
      simp only [List.getD_eq_getElem?_getD, List.getElem?_eq_getElem hk, List.getElem?_eq_getElem (show j < l.length by omega), Option.getD_some] at he
      exact this (by rw [he])
    · intro h j k hj hk hjk he
      have e := h j k hjk hk
      have a := h64 _ (hmem j hj)
      have b := h64 _ (hmem k hk)
      simp only [List.getD_eq_getElem?_getD, List.getElem?_eq_getElem hk, List.getElem?_eq_getElem hj, Option.getD_some] at e a b
      exact e (by omega)
  rw [Bool.eq_iff_iff, Bool.or_eq_true, Bool.and_eq_true, iLt_iff, iLt_iff, hits_iff, List.any_eq_true]
  constructor
  · rintro (h | ⟨⟨x, hx, hk⟩, hl⟩)
    · have hn : ¬ (l.Pairwise fun x y => x.Obj.toNat ≠ y.Obj.toNat) := fun hp => by
        have := h2.2 ⟨fun x _ => by simp, hp⟩
        omega
      rw [hpw] at hn
      simp only [Classical.not_forall, not_imp, Decidable.not_not] at hn
      obtain ⟨j, k, a, b, c⟩ := hn
      exact ⟨j, k, by omega, by omega, a, by unfold pairN; rw [iEq_t c]; rfl⟩
    · obtain ⟨m, hm, rfl⟩ := List.mem_iff_getElem.1 hx
      have e : l.getD m default = l[m] := by simp [List.getD_eq_getElem?_getD, hm]
      by_cases h0 : m = 0
      · subst h0
        exact ⟨0, 1, by omega, by omega, by omega, by unfold pairN; rw [e, hk]; simp⟩
      · exact ⟨0, m, by omega, by omega, by omega, by unfold pairN; rw [e, hk]; simp⟩
  · rintro ⟨j, k, -, hk, hjk, hp⟩
    rw [Nat.zero_add] at hk
    unfold pairN at hp
    rw [Bool.or_eq_true, Bool.or_eq_true, iEq_iff] at hp
    rcases hp with (hp | hp) | hp
    · left
      rcases Nat.eq_or_lt_of_le h1 with he | hlt
      · exact absurd hp (hpw.1 (h2.1 he).2 j k hjk hk)
      · omega
    · exact .inr ⟨⟨_, hmem j (by omega), hp⟩, by omega⟩
    · exact .inr ⟨⟨_, hmem k hk, hp⟩, by omega⟩
theorem With_eq {s : Nat} {o : Int} (hs : s < 18446744073709551616) (ho : 0 ≤ o ∧ o < 64) : bits_Set_With (s : Int) o = some ((s ||| 2 ^ o.toNat : Nat) : Int) := by
  unfold bits_Set_With bits_one
  rw [show (iLt o 0 || iLt 63 o) = false by simp only [Bool.or_eq_false_iff, iLt_iff']; omega, cond_false, need_of (nNn_of ho.1), bind_some']
  have hp : 2 ^ o.toNat < 2 ^ 64 := Nat.pow_lt_pow_right (by decide) (by omega)
  have hm : min o.toNat IntKind.u64.bits = o.toNat := Nat.min_eq_left (by show o.toNat ≤ 64; omega)
  rw [hm, Int.one_mul, show ((2 : Int) ^ o.toNat) = ((2 ^ o.toNat : Nat) : Int) by simp, wu hp, bits_or_u64_nat _ _ hs hp]
theorem way_l4 {L : List T_api_Decl} (hL : L.length ≤ 32) {l : List T_api_Need} (h4 : l.length ≤ 4) : ∀ (n i f s : Nat) (d : Bool), i + n = l.length → n < f → s < 18446744073709551616 →
    need_way_l4 L l f ((s : Int), d, (i : Int)) = cond (iNe (firstN L (l.drop i)) 0) (some (firstN L (l.drop i))) (cond (iLt ((pc 64 (withs s (l.drop i)) : Nat) : Int) (l.length : Int) || ((d || (l.drop i).any (fun x => iEq x.Kind 4)) && iLt 1 (l.length : Int))) (some 2) (some 0))
  | n, i, 0, s, d, hi, hf, hs => by omega
  | 0, i, f + 1, s, d, hi, hf, hs => by
    rw [need_way_l4]
    dsimp only
    rw [iLt_f (by omega), cond_false, List.drop_eq_nil_of_le (by omega), firstN, iNe_f rfl, cond_false, bits_Set_Count, count64 hs, bind_some', bind_some', cnt_pc, withs, List.any_nil, Bool.or_false]
  | n + 1, i, f + 1, s, d, hi, hf, hs => by
    rw [need_way_l4]
    dsimp only
    rw [iLt_t (by omega), cond_true, need_of (nIn_of ⟨by omega, by omega⟩), need_one_eq, bind_some', getD_drop l i (by omega), firstN, Int.toNat_natCast]
    by_cases hb : badN L (l.getD i default) = 0
    · obtain ⟨_, ho, _⟩ := badN_ok hb
      rw [iNe_f hb, cond_false, cond_false, With_eq hs (by omega), bind_some', w64 (by omega), show (i : Int) + 1 = ((i + 1 : Nat) : Int) by omega, way_l4 hL h4 n (i + 1) f _ _ (by omega) (by omega) (or_lt hs (by omega)), withs, List.any_cons, Bool.or_assoc]
    · rw [iNe_t hb, cond_true, cond_true, iNe_t hb, cond_true]
theorem need_way_eq {L : List T_api_Decl} (hL : L.length ≤ 32) (l : List T_api_Need) : need_way L l = some (badW L l) := by
  unfold need_way badW
  by_cases h0 : (l.length : Int) = 0
  · rw [iEq_t h0]; rfl
  · rw [iEq_f h0, cond_false, cond_false]
    by_cases h4 : 4 < (l.length : Int)
    · rw [iLt_t h4]; rfl
    · rw [iLt_f (by omega), cond_false, cond_false]
      have := way_l4 hL (l := l) (by omega) l.length 0 fuel 0 false (by omega) (by have := fuel_big; omega) (by decide)
      refine Eq.trans this ?_
      rw [List.drop_zero]
      by_cases hb : firstN L l = 0
      · rw [iNe_f hb, cond_false, cond_false, Bool.false_or, doubles (fun x hx => by obtain ⟨_, h, _⟩ := badN_ok (firstN_ok hb x hx); omega), cond_some]
      · rw [iNe_t hb, cond_true, cond_true]
theorem check_l4 {L : List T_api_Decl} (hL : L.length ≤ 32) {W : List (List T_api_Need)} (hW : W.length ≤ 4) : ∀ (n i f : Nat), i + n = W.length → n < f → need_Check_l4 L W f (i : Int) = some (firstW L (W.drop i))
  | n, i, 0, hi, hf => by omega
  | 0, i, f + 1, hi, hf => by
    rw [need_Check_l4, iLt_f (by omega), cond_false, List.drop_eq_nil_of_le (by omega)]
    rfl
  | n + 1, i, f + 1, hi, hf => by
    rw [need_Check_l4, iLt_t (by omega), cond_true, need_of (nIn_of ⟨by omega, by omega⟩), need_way_eq hL, bind_some', w64 (by omega), show (i : Int) + 1 = ((i + 1 : Nat) : Int) by omega, check_l4 hL hW n (i + 1) f (by omega) (by omega), getD_drop W i (by omega), firstW, cond_some, Int.toNat_natCast]
theorem need_Check_eq {L : List T_api_Decl} (hL : L.length ≤ 32) (W : List (List T_api_Need)) : need_Check L W = some (chkW L W) := by
  unfold need_Check chkW
  by_cases h0 : (W.length : Int) = 0
  · rw [iEq_t h0]; rfl
  · rw [iEq_f h0, cond_false, cond_false]
    by_cases h4 : 4 < (W.length : Int)
    · rw [iLt_t h4]; rfl
    · rw [iLt_f (by omega), cond_false, cond_false]
      exact check_l4 hL (by omega) W.length 0 fuel (by omega) (by have := fuel_big; omega)
end LJ
end

/- Plain laws of waits as bytes. -/
section
namespace LJ
open Go Go.RowKit
set_option linter.unusedVariables false
set_option linter.unusedSimpArgs false

structure RngN (x : T_api_Need) : Prop where
  k : 1 ≤ x.Kind ∧ x.Kind ≤ 5
  o : 0 ≤ x.Obj ∧ x.Obj < 2147483648
  n : 0 ≤ x.N ∧ x.N < 2147483648
  nz : x.Kind ≤ 3 → x.N = 0
structure GoodW (W : List (List T_api_Need)) : Prop where
  len : 1 ≤ W.length ∧ W.length ≤ 4
  ways : ∀ l ∈ W, (1 ≤ l.length ∧ l.length ≤ 4) ∧ ∀ x ∈ l, RngN x
theorem badD_most {L : List T_api_Decl} {d : T_api_Decl} (h : badD L d = 0) : (d.Kind = 3 → d.B ≤ 1000) ∧ (d.Kind = 6 → d.A ≤ 1000) := by
  unfold badD at h
  constructor
  · intro k
    rw [iEq_t k, cond_true] at h
    cases hb : (iLe 1 d.B && iLe d.B 1000 && iLe 0 d.A && iLe d.A d.B) with
    | false => rw [hb] at h; cases h
    | true => simp only [Bool.and_eq_true, iLe_iff] at hb; omega
  · intro k
    rw [iEq_f (show d.Kind ≠ 3 by omega), cond_false, iEq_t k, cond_true] at h
    cases hb : (iLe 1 d.A && iLe d.A 1000) with
    | false => rw [hb] at h; cases h
    | true => simp only [Bool.and_eq_true, iLe_iff] at hb; omega
theorem chkL_len {L : List T_api_Decl} (h : (chkL L).2 = 0) : L.length ≤ 32 ∧ ∀ d ∈ L, badD L d = 0 := by
  unfold chkL at h
  by_cases hl : 32 < (L.length : Int)
  · rw [iLt_t hl, cond_true] at h; cases h
  · rw [iLt_f (by omega), cond_false] at h
    exact ⟨by omega, chkD_ok h⟩
theorem RngN.of {L : List T_api_Decl} (hL : (chkL L).2 = 0) {x : T_api_Need} (h : badN L x = 0) : RngN x := by
  obtain ⟨h1, h2⟩ := chkL_len hL
  obtain ⟨a, b, c, d, e, f, g⟩ := badN_ok h
  have hm : L.getD x.Obj.toNat default ∈ L := by
    rw [List.getD_eq_getElem?_getD, List.getElem?_eq_getElem (by omega)]
    exact List.getElem_mem _
  obtain ⟨i, j⟩ := badD_most (h2 _ hm)
  rw [c] at i j
  refine ⟨a, by omega, ⟨d, ?_⟩, g⟩
  by_cases k4 : x.Kind = 4
  · have := i (by rw [k4]; rfl)
    have := e k4
    omega
  · by_cases k5 : x.Kind = 5
    · have := j (by rw [k5]; rfl)
      have := f k5
      omega
    · have := g (by omega)
      omega
theorem badW_ok {L : List T_api_Decl} {l : List T_api_Need} (h : badW L l = 0) : (1 ≤ l.length ∧ l.length ≤ 4) ∧ ∀ x ∈ l, badN L x = 0 := by
  unfold badW at h
  by_cases h0 : (l.length : Int) = 0
  · rw [iEq_t h0, cond_true] at h; cases h
  · rw [iEq_f h0, cond_false] at h
    by_cases h4 : 4 < (l.length : Int)
    · rw [iLt_t h4, cond_true] at h; cases h
    · rw [iLt_f (by omega), cond_false] at h
      by_cases hb : firstN L l = 0
      · exact ⟨by omega, firstN_ok hb⟩
      · rw [iNe_t hb, cond_true] at h; exact absurd h hb
theorem firstW_ok {L : List T_api_Decl} : ∀ {W : List (List T_api_Need)}, firstW L W = 0 → ∀ l ∈ W, badW L l = 0
  | [], h => fun x hx => by cases hx
  | y :: t, h => by
    unfold firstW at h
    by_cases hy : badW L y = 0
    · rw [iNe_f hy, cond_false] at h
      intro x hx
      rcases List.mem_cons.1 hx with rfl | hx
      · exact hy
      · exact firstW_ok h x hx
    · rw [iNe_t hy, cond_true] at h; exact absurd h hy
theorem GoodW.of {L : List T_api_Decl} (hL : (chkL L).2 = 0) {W : List (List T_api_Need)} (h : chkW L W = 0) : GoodW W := by
  unfold chkW at h
  by_cases h0 : (W.length : Int) = 0
  · rw [iEq_t h0, cond_true] at h; cases h
  · rw [iEq_f h0, cond_false] at h
    by_cases h4 : 4 < (W.length : Int)
    · rw [iLt_t h4, cond_true] at h; cases h
    · rw [iLt_f (by omega), cond_false] at h
      refine ⟨by omega, fun l hl => ?_⟩
      obtain ⟨a, b⟩ := badW_ok (firstW_ok h l hl)
      exact ⟨a, fun x hx => RngN.of hL (b x hx)⟩

def putN (x : T_api_Need) : List UInt8 := UInt8.ofNat x.Kind.toNat :: (numL x.Obj.toNat ++ if 3 < x.Kind then numL x.N.toNat else [])
def putW (l : List T_api_Need) : List UInt8 := numL l.length ++ l.flatMap putN
def putWs (W : List (List T_api_Need)) : List UInt8 := numL W.length ++ W.flatMap putW
theorem putN_len {x : T_api_Need} (h : RngN x) : (putN x).length ≤ 21 := by
  have ⟨_, ha, hb, _⟩ := h
  have h1 := numL_len10 (n := x.Obj.toNat) (by omega)
  have h2 := numL_len10 (n := x.N.toNat) (by omega)
  unfold putN
  rw [List.length_cons, List.length_append]
  split
  · omega
  · simp; omega
theorem putW_len {l : List T_api_Need} (h4 : l.length ≤ 4) (h : ∀ x ∈ l, RngN x) : (putW l).length ≤ 94 := by
  unfold putW
  rw [List.length_append]
  have := numL_len10 (n := l.length) (by omega)
  have := flat_len putN 21 (fun d hd => putN_len (h d hd))
  omega
theorem putWs_len {W : List (List T_api_Need)} (h : GoodW W) : (putWs W).length ≤ 386 := by
  have hl := h.len
  unfold putWs
  rw [List.length_append]
  have := numL_len10 (n := W.length) (by omega)
  have := flat_len putW 94 (fun d hd => putW_len (h.ways d hd).1.2 (h.ways d hd).2)
  omega
theorem put_l12 {W : List (List T_api_Need)} {s4 : Int × ByteArray} {K : ByteArray → Option (ByteArray × Int)} {l : List T_api_Need} (hl : W.getD s4.1.toNat default = l) (h4 : l.length ≤ 4) (h : ∀ x ∈ l, RngN x) : ∀ (n i f : Nat) (b : ByteArray), i + n = l.length → n < f → b.size + 21 * n ≤ 10000 →
    need_Put_l12 W s4 K f ((i : Int), b) = K (b ++ bs ((l.drop i).flatMap putN))
  | n, i, 0, b, hi, hf, hb => by omega
  | 0, i, f + 1, b, hi, hf, hb => by
    rw [need_Put_l12]
    dsimp only
    rw [hl, iLt_f (by omega), cond_false, List.drop_eq_nil_of_le (by omega)]
    congr 1
    apply bl_inj
    simp
  | n + 1, i, f + 1, b, hi, hf, hb => by
    rw [need_Put_l12]
    dsimp only
    have hm : l.getD i default ∈ l := by
      rw [List.getD_eq_getElem?_getD, List.getElem?_eq_getElem (by omega)]
      exact List.getElem_mem _
    have hd := h _ hm
    rw [hl, iLt_t (by omega), cond_true, need_of (nIn_of ⟨by omega, by omega⟩), Int.toNat_natCast, getD_drop l i (by omega), List.flatMap_cons]
    generalize l.getD i default = d at *
    have hlen := putN_len hd
    have ⟨hk, ho, hn, _⟩ := hd
    have h1 := numL_len10 (n := d.Obj.toNat) (by omega)
    have h2 := numL_len10 (n := d.N.toNat) (by omega)
    unfold octet_Out_Byte need_counted
    rw [wu8 (by omega), need_of (nCap_of (by dsimp only; omega)), need_of (nIn_of (by omega)), bind_some']
    dsimp only
    have w : IntKind.i64.wrap ((i : Int) + 1) = ((i + 1 : Nat) : Int) := by rw [w64 (by omega)]; omega
    have sz : (b.push (UInt8.ofNat d.Kind.toNat)).size = b.size + 1 := ByteArray.size_push
    have go : ∀ (x : List UInt8), UInt8.ofNat d.Kind.toNat :: x = putN d → need_Put_l12 W s4 K f (IntKind.i64.wrap ((i : Int) + 1), b.push (UInt8.ofNat d.Kind.toNat) ++ bs x) = K (b ++ bs (putN d ++ (l.drop (i + 1)).flatMap putN)) := fun x hx => by
      have hxl : x.length ≤ 20 := by rw [← hx] at hlen; simpa using hlen
      rw [w, put_l12 hl h4 h n (i + 1) f _ (by omega) (by omega) (by rw [ByteArray.size_append, sz, bs_size]; omega)]
      congr 1
      apply bl_inj
      rw [← hx]
      simp
    rw [wu64 (a := d.Obj) (by omega), wu64 (a := d.N) (by omega), Out_Num' ho.1 (by omega) (by omega), bind_some', bind_some']
    by_cases k3 : 3 < d.Kind
    · rw [show (iEq d.Kind 4 || iEq d.Kind 5) = true by rw [Bool.or_eq_true, iEq_iff, iEq_iff]; omega, cond_true, Out_Num' hn.1 (by omega) (by rw [ByteArray.size_append, bs_size]; omega), bind_some']
      dsimp only
      rw [ba_assoc, ← bs_append]
      exact go _ (by unfold putN; rw [if_pos k3])
    · rw [show (iEq d.Kind 4 || iEq d.Kind 5) = false by rw [iEq_f (by omega), iEq_f (by omega)]; rfl, cond_false]
      exact go _ (by unfold putN; rw [if_neg k3, List.append_nil])
theorem put_l5 {W : List (List T_api_Need)} (h4 : W.length ≤ 4) (h : ∀ l ∈ W, l.length ≤ 4 ∧ ∀ x ∈ l, RngN x) : ∀ (n i f : Nat) (b : ByteArray), i + n = W.length → n < f → b.size + 94 * n ≤ 5000 →
    need_Put_l5 W f ((i : Int), b) = some (b ++ bs ((W.drop i).flatMap putW), 0)
  | n, i, 0, b, hi, hf, hb => by omega
  | 0, i, f + 1, b, hi, hf, hb => by
    rw [need_Put_l5]
    dsimp only
    rw [iLt_f (by omega), cond_false, List.drop_eq_nil_of_le (by omega)]
    show some (b, (0 : Int)) = _
    congr 2
    apply bl_inj
    simp
  | n + 1, i, f + 1, b, hi, hf, hb => by
    rw [need_Put_l5]
    dsimp only
    have hm : W.getD i default ∈ W := by
      rw [List.getD_eq_getElem?_getD, List.getElem?_eq_getElem (by omega)]
      exact List.getElem_mem _
    obtain ⟨hd1, hd2⟩ := h _ hm
    have h1 := numL_len10 (n := (W.getD i default).length) (by omega)
    have hlen := putW_len hd1 hd2
    rw [iLt_t (by omega), cond_true, withK_eq, need_of (nIn_of ⟨by omega, by omega⟩), Int.toNat_natCast, wu64 (by omega), Out_Num (by omega) (by omega), bind_some']
    dsimp only
    have := put_l12 (W := W) (s4 := ((i : Int), b)) (K := fun s8 => need_Put_l5 W f (IntKind.i64.wrap ((i : Int) + 1), s8)) (l := W.getD i default) (by rw [Int.toNat_natCast]) hd1 hd2 (W.getD i default).length 0 fuel (b ++ bs (numL (W.getD i default).length)) (by omega) (by have := fuel_big; omega) (by rw [ByteArray.size_append, bs_size]; omega)
    refine Eq.trans this ?_
    have hf2 := flat_len putN 21 (fun d hd => putN_len (hd2 d hd))
    rw [List.drop_zero, w64 (by omega), show (i : Int) + 1 = ((i + 1 : Nat) : Int) by omega, put_l5 h4 h n (i + 1) f _ (by omega) (by omega) (by rw [ByteArray.size_append, ByteArray.size_append, bs_size, bs_size]; omega), getD_drop W i (by omega), List.flatMap_cons]
    congr 2
    apply bl_inj
    unfold putW
    simp
theorem need_Put_ok {L : List T_api_Decl} (hL : (chkL L).2 = 0) {W : List (List T_api_Need)} (h : chkW L W = 0) : need_Put L W = some (bs (putWs W), 0) := by
  have g := GoodW.of hL h
  have hl := g.len
  unfold need_Put
  have := numL_len10 (n := W.length) (by omega)
  rw [need_Check_eq (chkL_len hL).1, bind_some', iNe_f h, cond_false, wu64 (by omega), Out_Num (by omega) (by simp; omega), bind_some']
  dsimp only
  rw [show (0 : Int) = ((0 : Nat) : Int) from rfl, put_l5 hl.2 (fun l hl => ⟨(g.ways l hl).1.2, (g.ways l hl).2⟩) W.length 0 fuel _ (by omega) (by have := fuel_big; omega) (by rw [ByteArray.size_append, bs_size]; simp; omega)]
  exact congrArg (fun z => some (z, (0 : Int))) (bl_inj (by unfold putWs; simp))
theorem need_Put_bad {L : List T_api_Decl} (hL : L.length ≤ 32) {W : List (List T_api_Need)} (h : chkW L W ≠ 0) : need_Put L W = some (ByteArray.empty, chkW L W) := by
  unfold need_Put
  rw [need_Check_eq hL, bind_some', iNe_t h, cond_true]
theorem rput_l11 {W : List (List T_api_Need)} {s2 : ByteArray × Int} {K : ByteArray → Option ByteArray} {l : List T_api_Need} (hl : W.getD s2.2.toNat default = l) (hs : nIn s2.2 (W.length : Int) = true) (h4 : l.length ≤ 4) (h : ∀ x ∈ l, RngN x) : ∀ (n i f : Nat) (b : ByteArray), i + n = l.length → n < f → b.size + 21 * n ≤ 10000 →
    ref09_Put_l11 W s2 K f (b, (i : Int)) = K (b ++ bs ((l.drop i).flatMap putN))
  | n, i, 0, b, hi, hf, hb => by omega
  | 0, i, f + 1, b, hi, hf, hb => by
    rw [ref09_Put_l11]
    dsimp only
    rw [need_of hs, hl, iLt_f (by omega), cond_false, List.drop_eq_nil_of_le (by omega)]
    congr 1
    apply bl_inj
    simp
  | n + 1, i, f + 1, b, hi, hf, hb => by
    rw [ref09_Put_l11]
    dsimp only
    have hm : l.getD i default ∈ l := by
      rw [List.getD_eq_getElem?_getD, List.getElem?_eq_getElem (by omega)]
      exact List.getElem_mem _
    have hd := h _ hm
    rw [need_of hs, hl, iLt_t (by omega), cond_true, need_of hs, need_of (nIn_of ⟨by omega, by omega⟩), Int.toNat_natCast, getD_drop l i (by omega), List.flatMap_cons]
    generalize l.getD i default = d at *
    have hlen := putN_len hd
    have ⟨hk, ho, hn, _⟩ := hd
    have h1 := numL_len10 (n := d.Obj.toNat) (by omega)
    have h2 := numL_len10 (n := d.N.toNat) (by omega)
    have w : IntKind.i64.wrap ((i : Int) + 1) = ((i + 1 : Nat) : Int) := by rw [w64 (by omega)]; omega
    have sz : (ByteArray.empty.push (UInt8.ofNat d.Kind.toNat)).size = 1 := rfl
    have sz2 : (b ++ ByteArray.empty.push (UInt8.ofNat d.Kind.toNat)).size = b.size + 1 := by rw [ByteArray.size_append, sz]
    rw [wu8 (by omega), need_of (nIn_of (by omega)), sz, need_of (nStr_of (by omega))]
    have go : ∀ (x : List UInt8), UInt8.ofNat d.Kind.toNat :: x = putN d → ref09_Put_l11 W s2 K f (b ++ ByteArray.empty.push (UInt8.ofNat d.Kind.toNat) ++ bs x, IntKind.i64.wrap ((i : Int) + 1)) = K (b ++ bs (putN d ++ (l.drop (i + 1)).flatMap putN)) := fun x hx => by
      have hxl : x.length ≤ 20 := by rw [← hx] at hlen; simpa using hlen
      rw [w, rput_l11 hl hs h4 h n (i + 1) f _ (by omega) (by omega) (by rw [ByteArray.size_append, sz2, bs_size]; omega)]
      congr 1
      apply bl_inj
      rw [← hx]
      simp
    rw [wu64 (a := d.Obj) (by omega), wu64 (a := d.N) (by omega), refNum' ho.1 (by omega), bind_some', bs_size, sz2, need_of (nStr_of (by omega))]
    by_cases k3 : 3 < d.Kind
    · rw [iLt_t k3, cond_true, refNum' hn.1 (by omega), bind_some', bs_size, ByteArray.size_append, bs_size, sz2, need_of (nStr_of (by omega)), ba_assoc (b ++ _), ← bs_append]
      exact go _ (by unfold putN; rw [if_pos k3])
    · rw [iLt_f (by omega), cond_false]
      exact go _ (by unfold putN; rw [if_neg k3, List.append_nil])
theorem rput_l3 {W : List (List T_api_Need)} (h4 : W.length ≤ 4) (h : ∀ l ∈ W, l.length ≤ 4 ∧ ∀ x ∈ l, RngN x) : ∀ (n i f : Nat) (b : ByteArray), i + n = W.length → n < f → b.size + 94 * n ≤ 5000 →
    ref09_Put_l3 W f (b, (i : Int)) = some (b ++ bs ((W.drop i).flatMap putW))
  | n, i, 0, b, hi, hf, hb => by omega
  | 0, i, f + 1, b, hi, hf, hb => by
    rw [ref09_Put_l3]
    dsimp only
    rw [iLt_f (by omega), cond_false, List.drop_eq_nil_of_le (by omega)]
    congr 1
    apply bl_inj
    simp
  | n + 1, i, f + 1, b, hi, hf, hb => by
    rw [ref09_Put_l3]
    dsimp only
    have hm : W.getD i default ∈ W := by
      rw [List.getD_eq_getElem?_getD, List.getElem?_eq_getElem (by omega)]
      exact List.getElem_mem _
    obtain ⟨hd1, hd2⟩ := h _ hm
    have h1 := numL_len10 (n := (W.getD i default).length) (by omega)
    have hlen := putW_len hd1 hd2
    have hI : nIn (i : Int) (W.length : Int) = true := nIn_of ⟨by omega, by omega⟩
    rw [iLt_t (by omega), cond_true, withK_eq, need_of hI, Int.toNat_natCast, wu64 (by omega), refNum (by omega), bind_some', bs_size, need_of (nStr_of (by omega))]
    have := rput_l11 (W := W) (s2 := (b, (i : Int))) (K := fun s6 => ref09_Put_l3 W f (s6, IntKind.i64.wrap ((i : Int) + 1))) (l := W.getD i default) (by rw [Int.toNat_natCast]) hI hd1 hd2 (W.getD i default).length 0 fuel (b ++ bs (numL (W.getD i default).length)) (by omega) (by have := fuel_big; omega) (by rw [ByteArray.size_append, bs_size]; omega)
    refine Eq.trans this ?_
    have hf2 := flat_len putN 21 (fun d hd => putN_len (hd2 d hd))
    rw [List.drop_zero, w64 (by omega), show (i : Int) + 1 = ((i + 1 : Nat) : Int) by omega, rput_l3 h4 h n (i + 1) f _ (by omega) (by omega) (by rw [ByteArray.size_append, ByteArray.size_append, bs_size, bs_size]; omega), getD_drop W i (by omega), List.flatMap_cons]
    congr 1
    apply bl_inj
    unfold putW
    simp
theorem ref09_Put_ok {L : List T_api_Decl} (hL : (chkL L).2 = 0) {W : List (List T_api_Need)} (h : chkW L W = 0) : ref09_Put W = some (bs (putWs W)) := by
  have g := GoodW.of hL h
  have hl := g.len
  unfold ref09_Put
  have := numL_len10 (n := W.length) (by omega)
  rw [wu64 (by omega), refNum (by omega), bind_some', show (0 : Int) = ((0 : Nat) : Int) from rfl, rput_l3 hl.2 (fun l hl => ⟨(g.ways l hl).1.2, (g.ways l hl).2⟩) W.length 0 fuel _ (by omega) (by have := fuel_big; omega) (by rw [bs_size]; omega)]
  exact congrArg some (bl_inj (by unfold putWs; simp))
end LJ
end

/- Plain laws of waits that are read. -/
section
namespace LJ
open Go Go.RowKit
set_option linter.unusedVariables false
set_option linter.unusedSimpArgs false

theorem cap_eq {n : Nat} (h : n < 18446744073709551616) : IntKind.i64.wrap (iMin (n : Int) (2147483648 : Int)) = ((min n 2147483648 : Nat) : Int) := by
  unfold iMin
  split
  · rw [w64 (by omega)]; omega
  · rw [w64 (by omega)]; omega
def rdNeedC (b : UInt8) (t : List UInt8) : T_api_Need × Int × List UInt8 :=
  cond (iLt (b.toNat : Int) 1 || iLt 5 (b.toNat : Int)) (⟨b.toNat, 0, 0⟩, 6, t)
    (cond (iLt 3 (b.toNat : Int)) (⟨b.toNat, capN (rdN t 0), capN (rdN (rdN t 0).2.2 (rdN t 0).1)⟩, (rdN (rdN t 0).2.2 (rdN t 0).1).1, (rdN (rdN t 0).2.2 (rdN t 0).1).2.2)
    (⟨b.toNat, capN (rdN t 0), 0⟩, (rdN t 0).1, (rdN t 0).2.2))
def rdNeed : List UInt8 → T_api_Need × Int × List UInt8
  | [] => (⟨0, 0, 0⟩, 3, [])
  | b :: t => rdNeedC b t
theorem rdNeed_cons (b : UInt8) (t : List UInt8) : rdNeed (b :: t) = rdNeedC b t := rfl
theorem need_read_eq {s : ByteArray} (hs : s.size ≤ 9007199254740992) {l : List UInt8} (h : l <:+ bl s) : ∃ er, need_read (mkI s l 0) = some ((rdNeed l).1, (rdNeed l).2.1, mkI s (rdNeed l).2.2 er) ∧ ((rdNeed l).2.1 = 0 → er = 0 ∧ (rdNeed l).2.2 <:+ bl s) := by
  have h0 : RdOK s l 0 := ⟨h, fun h => absurd rfl h⟩
  unfold need_read need_counted
  cases l with
  | nil =>
    rw [In_Byte_nil, bind_some']
    dsimp only
    rw [In_Err_gen, bind_some', if_pos rfl, iNe_t (by decide), cond_true]
    exact ⟨3, rfl, fun h => absurd h (by decide : (3 : Int) ≠ 0)⟩
  | cons b t =>
    have ht : RdOK s t 0 := h0.byte
    have hb := u8_rng b
    rw [In_Byte_cons s hs b t 0 h, bind_some']
    dsimp only
    rw [In_Err_gen, bind_some', iNe_f rfl, cond_false, rdNeed_cons]
    unfold rdNeedC
    cases hk : (iLt (b.toNat : Int) 1 || iLt 5 (b.toNat : Int)) with
    | true => exact ⟨_, rfl, fun h => absurd h (by decide : (6 : Int) ≠ 0)⟩
    | false =>
      simp only [Bool.or_eq_false_iff, iLt_iff'] at hk
      rw [cond_false, cond_false, In_Num_gen hs ht, bind_some', bind_some']
      dsimp only
      rw [cap_eq (rdN_lt t 0)]
      by_cases k3 : 3 < (b.toNat : Int)
      · rw [show (iEq (b.toNat : Int) 4 || iEq (b.toNat : Int) 5) = true by rw [Bool.or_eq_true, iEq_iff, iEq_iff]; omega, cond_true, iLt_t k3, cond_true, In_Num_gen hs ht.num, bind_some']
        dsimp only
        rw [In_Err_gen, bind_some', cap_eq (rdN_lt _ _)]
        exact ⟨_, rfl, fun h => ⟨h, ht.num.num.suf⟩⟩
      · rw [show (iEq (b.toNat : Int) 4 || iEq (b.toNat : Int) 5) = false by rw [iEq_f (by omega), iEq_f (by omega)]; rfl, cond_false, iLt_f (by omega), cond_false, In_Err_gen, bind_some']
        exact ⟨_, rfl, fun h => ⟨h, ht.num.suf⟩⟩
def rdM (l : List UInt8) : Nat × Int × List UInt8 := cond (iLt 4 ((rdN l 0).2.1 : Int)) (0, 4, []) ((rdN l 0).2.1, (rdN l 0).1, (rdN l 0).2.2)
theorem need_many_eq {s : ByteArray} (hs : s.size ≤ 9007199254740992) {l : List UInt8} (h : l <:+ bl s) : ∃ S, need_many (mkI s l 0) 4 = some (((rdM l).1 : Int), (rdM l).2.1, S) ∧ ((rdM l).2.1 = 0 → S = mkI s (rdM l).2.2 0 ∧ (rdM l).2.2 <:+ bl s ∧ (rdM l).1 ≤ 4) := by
  have h0 : RdOK s l 0 := ⟨h, fun h => absurd rfl h⟩
  unfold need_many rdM
  rw [In_Num_gen hs h0, bind_some']
  dsimp only
  by_cases h4 : 4 < ((rdN l 0).2.1 : Int)
  · rw [iLt_t h4, cond_true, cond_true]
    exact ⟨_, rfl, fun h => absurd h (by decide : (4 : Int) ≠ 0)⟩
  · rw [iLt_f (by omega), cond_false, cond_false, In_Err_gen, bind_some', w64 (by omega)]
    refine ⟨_, rfl, fun he => ?_⟩
    dsimp only at he ⊢
    exact ⟨by rw [he], h0.num.suf, by omega⟩
def rdNeeds : Nat → List UInt8 → List T_api_Need → List T_api_Need × Int × List UInt8
  | 0, l, acc => (acc, 0, l)
  | n + 1, l, acc => cond (iEq (rdNeed l).2.1 0) (rdNeeds n (rdNeed l).2.2 (acc ++ [(rdNeed l).1])) ([], (rdNeed l).2.1, [])
def rdWay (l : List UInt8) : List T_api_Need × Int × List UInt8 := cond (iEq (rdM l).2.1 0) (rdNeeds (rdM l).1 (rdM l).2.2 []) ([], (rdM l).2.1, [])
def rdWays : Nat → List UInt8 → List (List T_api_Need) → List (List T_api_Need) × Int × List UInt8
  | 0, l, acc => (acc, 0, l)
  | n + 1, l, acc => cond (iEq (rdWay l).2.1 0) (rdWays n (rdWay l).2.2 (acc ++ [(rdWay l).1])) ([], (rdWay l).2.1, [])
def getNs (L : List T_api_Decl) (l : List UInt8) : List (List T_api_Need) × Int × List UInt8 :=
  cond (iEq (rdM l).2.1 0)
    (cond (iEq (rdWays (rdM l).1 (rdM l).2.2 []).2.1 0)
      (cond (iEq (chkW L (rdWays (rdM l).1 (rdM l).2.2 []).1) 0) ((rdWays (rdM l).1 (rdM l).2.2 []).1, 0, (rdWays (rdM l).1 (rdM l).2.2 []).2.2) ([], chkW L (rdWays (rdM l).1 (rdM l).2.2 []).1, []))
      ([], (rdWays (rdM l).1 (rdM l).2.2 []).2.1, []))
    ([], (rdM l).2.1, [])
theorem mkI_eta (s : ByteArray) (l : List UInt8) (e : Int) : (⟨(mkI s l e).s, (mkI s l e).at_, (mkI s l e).err⟩ : T_octet_In) = mkI s l e := rfl
theorem mkR_eta (s : ByteArray) (l : List UInt8) (e : Int) : (⟨(mkR s l e).S, (mkR s l e).At, (mkR s l e).Err⟩ : T_ref01_R) = mkR s l e := rfl
theorem Get_l14 {s : ByteArray} (hs : s.size ≤ 9007199254740992) {s5 : Int × (List (List T_api_Need)) × ByteArray × Int × Int} {K : ((List (List T_api_Need)) × ByteArray × Int × Int) → Option ((List (List T_api_Need)) × Int × Int)} {x10 : Int × Int × T_octet_In} {N : Nat} (hN : x10.1 = (N : Int)) (hN4 : N ≤ 4) (h5 : s5.2.1.length ≤ 4) : ∀ (n i f : Nat) (acc : List T_api_Need) (l : List UInt8), i + n = N → n < f → acc.length = i → l <:+ bl s →
    need_Get_l14 s5 K x10 f ((i : Int), acc, (mkI s l 0).s, (mkI s l 0).at_, (mkI s l 0).err) = cond (iEq (rdNeeds n l acc).2.1 0) (K (s5.2.1 ++ [(rdNeeds n l acc).1], (mkI s (rdNeeds n l acc).2.2 0).s, (mkI s (rdNeeds n l acc).2.2 0).at_, (mkI s (rdNeeds n l acc).2.2 0).err)) (some ([], 0, (rdNeeds n l acc).2.1)) ∧ ((rdNeeds n l acc).2.1 = 0 → (rdNeeds n l acc).2.2 <:+ bl s)
  | n, i, 0, acc, l, hi, hf, ha, hl => by omega
  | 0, i, f + 1, acc, l, hi, hf, ha, hl => by
    refine ⟨?_, fun _ => hl⟩
    rw [need_Get_l14]
    dsimp only
    rw [hN, iLt_f (by omega), cond_false, need_of (nCap_of (by simp only [List.length_cons, List.length_nil]; omega)), show rdNeeds 0 l acc = (acc, 0, l) from rfl, iEq_t rfl, cond_true]
  | n + 1, i, f + 1, acc, l, hi, hf, ha, hl => by
    rw [need_Get_l14]
    dsimp only
    obtain ⟨er, h1, h2⟩ := need_read_eq hs hl
    rw [hN, iLt_t (by omega), cond_true, mkI_eta, h1, bind_some', rdNeeds]
    dsimp only
    by_cases he : (rdNeed l).2.1 = 0
    · obtain ⟨rfl, h3⟩ := h2 he
      rw [iNe_f he, cond_false, iEq_t he, cond_true, need_of (nCap_of (by simp only [List.length_cons, List.length_nil]; omega)), w64 (by omega), show (i : Int) + 1 = ((i + 1 : Nat) : Int) by omega]
      exact Get_l14 hs hN hN4 h5 n (i + 1) f _ _ (by omega) (by omega) (by simp; omega) h3
    · rw [iNe_t he, cond_true, iEq_f he, cond_false, iEq_f he, cond_false]
      exact ⟨rfl, fun h => absurd h he⟩
theorem Get_l6 {L : List T_api_Decl} (hL : L.length ≤ 32) {s : ByteArray} (hs : s.size ≤ 9007199254740992) {x2 : Int × Int × T_octet_In} {N : Nat} (hN : x2.1 = (N : Int)) (hN4 : N ≤ 4) : ∀ (n i f : Nat) (acc : List (List T_api_Need)) (l : List UInt8), i + n = N → n < f → acc.length = i → l <:+ bl s →
    need_Get_l6 L s x2 f ((i : Int), acc, (mkI s l 0).s, (mkI s l 0).at_, (mkI s l 0).err) = cond (iEq (rdWays n l acc).2.1 0) (cond (iEq (chkW L (rdWays n l acc).1) 0) (some ((rdWays n l acc).1, (s.size : Int) - (rdWays n l acc).2.2.length, 0)) (some ([], 0, chkW L (rdWays n l acc).1))) (some ([], 0, (rdWays n l acc).2.1))
  | n, i, 0, acc, l, hi, hf, ha, hl => by omega
  | 0, i, f + 1, acc, l, hi, hf, ha, hl => by
    have := suf_len hl
    rw [need_Get_l6]
    dsimp only
    rw [hN, iLt_f (by omega), cond_false, need_Check_eq hL, bind_some', mkI_eta, show rdWays 0 l acc = (acc, 0, l) from rfl, iEq_t rfl, cond_true]
    dsimp only
    by_cases hc : chkW L acc = 0
    · rw [iNe_f hc, cond_false, iEq_t hc, cond_true, In_Left s hs l 0 hl, bind_some', w64 (by omega)]
    · rw [iNe_t hc, cond_true, iEq_f hc, cond_false]
  | n + 1, i, f + 1, acc, l, hi, hf, ha, hl => by
    rw [need_Get_l6]
    dsimp only
    obtain ⟨S, h1, h2⟩ := need_many_eq hs hl
    rw [hN, iLt_t (by omega), cond_true, withK_eq, mkI_eta, h1, bind_some', rdWays, rdWay]
    dsimp only
    by_cases he : (rdM l).2.1 = 0
    · obtain ⟨rfl, h3, h4⟩ := h2 he
      rw [iNe_f he, cond_false, iEq_t he, cond_true]
      obtain ⟨g1, g2⟩ := Get_l14 hs (s5 := ((i : Int), acc, (mkI s l 0).s, (mkI s l 0).at_, (mkI s l 0).err)) (K := fun s9 => need_Get_l6 L s x2 f (IntKind.i64.wrap ((i : Int) + 1), s9.1, s9.2.1, s9.2.2.1, s9.2.2.2)) (x10 := (((rdM l).1 : Int), (rdM l).2.1, mkI s (rdM l).2.2 0)) (N := (rdM l).1) rfl h4 (by dsimp only; omega) (rdM l).1 0 fuel [] (rdM l).2.2 (by omega) (by have := fuel_big; omega) rfl h3
      refine Eq.trans g1 ?_
      dsimp only
      by_cases hr : (rdNeeds (rdM l).1 (rdM l).2.2 []).2.1 = 0
      · rw [iEq_t hr, cond_true, cond_true, w64 (by omega), show (i : Int) + 1 = ((i + 1 : Nat) : Int) by omega]
        exact Get_l6 hL hs hN hN4 n (i + 1) f _ _ (by omega) (by omega) (by simp; omega) (g2 hr)
      · rw [iEq_f hr, cond_false, cond_false, iEq_f hr, cond_false]
    · rw [iNe_t he, cond_true, iEq_f he, cond_false]
      dsimp only
      rw [iEq_f he, cond_false, iEq_f he, cond_false]
theorem need_Get_eq {L : List T_api_Decl} (hL : L.length ≤ 32) {s : ByteArray} (hs : s.size ≤ 9007199254740992) : need_Get L s = some ((getNs L (bl s)).1, cond (iEq (getNs L (bl s)).2.1 0) ((s.size : Int) - (getNs L (bl s)).2.2.length) 0, (getNs L (bl s)).2.1) := by
  unfold need_Get
  obtain ⟨S, h1, h2⟩ := need_many_eq hs (List.suffix_refl (bl s))
  rw [In_Open, bind_some', h1, bind_some']
  dsimp only
  unfold getNs
  by_cases he : (rdM (bl s)).2.1 = 0
  · obtain ⟨rfl, h3, h4⟩ := h2 he
    rw [iNe_f he, cond_false, iEq_t he, cond_true]
    have := Get_l6 hL hs (x2 := (((rdM (bl s)).1 : Int), (rdM (bl s)).2.1, mkI s (rdM (bl s)).2.2 0)) (N := (rdM (bl s)).1) rfl h4 (rdM (bl s)).1 0 fuel [] (rdM (bl s)).2.2 (by omega) (by have := fuel_big; omega) rfl h3
    refine Eq.trans this ?_
    generalize rdWays (rdM (bl s)).1 (rdM (bl s)).2.2 [] = r
    by_cases h1 : r.2.1 = 0
    · rw [iEq_t h1, cond_true, cond_true]
      by_cases h2 : chkW L r.1 = 0
      · rw [iEq_t h2, cond_true, cond_true]; rfl
      · rw [iEq_f h2, cond_false, cond_false]; dsimp only; rw [iEq_f h2, cond_false]
    · rw [iEq_f h1, cond_false, cond_false]; dsimp only; rw [iEq_f h1, cond_false]
  · rw [iNe_t he, cond_true, iEq_f he, cond_false]; dsimp only; rw [iEq_f he, cond_false]

theorem rl11_stop {s3 : Int × ByteArray × Int × Int × (List (List T_api_Need))} {K : (ByteArray × Int × Int × (List (List T_api_Need))) → Option ((List (List T_api_Need)) × T_ref01_R × Int)} {x8 : Int × T_ref01_R} (h3 : s3.2.2.2.2.length ≤ 4)
    (hK : ∀ (S : ByteArray) (A e : Int) (acc : List (List T_api_Need)), e ≠ 0 → ∃ R, K (S, A, e, acc) = some ([], R, e)) (f : Nat) (i : Int) (S : ByteArray) (A e : Int) (acc : List T_api_Need) (he : e ≠ 0) : ∃ R, ref09_Read_l11 s3 K x8 (f + 1) (i, S, A, e, acc) = some ([], R, e) := by
  rw [ref09_Read_l11]
  dsimp only
  rw [iEq_f he, Bool.and_false, cond_false, need_of (nCap_of (by simp only [List.length_cons, List.length_nil]; omega))]
  exact hK _ _ _ _ he
theorem rl11 {s : ByteArray} (hs : s.size ≤ 9007199254740992) {s3 : Int × ByteArray × Int × Int × (List (List T_api_Need))} {K : (ByteArray × Int × Int × (List (List T_api_Need))) → Option ((List (List T_api_Need)) × T_ref01_R × Int)} {x8 : Int × T_ref01_R} (h3 : s3.2.2.2.2.length ≤ 4)
    (hK : ∀ (S : ByteArray) (A e : Int) (acc : List (List T_api_Need)), e ≠ 0 → ∃ R, K (S, A, e, acc) = some ([], R, e)) {N : Nat} (hN : x8.1 = (N : Int)) (hN4 : N ≤ 4) : ∀ (n i f : Nat) (acc : List T_api_Need) (l : List UInt8), i + n = N → n < f → acc.length = i → l <:+ bl s →
    ((rdNeeds n l acc).2.1 = 0 → ref09_Read_l11 s3 K x8 f ((i : Int), (mkR s l 0).S, (mkR s l 0).At, (mkR s l 0).Err, acc) = K ((mkR s (rdNeeds n l acc).2.2 0).S, (mkR s (rdNeeds n l acc).2.2 0).At, (mkR s (rdNeeds n l acc).2.2 0).Err, s3.2.2.2.2 ++ [(rdNeeds n l acc).1]) ∧ (rdNeeds n l acc).2.2 <:+ bl s) ∧
    ((rdNeeds n l acc).2.1 ≠ 0 → ∃ R, ref09_Read_l11 s3 K x8 f ((i : Int), (mkR s l 0).S, (mkR s l 0).At, (mkR s l 0).Err, acc) = some ([], R, (rdNeeds n l acc).2.1))
  | n, i, 0, acc, l, hi, hf, ha, hl => by omega
  | 0, i, f + 1, acc, l, hi, hf, ha, hl => by
    refine ⟨fun _ => ⟨?_, hl⟩, fun h => absurd rfl h⟩
    rw [ref09_Read_l11]
    dsimp only
    rw [hN, w64 (by omega), iLt_f (by omega), Bool.false_and, cond_false, need_of (nCap_of (by simp only [List.length_cons, List.length_nil]; omega))]
    rfl
  | n + 1, i, f + 1, acc, l, hi, hf, ha, hl => by
    have h0 : RdOK s l 0 := ⟨hl, fun h => absurd rfl h⟩
    obtain ⟨f', rfl⟩ : ∃ f', f = f' + 1 := ⟨f - 1, by omega⟩
    have stop := rl11_stop (x8 := x8) h3 hK f'
    have cap : ∀ x : T_api_Need, nCap ((acc.length + ([x] : List T_api_Need).length) * 24) = true := fun x => nCap_of (by simp only [List.length_cons, List.length_nil]; omega)
    have ok : ∀ (x : T_api_Need) (l2 : List UInt8), rdNeed l = (x, 0, l2) → l2 <:+ bl s →
      ((rdNeeds (n + 1) l acc).2.1 = 0 → need (nCap ((acc.length + ([x] : List T_api_Need).length) * 24)) (ref09_Read_l11 s3 K x8 (f' + 1) (IntKind.i64.wrap ((i : Int) + 1), (mkR s l2 0).S, (mkR s l2 0).At, (mkR s l2 0).Err, acc ++ [x])) = K ((mkR s (rdNeeds (n + 1) l acc).2.2 0).S, (mkR s (rdNeeds (n + 1) l acc).2.2 0).At, (mkR s (rdNeeds (n + 1) l acc).2.2 0).Err, s3.2.2.2.2 ++ [(rdNeeds (n + 1) l acc).1]) ∧ (rdNeeds (n + 1) l acc).2.2 <:+ bl s) ∧
      ((rdNeeds (n + 1) l acc).2.1 ≠ 0 → ∃ R, need (nCap ((acc.length + ([x] : List T_api_Need).length) * 24)) (ref09_Read_l11 s3 K x8 (f' + 1) (IntKind.i64.wrap ((i : Int) + 1), (mkR s l2 0).S, (mkR s l2 0).At, (mkR s l2 0).Err, acc ++ [x])) = some ([], R, (rdNeeds (n + 1) l acc).2.1)) := fun x l2 he h2 => by
      have e : rdNeeds (n + 1) l acc = rdNeeds n l2 (acc ++ [x]) := by rw [rdNeeds, he]; rfl
      rw [e, need_of (cap x), w64 (by omega), show (i : Int) + 1 = ((i + 1 : Nat) : Int) by omega]
      exact rl11 hs h3 hK hN hN4 n (i + 1) (f' + 1) (acc ++ [x]) l2 (by omega) (by omega) (by simp; omega) h2
    have bad : ∀ (x : T_api_Need) (er : Int) (l2 : List UInt8) (z : Option ((List (List T_api_Need)) × T_ref01_R × Int)), rdNeed l = (x, er, l2) → er ≠ 0 → (∃ R, z = some ([], R, er)) →
      ((rdNeeds (n + 1) l acc).2.1 = 0 → z = K ((mkR s (rdNeeds (n + 1) l acc).2.2 0).S, (mkR s (rdNeeds (n + 1) l acc).2.2 0).At, (mkR s (rdNeeds (n + 1) l acc).2.2 0).Err, s3.2.2.2.2 ++ [(rdNeeds (n + 1) l acc).1]) ∧ (rdNeeds (n + 1) l acc).2.2 <:+ bl s) ∧
      ((rdNeeds (n + 1) l acc).2.1 ≠ 0 → ∃ R, z = some ([], R, (rdNeeds (n + 1) l acc).2.1)) := fun x er l2 z he hne hz => by
      have e : rdNeeds (n + 1) l acc = ([], er, []) := by rw [rdNeeds, he]; dsimp only; rw [iEq_f hne, cond_false]
      rw [e]
      exact ⟨fun h => absurd h hne, fun _ => hz⟩
    rw [ref09_Read_l11]
    dsimp only
    rw [hN, w64 (a := (N : Int)) (by omega), iLt_t (by omega), mkR_Err, iEq_t rfl, Bool.and_self, cond_true, show (⟨(mkR s l 0).S, (mkR s l 0).At, 0⟩ : T_ref01_R) = mkR s l 0 from rfl]
    cases l with
    | nil =>
      rw [refByte_nil, bind_some', if_pos rfl]
      dsimp only
      rw [mkR_Err, iEq_f (by decide), Bool.false_and, cond_false, refNumber_err s 3 (by decide), bind_some', iLt_f (by decide), cond_false, need_of (cap _)]
      exact bad _ 3 _ _ rfl (by decide) (stop _ _ _ _ _ (show (3 : Int) ≠ 0 by decide))
    | cons b t =>
      have ht : RdOK s t 0 := h0.byte
      have hb := u8_rng b
      rw [refByte_cons s hs b t 0 hl, bind_some']
      dsimp only
      rw [mkR_Err, iEq_t rfl, Bool.true_and]
      cases hk : (iLt (b.toNat : Int) 1 || iLt 5 (b.toNat : Int)) with
      | true =>
        rw [cond_true]
        have hd : rdNeed (b :: t) = (⟨b.toNat, 0, 0⟩, 6, t) := by rw [rdNeed_cons]; unfold rdNeedC; rw [hk, cond_true]
        exact bad _ 6 _ _ hd (by decide) ⟨_, rfl⟩
      | false =>
        rw [cond_false, refNumber_gen hs ht, bind_some']
        dsimp only
        rw [cap_eq (rdN_lt t 0)]
        by_cases k3 : 3 < (b.toNat : Int)
        · have hd : rdNeed (b :: t) = (⟨b.toNat, capN (rdN t 0), capN (rdN (rdN t 0).2.2 (rdN t 0).1)⟩, (rdN (rdN t 0).2.2 (rdN t 0).1).1, (rdN (rdN t 0).2.2 (rdN t 0).1).2.2) := by
            rw [rdNeed_cons]; unfold rdNeedC; rw [hk, cond_false, iLt_t k3, cond_true]
          rw [iLt_t k3, cond_true, refNumber_gen hs ht.num, bind_some']
          dsimp only
          rw [cap_eq (rdN_lt _ _)]
          have hnn := ht.num.num
          by_cases he : (rdN (rdN t 0).2.2 (rdN t 0).1).1 = 0
          · rw [he] at hd hnn ⊢
            exact ok _ _ hd hnn.suf
          · rw [need_of (cap _)]
            exact bad _ _ _ _ hd he (stop _ _ _ _ _ he)
        · have hd : rdNeed (b :: t) = (⟨b.toNat, capN (rdN t 0), 0⟩, (rdN t 0).1, (rdN t 0).2.2) := by
            rw [rdNeed_cons]; unfold rdNeedC; rw [hk, cond_false, iLt_f (by omega), cond_false]
          rw [iLt_f (by omega), cond_false]
          have hnn := ht.num
          by_cases he : (rdN t 0).1 = 0
          · rw [he] at hd hnn ⊢
            exact ok _ _ hd hnn.suf
          · rw [need_of (cap _)]
            exact bad _ _ _ _ hd he (stop _ _ _ _ _ he)
theorem rl4_stop {L : List T_api_Decl} {x1 : Int × T_ref01_R} (f : Nat) (i : Int) (S : ByteArray) (A e : Int) (acc : List (List T_api_Need)) (he : e ≠ 0) : ∃ R, ref09_Read_l4 L x1 (f + 1) (i, S, A, e, acc) = some ([], R, e) := by
  rw [ref09_Read_l4]
  dsimp only
  rw [iEq_f he, Bool.and_false, cond_false, iNe_t he, cond_true]
  exact ⟨_, rfl⟩
def Said (L : List T_api_Decl) (s : ByteArray) (r : List (List T_api_Need) × Int × List UInt8) (z : Option ((List (List T_api_Need)) × T_ref01_R × Int)) : Prop :=
  (r.2.1 = 0 → chkW L r.1 = 0 → z = some (r.1, mkR s r.2.2 0, 0)) ∧ (r.2.1 = 0 → chkW L r.1 ≠ 0 → ∃ R, z = some ([], R, chkW L r.1)) ∧ (r.2.1 ≠ 0 → ∃ R, z = some ([], R, r.2.1))
theorem rl4 {L : List T_api_Decl} {s : ByteArray} (hs : s.size ≤ 9007199254740992) {x1 : Int × T_ref01_R} {N : Nat} (hN : x1.1 = (N : Int)) (hN4 : N ≤ 4) : ∀ (n i f : Nat) (acc : List (List T_api_Need)) (l : List UInt8), i + n = N → n < f → acc.length = i → l <:+ bl s →
    Said L s (rdWays n l acc) (ref09_Read_l4 L x1 f ((i : Int), (mkR s l 0).S, (mkR s l 0).At, (mkR s l 0).Err, acc))
  | n, i, 0, acc, l, hi, hf, ha, hl => by omega
  | 0, i, f + 1, acc, l, hi, hf, ha, hl => by
    rw [ref09_Read_l4]
    dsimp only
    rw [hN, w64 (by omega), iLt_f (by omega), Bool.false_and, cond_false, mkR_Err, iNe_f rfl, cond_false, ref09_Check_eq, bind_some']
    refine ⟨fun _ h => ?_, fun _ h => ?_, fun h => absurd rfl h⟩
    · have h' : chkW L acc = 0 := h
      rw [iNe_f h', cond_false]; rfl
    · have h' : chkW L acc ≠ 0 := h
      rw [iNe_t h', cond_true]
      exact ⟨_, rfl⟩
  | n + 1, i, f + 1, acc, l, hi, hf, ha, hl => by
    have h0 : RdOK s l 0 := ⟨hl, fun h => absurd rfl h⟩
    obtain ⟨f', rfl⟩ : ∃ f', f = f' + 1 := ⟨f - 1, by omega⟩
    have bad : ∀ (er : Int) (z : Option ((List (List T_api_Need)) × T_ref01_R × Int)), (rdWay l).2.1 = er → er ≠ 0 → (∃ R, z = some ([], R, er)) → Said L s (rdWays (n + 1) l acc) z := fun er z he hne hz => by
      have e : rdWays (n + 1) l acc = ([], er, []) := by rw [rdWays, he, iEq_f hne, cond_false]
      rw [e]
      exact ⟨fun h => absurd h hne, fun h => absurd h hne, fun _ => hz⟩
    rw [ref09_Read_l4]
    dsimp only
    rw [hN, w64 (a := (N : Int)) (by omega), iLt_t (by omega), mkR_Err, iEq_t rfl, Bool.and_self, cond_true, withK_eq, show (⟨(mkR s l 0).S, (mkR s l 0).At, 0⟩ : T_ref01_R) = mkR s l 0 from rfl, refNumber_gen hs h0, bind_some']
    dsimp only
    have hK : ∀ (S : ByteArray) (A e : Int) (acc : List (List T_api_Need)), e ≠ 0 → ∃ R, (fun s7 : ByteArray × Int × Int × (List (List T_api_Need)) => ref09_Read_l4 L x1 (f' + 1) (IntKind.i64.wrap ((i : Int) + 1), s7.1, s7.2.1, s7.2.2.1, s7.2.2.2)) (S, A, e, acc) = some ([], R, e) := fun S A e acc he => rl4_stop f' _ S A e acc he
    by_cases h4 : 4 < ((rdN l 0).2.1 : Int)
    · rw [iLt_t h4, cond_true]
      have hM : rdM l = (0, 4, []) := by unfold rdM; rw [iLt_t h4, cond_true]
      exact bad 4 _ (by rw [rdWay, hM]; dsimp only; rw [iEq_f (by decide), cond_false]) (by decide) ⟨_, rfl⟩
    · rw [iLt_f (by omega), cond_false]
      have hM : rdM l = ((rdN l 0).2.1, (rdN l 0).1, (rdN l 0).2.2) := by unfold rdM; rw [iLt_f (by omega), cond_false]
      have hs3 : ((i : Int), (mkR s l 0).S, (mkR s l 0).At, (0 : Int), acc).2.2.2.2.length ≤ 4 := by dsimp only; omega
      by_cases he : (rdN l 0).1 = 0
      · have hw : rdWay l = rdNeeds (rdN l 0).2.1 (rdN l 0).2.2 [] := by rw [rdWay, hM]; dsimp only; rw [iEq_t he, cond_true]
        have hn := h0.num
        obtain ⟨g1, g2⟩ := rl11 hs (K := fun s7 : ByteArray × Int × Int × (List (List T_api_Need)) => ref09_Read_l4 L x1 (f' + 1) (IntKind.i64.wrap ((i : Int) + 1), s7.1, s7.2.1, s7.2.2.1, s7.2.2.2)) (x8 := (((rdN l 0).2.1 : Int), mkR s (rdN l 0).2.2 0)) hs3 hK (N := (rdN l 0).2.1) rfl (by omega) (rdN l 0).2.1 0 fuel [] (rdN l 0).2.2 (by omega) (by have := fuel_big; omega) rfl hn.suf
        rw [← hw] at g1 g2
        rw [he]
        by_cases hr : (rdWay l).2.1 = 0
        · obtain ⟨g3, g4⟩ := g1 hr
          have e : rdWays (n + 1) l acc = rdWays n (rdWay l).2.2 (acc ++ [(rdWay l).1]) := by rw [rdWays, iEq_t hr, cond_true]
          have ih := rl4 (L := L) hs hN hN4 n (i + 1) (f' + 1) (acc ++ [(rdWay l).1]) (rdWay l).2.2 (by omega) (by omega) (by simp; omega) g4
          rw [e]
          have hz : ref09_Read_l11 ((i : Int), (mkR s l 0).S, (mkR s l 0).At, (0 : Int), acc) (fun s7 : ByteArray × Int × Int × (List (List T_api_Need)) => ref09_Read_l4 L x1 (f' + 1) (IntKind.i64.wrap ((i : Int) + 1), s7.1, s7.2.1, s7.2.2.1, s7.2.2.2)) (((rdN l 0).2.1 : Int), mkR s (rdN l 0).2.2 0) fuel (0, (mkR s (rdN l 0).2.2 0).S, (mkR s (rdN l 0).2.2 0).At, (mkR s (rdN l 0).2.2 0).Err, []) = ref09_Read_l4 L x1 (f' + 1) (((i + 1 : Nat) : Int), (mkR s (rdWay l).2.2 0).S, (mkR s (rdWay l).2.2 0).At, (mkR s (rdWay l).2.2 0).Err, acc ++ [(rdWay l).1]) := by
            refine Eq.trans g3 ?_
            dsimp only
            rw [w64 (by omega), show (i : Int) + 1 = ((i + 1 : Nat) : Int) by omega]
          rw [hz]
          exact ih
        · exact bad _ _ rfl hr (g2 hr)
      · obtain ⟨f2, hf2⟩ := fuel_pos
        have := rl11_stop (K := fun s7 : ByteArray × Int × Int × (List (List T_api_Need)) => ref09_Read_l4 L x1 (f' + 1) (IntKind.i64.wrap ((i : Int) + 1), s7.1, s7.2.1, s7.2.2.1, s7.2.2.2)) (x8 := (((rdN l 0).2.1 : Int), mkR s (rdN l 0).2.2 (rdN l 0).1)) hs3 hK f2 0 (mkR s (rdN l 0).2.2 (rdN l 0).1).S (mkR s (rdN l 0).2.2 (rdN l 0).1).At (mkR s (rdN l 0).2.2 (rdN l 0).1).Err [] he
        rw [hf2]
        exact bad _ _ (by rw [rdWay, hM]; dsimp only; rw [iEq_f he, cond_false]) he this
theorem rdNeed_putN {x : T_api_Need} (h : RngN x) (t : List UInt8) : rdNeed (putN x ++ t) = (x, 0, t) := by
  have ⟨hk, ho, hn, hz⟩ := h
  obtain ⟨K, O, M⟩ := x
  dsimp only at *
  unfold putN
  dsimp only
  have hu : (UInt8.ofNat K.toNat).toNat = K.toNat := by simp [UInt8.toNat_ofNat]; omega
  rw [List.cons_append, rdNeed_cons]
  unfold rdNeedC
  rw [hu, show (K.toNat : Int) = K by omega, show (iLt K 1 || iLt 5 K) = false by simp only [Bool.or_eq_false_iff, iLt_iff']; omega, cond_false]
  by_cases k3 : 3 < K
  · rw [iLt_t k3, cond_true, if_pos k3, List.append_assoc, rdN_numL (by omega), rdN_numL (by omega)]
    simp only [Prod.mk.injEq, and_true, T_api_Need.mk.injEq, true_and]
    unfold capN
    dsimp only
    omega
  · have := hz (by omega)
    rw [iLt_f (by omega), cond_false, if_neg k3, List.append_nil, rdN_numL (by omega)]
    simp only [Prod.mk.injEq, and_true, T_api_Need.mk.injEq, true_and]
    unfold capN
    dsimp only
    omega
theorem rdNeeds_put : ∀ (l acc : List T_api_Need) (t : List UInt8), (∀ x ∈ l, RngN x) → rdNeeds l.length (l.flatMap putN ++ t) acc = (acc ++ l, 0, t)
  | [], acc, t, h => by simp [rdNeeds]
  | d :: L, acc, t, h => by
    rw [List.length_cons, rdNeeds, List.flatMap_cons, List.append_assoc, rdNeed_putN (h d (List.mem_cons_self ..))]
    dsimp only
    rw [iEq_t rfl, cond_true, rdNeeds_put L _ t fun x hx => h x (List.mem_cons_of_mem _ hx)]
    simp
theorem rdM_put {n : Nat} (h : n ≤ 4) (t : List UInt8) : rdM (numL n ++ t) = (n, 0, t) := by
  unfold rdM
  rw [rdN_numL (by omega), iLt_f (by dsimp only; omega), cond_false]
theorem rdWay_put {l : List T_api_Need} (h4 : l.length ≤ 4) (h : ∀ x ∈ l, RngN x) (t : List UInt8) : rdWay (putW l ++ t) = (l, 0, t) := by
  unfold rdWay putW
  rw [List.append_assoc, rdM_put h4]
  dsimp only
  rw [iEq_t rfl, cond_true, rdNeeds_put l [] t h, List.nil_append]
theorem rdWays_put : ∀ (W acc : List (List T_api_Need)) (t : List UInt8), (∀ l ∈ W, l.length ≤ 4 ∧ ∀ x ∈ l, RngN x) → rdWays W.length (W.flatMap putW ++ t) acc = (acc ++ W, 0, t)
  | [], acc, t, h => by simp [rdWays]
  | d :: L, acc, t, h => by
    obtain ⟨h1, h2⟩ := h d (List.mem_cons_self ..)
    rw [List.length_cons, rdWays, List.flatMap_cons, List.append_assoc, rdWay_put h1 h2]
    dsimp only
    rw [iEq_t rfl, cond_true, rdWays_put L _ t fun x hx => h x (List.mem_cons_of_mem _ hx)]
    simp
theorem getNs_put {L : List T_api_Decl} (hL : (chkL L).2 = 0) {W : List (List T_api_Need)} (h : chkW L W = 0) (t : List UInt8) : getNs L (putWs W ++ t) = (W, 0, t) := by
  have g := GoodW.of hL h
  unfold getNs putWs
  rw [List.append_assoc, rdM_put g.len.2]
  dsimp only
  rw [iEq_t rfl, cond_true, rdWays_put W [] t fun l hl => ⟨(g.ways l hl).1.2, (g.ways l hl).2⟩]
  dsimp only
  rw [iEq_t rfl, cond_true, List.nil_append, iEq_t h, cond_true]
theorem rdNeed_inv {l : List UInt8} (h : (rdNeed l).2.1 = 0) (hr : RngN (rdNeed l).1) : l = putN (rdNeed l).1 ++ (rdNeed l).2.2 := by
  cases l with
  | nil => exact absurd h (by decide : (3 : Int) ≠ 0)
  | cons b t =>
    have hu : UInt8.ofNat b.toNat = b := ofNat_toNat b
    have hb := u8_rng b
    rw [rdNeed_cons] at h hr ⊢
    unfold rdNeedC at h hr ⊢
    cases hk : (iLt (b.toNat : Int) 1 || iLt 5 (b.toNat : Int)) with
    | true => rw [hk, cond_true] at h; exact absurd h (by decide : (6 : Int) ≠ 0)
    | false =>
      rw [hk, cond_false] at h hr
      rw [cond_false]
      by_cases k3 : 3 < (b.toNat : Int)
      · rw [iLt_t k3, cond_true] at h hr ⊢
        dsimp only at h
        have e1 := rdN_err h
        obtain ⟨i1, j1⟩ := rdN_inv' (l := t) e1
        rw [e1] at h
        obtain ⟨i2, j2⟩ := rdN_inv' (l := (rdN t 0).2.2) h
        rw [e1] at hr ⊢
        have ⟨_, ha, hbb, _⟩ := hr
        generalize (rdN (rdN t 0).2.2 0) = r2 at *
        generalize (rdN t 0) = r1 at *
        obtain ⟨x1, n1, t1⟩ := r1
        obtain ⟨x2, n2, t2⟩ := r2
        unfold putN capN at *
        dsimp only at *
        rw [if_pos k3, Int.toNat_natCast, hu, show ((min n1 2147483648 : Nat) : Int).toNat = n1 by omega, show ((min n2 2147483648 : Nat) : Int).toNat = n2 by omega, List.cons_append, List.append_assoc, ← i2, ← i1]
      · rw [iLt_f (by omega), cond_false] at h hr ⊢
        dsimp only at h
        obtain ⟨i1, j1⟩ := rdN_inv' (l := t) h
        have ⟨_, ha, hbb, _⟩ := hr
        generalize (rdN t 0) = r1 at *
        obtain ⟨x1, n1, t1⟩ := r1
        unfold putN capN at *
        dsimp only at *
        rw [if_neg k3, Int.toNat_natCast, hu, show ((min n1 2147483648 : Nat) : Int).toNat = n1 by omega, List.append_nil, List.cons_append, ← i1]
theorem rdNeeds_inv : ∀ (n : Nat) (l : List UInt8) (acc : List T_api_Need), (rdNeeds n l acc).2.1 = 0 → (∀ x ∈ (rdNeeds n l acc).1, RngN x) → ∃ L, (rdNeeds n l acc).1 = acc ++ L ∧ L.length = n ∧ l = L.flatMap putN ++ (rdNeeds n l acc).2.2
  | 0, l, acc, h, hr => ⟨[], by simp [rdNeeds]⟩
  | n + 1, l, acc, h, hr => by
    rw [rdNeeds] at h hr ⊢
    by_cases he : (rdNeed l).2.1 = 0
    · rw [iEq_t he, cond_true] at h hr ⊢
      obtain ⟨L, h1, h2, h3⟩ := rdNeeds_inv n _ _ h hr
      have hd : RngN (rdNeed l).1 := hr _ (by rw [h1]; simp)
      refine ⟨(rdNeed l).1 :: L, by rw [h1]; simp, by simp [h2], ?_⟩
      rw [List.flatMap_cons, List.append_assoc, ← h3]
      exact rdNeed_inv he hd
    · rw [iEq_f he, cond_false] at h
      exact absurd h he
theorem rdM_inv {l : List UInt8} (h : (rdM l).2.1 = 0) : l = numL (rdM l).1 ++ (rdM l).2.2 := by
  unfold rdM at h ⊢
  by_cases h4 : 4 < ((rdN l 0).2.1 : Int)
  · rw [iLt_t h4, cond_true] at h; exact absurd h (by decide : (4 : Int) ≠ 0)
  · rw [iLt_f (by omega), cond_false] at h ⊢
    exact (rdN_inv' h).1
theorem rdWay_inv {l : List UInt8} (h : (rdWay l).2.1 = 0) (hr : ∀ x ∈ (rdWay l).1, RngN x) : l = putW (rdWay l).1 ++ (rdWay l).2.2 := by
  unfold rdWay at h hr ⊢
  by_cases he : (rdM l).2.1 = 0
  · rw [iEq_t he, cond_true] at h hr ⊢
    obtain ⟨L, h1, h2, h3⟩ := rdNeeds_inv _ _ _ h hr
    unfold putW
    rw [h1, List.nil_append, h2, List.append_assoc, ← h3]
    exact rdM_inv he
  · rw [iEq_f he, cond_false] at h; exact absurd h he
theorem rdWays_inv : ∀ (n : Nat) (l : List UInt8) (acc : List (List T_api_Need)), (rdWays n l acc).2.1 = 0 → (∀ w ∈ (rdWays n l acc).1, ∀ x ∈ w, RngN x) → ∃ L, (rdWays n l acc).1 = acc ++ L ∧ L.length = n ∧ l = L.flatMap putW ++ (rdWays n l acc).2.2
  | 0, l, acc, h, hr => ⟨[], by simp [rdWays]⟩
  | n + 1, l, acc, h, hr => by
    rw [rdWays] at h hr ⊢
    by_cases he : (rdWay l).2.1 = 0
    · rw [iEq_t he, cond_true] at h hr ⊢
      obtain ⟨L, h1, h2, h3⟩ := rdWays_inv n _ _ h hr
      have hd : ∀ x ∈ (rdWay l).1, RngN x := hr _ (by rw [h1]; simp)
      refine ⟨(rdWay l).1 :: L, by rw [h1]; simp, by simp [h2], ?_⟩
      rw [List.flatMap_cons, List.append_assoc, ← h3]
      exact rdWay_inv he hd
    · rw [iEq_f he, cond_false] at h
      exact absurd h he
theorem getNs_inv {L : List T_api_Decl} (hL : (chkL L).2 = 0) {l : List UInt8} (h : (getNs L l).2.1 = 0) : chkW L (getNs L l).1 = 0 ∧ l = putWs (getNs L l).1 ++ (getNs L l).2.2 := by
  unfold getNs at h ⊢
  by_cases a1 : (rdM l).2.1 = 0
  · rw [iEq_t a1, cond_true] at h ⊢
    by_cases a3 : (rdWays (rdM l).1 (rdM l).2.2 []).2.1 = 0
    · rw [iEq_t a3, cond_true] at h ⊢
      by_cases a4 : chkW L (rdWays (rdM l).1 (rdM l).2.2 []).1 = 0
      · rw [iEq_t a4, cond_true]
        refine ⟨a4, ?_⟩
        have g := GoodW.of hL a4
        obtain ⟨M, h1, h2, h3⟩ := rdWays_inv _ _ _ a3 fun w hw => (g.ways w hw).2
        dsimp only
        unfold putWs
        rw [h1, List.nil_append, h2, List.append_assoc, ← h3]
        exact rdM_inv a1
      · rw [iEq_f a4, cond_false] at h; exact absurd h a4
    · rw [iEq_f a3, cond_false] at h; exact absurd h a3
  · rw [iEq_f a1, cond_false] at h; exact absurd h a1
theorem getNs_err {L : List T_api_Decl} {l : List UInt8} (h : (getNs L l).2.1 ≠ 0) : (getNs L l).1 = [] := by
  unfold getNs at h ⊢
  by_cases a1 : (rdM l).2.1 = 0
  · rw [iEq_t a1, cond_true] at h ⊢
    by_cases a3 : (rdWays (rdM l).1 (rdM l).2.2 []).2.1 = 0
    · rw [iEq_t a3, cond_true] at h ⊢
      by_cases a4 : chkW L (rdWays (rdM l).1 (rdM l).2.2 []).1 = 0
      · rw [iEq_t a4, cond_true] at h; exact absurd rfl h
      · rw [iEq_f a4, cond_false]
    · rw [iEq_f a3, cond_false]
  · rw [iEq_f a1, cond_false]
end LJ
end

/- Plain laws of programs: what is wrong with one, its copy, its bytes. -/
section
namespace LJ
open Go Go.RowKit
set_option linter.unusedVariables false
set_option linter.unusedSimpArgs false

def first {α : Type} (f : α → Int) : List α → Int
  | [] => 0
  | x :: t => cond (iNe (f x) 0) (f x) (first f t)
theorem first_ok {α : Type} {f : α → Int} : ∀ {l : List α}, first f l = 0 → ∀ x ∈ l, f x = 0
  | [], h => fun x hx => by cases hx
  | y :: t, h => by
    unfold first at h
    by_cases hy : f y = 0
    · rw [iNe_f hy, cond_false] at h
      intro x hx
      rcases List.mem_cons.1 hx with rfl | hx
      · exact hy
      · exact first_ok h x hx
    · rw [iNe_t hy, cond_true] at h; exact absurd h hy
def chkFn (F : T_api_Func) : Int := cond ((iLt F.Args 0 || iLt F.Locals F.Args) || iLt 8 F.Locals) 1 (cond (iEq (F.Code.length : Int) 0) 2 (cond (iLt 200 (F.Code.length : Int)) 4 (first chkI F.Code)))
def chkP (p : T_api_Program) : Int :=
  cond (iNe (chkL p.Decls).2 0) (chkL p.Decls).2 (cond (iLt 32 (p.Waits.length : Int)) 4 (cond (iNe (first (chkW p.Decls) p.Waits) 0) (first (chkW p.Decls) p.Waits)
    (cond (iEq (p.Funcs.length : Int) 0) 2 (cond (iLt 16 (p.Funcs.length : Int)) 4 (first chkFn p.Funcs)))))
theorem pfn_l5 (F : T_api_Func) (hF : F.Code.length ≤ 200) : ∀ (n i f : Nat), i + n = F.Code.length → n < f → prog_function_l5 F f (i : Int) = some (first chkI (F.Code.drop i))
  | n, i, 0, hi, hf => by omega
  | 0, i, f + 1, hi, hf => by rw [prog_function_l5, iLt_f (by omega), cond_false, List.drop_eq_nil_of_le (by omega)]; rfl
  | n + 1, i, f + 1, hi, hf => by
    rw [prog_function_l5, iLt_t (by omega), cond_true, need_of (nIn_of ⟨by omega, by omega⟩), Int.toNat_natCast, ins_Check_eq, bind_some', w64 (by omega), show (i : Int) + 1 = ((i + 1 : Nat) : Int) by omega, pfn_l5 F hF n (i + 1) f (by omega) (by omega), getD_drop _ i (by omega), first, cond_some]
theorem rfn_l5 (F : T_api_Func) (hF : F.Code.length ≤ 200) : ∀ (n i f : Nat), i + n = F.Code.length → n < f → ref10_function_l5 F f (i : Int) = some (first chkI (F.Code.drop i))
  | n, i, 0, hi, hf => by omega
  | 0, i, f + 1, hi, hf => by rw [ref10_function_l5, iLt_f (by omega), cond_false, List.drop_eq_nil_of_le (by omega)]; rfl
  | n + 1, i, f + 1, hi, hf => by
    rw [ref10_function_l5, iLt_t (by omega), cond_true, need_of (nIn_of ⟨by omega, by omega⟩), Int.toNat_natCast, ref07_Check_eq, bind_some', w64 (by omega), show (i : Int) + 1 = ((i + 1 : Nat) : Int) by omega, rfn_l5 F hF n (i + 1) f (by omega) (by omega), getD_drop _ i (by omega), first, cond_some]
theorem prog_function_eq (F : T_api_Func) : prog_function F = some (chkFn F) := by
  unfold prog_function chkFn
  by_cases h : 200 < (F.Code.length : Int)
  · rw [iLt_t h, cond_true, cond_true, cond_some, cond_some]
  · have h' : iLt 200 (F.Code.length : Int) = false := iLt_f (by omega)
    have hl := pfn_l5 F (by omega) F.Code.length 0 fuel (by omega) (by have := fuel_big; omega)
    rw [List.drop_zero] at hl
    have hl' : prog_function_l5 F fuel 0 = some (first chkI F.Code) := hl
    rw [h', cond_false, cond_false, hl', cond_some, cond_some]
theorem ref10_function_eq (F : T_api_Func) : ref10_function F = some (chkFn F) := by
  unfold ref10_function chkFn
  by_cases h : 200 < (F.Code.length : Int)
  · rw [iLt_t h, cond_true, cond_true, cond_some, cond_some]
  · have h' : iLt 200 (F.Code.length : Int) = false := iLt_f (by omega)
    have hl := rfn_l5 F (by omega) F.Code.length 0 fuel (by omega) (by have := fuel_big; omega)
    rw [List.drop_zero] at hl
    have hl' : ref10_function_l5 F fuel 0 = some (first chkI F.Code) := hl
    rw [h', cond_false, cond_false, hl', cond_some, cond_some]
theorem pck_l13 (p : T_api_Program) (hF : p.Funcs.length ≤ 16) : ∀ (n i f : Nat), i + n = p.Funcs.length → n < f → prog_Check_l13 p f (i : Int) = some (first chkFn (p.Funcs.drop i))
  | n, i, 0, hi, hf => by omega
  | 0, i, f + 1, hi, hf => by rw [prog_Check_l13, iLt_f (by omega), cond_false, List.drop_eq_nil_of_le (by omega)]; rfl
  | n + 1, i, f + 1, hi, hf => by
    rw [prog_Check_l13, iLt_t (by omega), cond_true, need_of (nIn_of ⟨by omega, by omega⟩), Int.toNat_natCast, prog_function_eq, bind_some', w64 (by omega), show (i : Int) + 1 = ((i + 1 : Nat) : Int) by omega, pck_l13 p hF n (i + 1) f (by omega) (by omega), getD_drop _ i (by omega), first, cond_some]
theorem rck_l13 (p : T_api_Program) (hF : p.Funcs.length ≤ 16) : ∀ (n i f : Nat), i + n = p.Funcs.length → n < f → ref10_Check_l13 p f (i : Int) = some (first chkFn (p.Funcs.drop i))
  | n, i, 0, hi, hf => by omega
  | 0, i, f + 1, hi, hf => by rw [ref10_Check_l13, iLt_f (by omega), cond_false, List.drop_eq_nil_of_le (by omega)]; rfl
  | n + 1, i, f + 1, hi, hf => by
    rw [ref10_Check_l13, iLt_t (by omega), cond_true, need_of (nIn_of ⟨by omega, by omega⟩), Int.toNat_natCast, ref10_function_eq, bind_some', w64 (by omega), show (i : Int) + 1 = ((i + 1 : Nat) : Int) by omega, rck_l13 p hF n (i + 1) f (by omega) (by omega), getD_drop _ i (by omega), first, cond_some]
def restP (p : T_api_Program) : Int := cond (iEq (p.Funcs.length : Int) 0) 2 (cond (iLt 16 (p.Funcs.length : Int)) 4 (first chkFn p.Funcs))
theorem pck_l5 (p : T_api_Program) (hD : p.Decls.length ≤ 32) (hW : p.Waits.length ≤ 32) : ∀ (n i f : Nat), i + n = p.Waits.length → n < f → prog_Check_l5 p f (i : Int) = some (cond (iNe (first (chkW p.Decls) (p.Waits.drop i)) 0) (first (chkW p.Decls) (p.Waits.drop i)) (restP p))
  | n, i, 0, hi, hf => by omega
  | 0, i, f + 1, hi, hf => by
    rw [prog_Check_l5, iLt_f (by omega), cond_false, List.drop_eq_nil_of_le (by omega), first, iNe_f rfl, cond_false]
    unfold restP
    by_cases h : 16 < (p.Funcs.length : Int)
    · rw [iLt_t h, cond_true, cond_true, cond_some]
    · have := pck_l13 p (by omega) p.Funcs.length 0 fuel (by omega) (by have := fuel_big; omega)
      rw [List.drop_zero] at this
      rw [iLt_f (by omega), cond_false, cond_false, show (0 : Int) = ((0 : Nat) : Int) from rfl, this, cond_some]
  | n + 1, i, f + 1, hi, hf => by
    rw [prog_Check_l5, iLt_t (by omega), cond_true, need_of (nIn_of ⟨by omega, by omega⟩), Int.toNat_natCast, need_Check_eq hD, bind_some', w64 (by omega), show (i : Int) + 1 = ((i + 1 : Nat) : Int) by omega, pck_l5 p hD hW n (i + 1) f (by omega) (by omega), getD_drop _ i (by omega), first]
    by_cases h : chkW p.Decls (p.Waits.getD i default) = 0
    · rw [iNe_f h, cond_false, cond_false]
    · rw [iNe_t h, cond_true, cond_true, iNe_t h, cond_true]
theorem rck_l5 (p : T_api_Program) (hW : p.Waits.length ≤ 32) : ∀ (n i f : Nat), i + n = p.Waits.length → n < f → ref10_Check_l5 p f (i : Int) = some (cond (iNe (first (chkW p.Decls) (p.Waits.drop i)) 0) (first (chkW p.Decls) (p.Waits.drop i)) (restP p))
  | n, i, 0, hi, hf => by omega
  | 0, i, f + 1, hi, hf => by
    rw [ref10_Check_l5, iLt_f (by omega), cond_false, List.drop_eq_nil_of_le (by omega), first, iNe_f rfl, cond_false]
    unfold restP
    by_cases h : 16 < (p.Funcs.length : Int)
    · rw [iLt_t h, cond_true, cond_true, cond_some]
    · have := rck_l13 p (by omega) p.Funcs.length 0 fuel (by omega) (by have := fuel_big; omega)
      rw [List.drop_zero] at this
      rw [iLt_f (by omega), cond_false, cond_false, show (0 : Int) = ((0 : Nat) : Int) from rfl, this, cond_some]
  | n + 1, i, f + 1, hi, hf => by
    rw [ref10_Check_l5, iLt_t (by omega), cond_true, need_of (nIn_of ⟨by omega, by omega⟩), Int.toNat_natCast, ref09_Check_eq, bind_some', w64 (by omega), show (i : Int) + 1 = ((i + 1 : Nat) : Int) by omega, rck_l5 p hW n (i + 1) f (by omega) (by omega), getD_drop _ i (by omega), first]
    by_cases h : chkW p.Decls (p.Waits.getD i default) = 0
    · rw [iNe_f h, cond_false, cond_false]
    · rw [iNe_t h, cond_true, cond_true, iNe_t h, cond_true]
theorem prog_Check_eq (p : T_api_Program) : prog_Check p = some (chkP p) := by
  unfold prog_Check chkP
  rw [decl_Check_eq, bind_some']
  by_cases hd : (chkL p.Decls).2 = 0
  · rw [iNe_f hd, cond_false, cond_false]
    by_cases h : 32 < (p.Waits.length : Int)
    · rw [iLt_t h]; rfl
    · rw [iLt_f (by omega), cond_false, cond_false, show (0 : Int) = ((0 : Nat) : Int) from rfl, pck_l5 p (chkL_len hd).1 (by omega) p.Waits.length 0 fuel (by omega) (by have := fuel_big; omega), List.drop_zero]
      rfl
  · rw [iNe_t hd]; rfl
theorem ref10_Check_eq (p : T_api_Program) : ref10_Check p = some (chkP p) := by
  unfold ref10_Check chkP
  rw [ref08_Check_eq, bind_some']
  by_cases hd : (chkL p.Decls).2 = 0
  · rw [iNe_f hd, cond_false, cond_false]
    by_cases h : 32 < (p.Waits.length : Int)
    · rw [iLt_t h]; rfl
    · rw [iLt_f (by omega), cond_false, cond_false, show (0 : Int) = ((0 : Nat) : Int) from rfl, rck_l5 p (by omega) p.Waits.length 0 fuel (by omega) (by have := fuel_big; omega), List.drop_zero]
      rfl
  · rw [iNe_t hd]; rfl
structure GoodF (F : T_api_Func) : Prop where
  args : 0 ≤ F.Args ∧ F.Args ≤ 8
  locals : 0 ≤ F.Locals ∧ F.Locals ≤ 8
  code : 1 ≤ F.Code.length ∧ F.Code.length ≤ 200
  ins : ∀ x ∈ F.Code, chkI x = 0
theorem GoodF.of {F : T_api_Func} (h : chkFn F = 0) : GoodF F := by
  unfold chkFn at h
  cases h1 : ((iLt F.Args 0 || iLt F.Locals F.Args) || iLt 8 F.Locals) with
  | true => rw [h1, cond_true] at h; cases h
  | false =>
    rw [h1, cond_false] at h
    simp only [Bool.or_eq_false_iff, iLt_iff'] at h1
    by_cases h2 : (F.Code.length : Int) = 0
    · rw [iEq_t h2, cond_true] at h; cases h
    · rw [iEq_f h2, cond_false] at h
      by_cases h3 : 200 < (F.Code.length : Int)
      · rw [iLt_t h3, cond_true] at h; cases h
      · rw [iLt_f (by omega), cond_false] at h
        exact ⟨by omega, by omega, by omega, first_ok h⟩
structure GoodP (p : T_api_Program) : Prop where
  decls : (chkL p.Decls).2 = 0
  waits : p.Waits.length ≤ 32 ∧ ∀ w ∈ p.Waits, chkW p.Decls w = 0
  funcs : 1 ≤ p.Funcs.length ∧ p.Funcs.length ≤ 16
  fns : ∀ F ∈ p.Funcs, GoodF F
theorem GoodP.of {p : T_api_Program} (h : chkP p = 0) : GoodP p := by
  unfold chkP at h
  by_cases hd : (chkL p.Decls).2 = 0
  · rw [iNe_f hd, cond_false] at h
    by_cases h1 : 32 < (p.Waits.length : Int)
    · rw [iLt_t h1, cond_true] at h; cases h
    · rw [iLt_f (by omega), cond_false] at h
      by_cases h2 : first (chkW p.Decls) p.Waits = 0
      · rw [iNe_f h2, cond_false] at h
        by_cases h3 : (p.Funcs.length : Int) = 0
        · rw [iEq_t h3, cond_true] at h; cases h
        · rw [iEq_f h3, cond_false] at h
          by_cases h4 : 16 < (p.Funcs.length : Int)
          · rw [iLt_t h4, cond_true] at h; cases h
          · rw [iLt_f (by omega), cond_false] at h
            exact ⟨hd, ⟨by omega, first_ok h2⟩, by omega, fun F hF => GoodF.of (first_ok h F hF)⟩
      · rw [iNe_t h2, cond_true] at h; exact absurd h h2
  · rw [iNe_t hd, cond_true] at h; exact absurd h hd

def ownW (W : List (List T_api_Need)) : List (List T_api_Need) := (W.take 6).map fun l => l.take 6
theorem own_l2 (W : List (List T_api_Need)) : ∀ (n i f : Nat) (acc : List (List T_api_Need)), i + n = min W.length 6 → n < f → acc.length = i → law09_Own_l2 W f ((i : Int), acc) = some (acc ++ ((W.take 6).drop i).map fun l => l.take 6)
  | n, i, 0, acc, hi, hf, ha => by omega
  | 0, i, f + 1, acc, hi, hf, ha => by
    rw [law09_Own_l2]
    dsimp only
    have : (iLt (i : Int) (W.length : Int) && iLt (i : Int) 6) = false := by
      rw [Bool.and_eq_false_iff, iLt_iff', iLt_iff']; omega
    rw [this, cond_false, List.drop_eq_nil_of_le (by simp; omega), List.map_nil, List.append_nil]
  | n + 1, i, f + 1, acc, hi, hf, ha => by
    rw [law09_Own_l2]
    dsimp only
    have hl : (W.take 6).drop i = W.getD i default :: (W.take 6).drop (i + 1) := by
      rw [getD_drop (W.take 6) i (by simp; omega)]
      congr 1
      rw [List.getD_eq_getElem?_getD, List.getD_eq_getElem?_getD, List.getElem?_take_of_lt (by omega)]
    rw [iLt_t (by omega), iLt_t (by omega), Bool.and_self, cond_true, need_of (nIn_of ⟨by omega, by omega⟩), w64 (by omega), show (i : Int) + 1 = ((i + 1 : Nat) : Int) by omega, Int.toNat_natCast, hl, List.map_cons]
    cases h6 : iLt 6 ((W.getD i default).length : Int) with
    | true =>
      rw [iLt_iff] at h6
      rw [cond_true, need_of (nSl_of ⟨by omega, by omega, by omega⟩), need_of (nCap_of (by simp; omega)), need_of (nCap_of (by simp; omega)), own_l2 W n (i + 1) f _ (by omega) (by omega) (by simp [ha])]
      simp
    | false =>
      rw [iLt_iff'] at h6
      rw [cond_false, need_of (nCap_of (by rw [List.length_nil]; omega)), need_of (nCap_of (by simp; omega)), own_l2 W n (i + 1) f _ (by omega) (by omega) (by simp [ha])]
      rw [List.take_of_length_le (l := W.getD i default) (by omega)]
      simp
theorem own09 (W : List (List T_api_Need)) : law09_Own W = some (ownW W) := by
  unfold law09_Own
  have := own_l2 W (min W.length 6) 0 fuel [] (by omega) (by have := fuel_big; omega) rfl
  rw [show (0 : Int) = ((0 : Nat) : Int) from rfl, this]
  rfl
theorem own_own (W : List (List T_api_Need)) : ownW (ownW W) = ownW W := by
  unfold ownW
  rw [List.take_of_length_le (by rw [List.length_map, List.length_take]; omega), List.map_map]
  refine List.map_congr_left fun l _ => ?_
  show (l.take 6).take 6 = l.take 6
  rw [List.take_take, Nat.min_self]
theorem own_good {W : List (List T_api_Need)} (g : GoodW W) : ownW W = W := by
  unfold ownW
  rw [List.take_of_length_le (by have := g.len; omega)]
  refine Eq.trans (List.map_congr_left (g := id) fun l hl => ?_) (List.map_id W)
  exact List.take_of_length_le (by have := (g.ways l hl).1; omega)
def ownF (F : T_api_Func) : T_api_Func := ⟨F.Args, F.Locals, F.Code.take 250⟩
def ownP (p : T_api_Program) : T_api_Program := ⟨p.Decls.take 40, (p.Waits.take 40).map ownW, (p.Funcs.take 20).map ownF⟩
theorem take_drop {α : Type} [Inhabited α] (L : List α) (m i : Nat) (h : i < L.length) (hm : i < m) : (L.take m).drop i = L.getD i default :: (L.take m).drop (i + 1) := by
  rw [getD_drop (L.take m) i (by simp; omega)]
  congr 1
  rw [List.getD_eq_getElem?_getD, List.getD_eq_getElem?_getD, List.getElem?_take_of_lt hm]
theorem op_l19 {p : T_api_Program} {k : Nat} {G : List T_api_Func} {K : List T_api_Func → Option T_api_Program} (hk : k < p.Funcs.length) (hG : G.length ≤ 20) : ∀ (n i f : Nat) (acc : List T_api_Ins), i + n = min (p.Funcs.getD k default).Code.length 250 → n < f → acc.length = i →
    law10_Own_l19 p ((k : Int), G) K f ((i : Int), acc) = K (G ++ [⟨(p.Funcs.getD k default).Args, (p.Funcs.getD k default).Locals, acc ++ ((p.Funcs.getD k default).Code.take 250).drop i⟩])
  | n, i, 0, acc, hi, hf, ha => by omega
  | 0, i, f + 1, acc, hi, hf, ha => by
    rw [law10_Own_l19]
    dsimp only
    rw [need_of (nIn_of ⟨by omega, by omega⟩), Int.toNat_natCast]
    have : (iLt (i : Int) ((p.Funcs.getD k default).Code.length : Int) && iLt (i : Int) 250) = false := by
      rw [Bool.and_eq_false_iff, iLt_iff', iLt_iff']; omega
    rw [this, cond_false, need_of (nCap_of (by simp only [List.length_append, List.length_cons, List.length_nil]; omega)), List.drop_eq_nil_of_le (by rw [List.length_take]; omega), List.append_nil]
  | n + 1, i, f + 1, acc, hi, hf, ha => by
    rw [law10_Own_l19]
    dsimp only
    rw [need_of (nIn_of ⟨by omega, by omega⟩), Int.toNat_natCast, iLt_t (by omega), iLt_t (by omega), Bool.and_self, cond_true, need_of (nIn_of ⟨by omega, by omega⟩), need_of (nIn_of ⟨by omega, by omega⟩), need_of (nCap_of (by simp only [List.length_append, List.length_cons, List.length_nil]; omega)), w64 (by omega), show (i : Int) + 1 = ((i + 1 : Nat) : Int) by omega, op_l19 hk hG n (i + 1) f _ (by omega) (by omega) (by simp; omega), take_drop _ 250 i (by omega) (by omega), Int.toNat_natCast]
    simp
theorem op_l11 (p : T_api_Program) (D : List T_api_Decl) (W : List (List (List T_api_Need))) (x y : Int) : ∀ (n i f : Nat) (acc : List T_api_Func), i + n = min p.Funcs.length 20 → n < f → acc.length = i →
    law10_Own_l11 p (x, D) (y, W) f ((i : Int), acc) = some ⟨D, W, acc ++ ((p.Funcs.take 20).drop i).map ownF⟩
  | n, i, 0, acc, hi, hf, ha => by omega
  | 0, i, f + 1, acc, hi, hf, ha => by
    rw [law10_Own_l11]
    dsimp only
    have : (iLt (i : Int) (p.Funcs.length : Int) && iLt (i : Int) 20) = false := by
      rw [Bool.and_eq_false_iff, iLt_iff', iLt_iff']; omega
    rw [this, cond_false, List.drop_eq_nil_of_le (by rw [List.length_take]; omega), List.map_nil, List.append_nil]
  | n + 1, i, f + 1, acc, hi, hf, ha => by
    rw [law10_Own_l11]
    dsimp only
    have hN : nIn (i : Int) (p.Funcs.length : Int) = true := nIn_of ⟨by omega, by omega⟩
    rw [iLt_t (by omega), iLt_t (by omega), Bool.and_self, cond_true, withK_eq, need_of hN, need_of hN, take_drop _ 20 i (by omega) (by omega), List.map_cons]
    have := op_l19 (p := p) (k := i) (G := acc) (K := fun s14 => law10_Own_l11 p (x, D) (y, W) f (IntKind.i64.wrap ((i : Int) + 1), s14)) (by omega) (by omega) (min (p.Funcs.getD i default).Code.length 250) 0 fuel [] (by omega) (by have := fuel_big; omega) rfl
    refine Eq.trans this ?_
    rw [w64 (by omega), show (i : Int) + 1 = ((i + 1 : Nat) : Int) by omega, op_l11 p D W x y n (i + 1) f _ (by omega) (by omega) (by simp; omega)]
    simp [ownF]
theorem op_l7 (p : T_api_Program) (D : List T_api_Decl) (x : Int) : ∀ (n i f : Nat) (acc : List (List (List T_api_Need))), i + n = min p.Waits.length 40 → n < f → acc.length = i →
    law10_Own_l7 p (x, D) f ((i : Int), acc) = some ⟨D, acc ++ ((p.Waits.take 40).drop i).map ownW, (p.Funcs.take 20).map ownF⟩
  | n, i, 0, acc, hi, hf, ha => by omega
  | 0, i, f + 1, acc, hi, hf, ha => by
    rw [law10_Own_l7]
    dsimp only
    have : (iLt (i : Int) (p.Waits.length : Int) && iLt (i : Int) 40) = false := by
      rw [Bool.and_eq_false_iff, iLt_iff', iLt_iff']; omega
    rw [this, cond_false, List.drop_eq_nil_of_le (by rw [List.length_take]; omega), List.map_nil, List.append_nil]
    have h := op_l11 p D acc x (i : Int) (min p.Funcs.length 20) 0 fuel [] (by omega) (by have := fuel_big; omega) rfl
    rw [List.drop_zero, List.nil_append] at h
    exact h
  | n + 1, i, f + 1, acc, hi, hf, ha => by
    rw [law10_Own_l7]
    dsimp only
    rw [iLt_t (by omega), iLt_t (by omega), Bool.and_self, cond_true, need_of (nIn_of ⟨by omega, by omega⟩), Int.toNat_natCast, own09, bind_some', need_of (nCap_of (by simp only [List.length_append, List.length_cons, List.length_nil]; omega)), w64 (by omega), show (i : Int) + 1 = ((i + 1 : Nat) : Int) by omega, op_l7 p D x n (i + 1) f _ (by omega) (by omega) (by simp; omega), take_drop _ 40 i (by omega) (by omega), List.map_cons]
    simp
theorem op_l3 (p : T_api_Program) : ∀ (n i f : Nat) (acc : List T_api_Decl), i + n = min p.Decls.length 40 → n < f → acc.length = i →
    law10_Own_l3 p f ((i : Int), acc) = some ⟨acc ++ (p.Decls.take 40).drop i, (p.Waits.take 40).map ownW, (p.Funcs.take 20).map ownF⟩
  | n, i, 0, acc, hi, hf, ha => by omega
  | 0, i, f + 1, acc, hi, hf, ha => by
    rw [law10_Own_l3]
    dsimp only
    have : (iLt (i : Int) (p.Decls.length : Int) && iLt (i : Int) 40) = false := by
      rw [Bool.and_eq_false_iff, iLt_iff', iLt_iff']; omega
    rw [this, cond_false, List.drop_eq_nil_of_le (by rw [List.length_take]; omega), List.append_nil]
    have h := op_l7 p acc (i : Int) (min p.Waits.length 40) 0 fuel [] (by omega) (by have := fuel_big; omega) rfl
    rw [List.drop_zero, List.nil_append] at h
    exact h
  | n + 1, i, f + 1, acc, hi, hf, ha => by
    rw [law10_Own_l3]
    dsimp only
    rw [iLt_t (by omega), iLt_t (by omega), Bool.and_self, cond_true, need_of (nIn_of ⟨by omega, by omega⟩), Int.toNat_natCast, need_of (nCap_of (by simp only [List.length_append, List.length_cons, List.length_nil]; omega)), w64 (by omega), show (i : Int) + 1 = ((i + 1 : Nat) : Int) by omega, op_l3 p n (i + 1) f _ (by omega) (by omega) (by simp; omega), take_drop _ 40 i (by omega) (by omega)]
    simp
theorem own10 (p : T_api_Program) : law10_Own p = some (ownP p) := by
  unfold law10_Own
  have h := op_l3 p (min p.Decls.length 40) 0 fuel [] (by omega) (by have := fuel_big; omega) rfl
  rw [List.drop_zero, List.nil_append] at h
  exact h
theorem ownP_own (p : T_api_Program) : ownP (ownP p) = ownP p := by
  unfold ownP
  dsimp only
  congr 1
  · rw [List.take_take, Nat.min_self]
  · rw [List.take_of_length_le (by rw [List.length_map, List.length_take]; omega), List.map_map]
    exact List.map_congr_left fun l _ => own_own l
  · rw [List.take_of_length_le (by rw [List.length_map, List.length_take]; omega), List.map_map]
    refine List.map_congr_left fun F _ => ?_
    show (⟨F.Args, F.Locals, (F.Code.take 250).take 250⟩ : T_api_Func) = ⟨F.Args, F.Locals, F.Code.take 250⟩
    rw [List.take_take, Nat.min_self]
theorem ownP_good {p : T_api_Program} (g : GoodP p) : ownP p = p := by
  obtain ⟨D, W, F⟩ := p
  have g1 := (chkL_len g.decls).1
  have g2 := g.waits
  have g3 := g.funcs
  have g4 := g.fns
  have g0 := g.decls
  dsimp only at *
  unfold ownP
  dsimp only
  congr 1
  · exact List.take_of_length_le (by omega)
  · rw [List.take_of_length_le (by omega)]
    refine Eq.trans (List.map_congr_left (g := id) fun w hw => ?_) (List.map_id W)
    exact own_good (GoodW.of g0 (g2.2 w hw))
  · rw [List.take_of_length_le (by omega)]
    refine Eq.trans (List.map_congr_left (g := id) fun f hf => ?_) (List.map_id F)
    have := (g4 f hf).code
    unfold ownF
    rw [List.take_of_length_le (by omega)]
    rfl
end LJ
end

/- Plain laws of programs: the bytes. -/
section
namespace LJ
open Go Go.RowKit
set_option linter.unusedVariables false
set_option linter.unusedSimpArgs false

theorem lives10 : law10_lives = some true := by decide +kernel
theorem WS_eq (u : Bool) (b s : ByteArray) : strings_Builder_WriteString ⟨u, b⟩ s = need (nCap (b.size + s.size)) (some ((s.size : Int), (), (⟨true, b ++ s⟩ : T_strings_Builder))) := by
  unfold strings_Builder_WriteString strings_Builder_copyCheck
  cases u <;> rfl
theorem prog_num_eq {n : Int} (h0 : 0 ≤ n) (h : n < 18446744073709551616) : prog_num n = some (bs (numL n.toNat)) := by
  unfold prog_num
  have := numL_len10 (n := n.toNat) (by omega)
  rw [wu64 (by omega), Out_Num' h0 (by omega) (by simp; omega), bind_some']
  unfold octet_Out_Done
  rw [bind_some']
  exact congrArg some (bl_inj (by simp))
def putF (F : T_api_Func) : List UInt8 := numL F.Args.toNat ++ (numL F.Locals.toNat ++ (numL F.Code.length ++ F.Code.flatMap putI))
def headP : List UInt8 := [76, 74, 1]
def putP (p : T_api_Program) : List UInt8 := headP ++ (putDs p.Decls ++ (numL p.Waits.length ++ (p.Waits.flatMap putWs ++ (numL p.Funcs.length ++ p.Funcs.flatMap putF))))
theorem putCode_len {F : T_api_Func} (h : GoodF F) : (F.Code.flatMap putI).length ≤ 4200 := by
  have := flat_len putI 21 (fun x hx => putI_len (chkI_ok (h.ins x hx)))
  have := h.code
  omega
theorem putF_len {F : T_api_Func} (h : GoodF F) : (putF F).length ≤ 4230 := by
  have := putCode_len h
  have ⟨h1, h2, h3, h4⟩ := h
  have := numL_len10 (n := F.Args.toNat) (by omega)
  have := numL_len10 (n := F.Locals.toNat) (by omega)
  have := numL_len10 (n := F.Code.length) (by omega)
  unfold putF
  simp only [List.length_append]
  omega
theorem GoodP.wait {p : T_api_Program} (h : GoodP p) : ∀ w ∈ p.Waits, GoodW w := fun w hw => GoodW.of h.decls (h.waits.2 w hw)
theorem putP_len {p : T_api_Program} (h : GoodP p) : (putP p).length ≤ 100000 := by
  have d := chkL_ok h.decls
  have := putDs_len d.1 d.2.2.2
  have := flat_len putF 4230 (fun x hx => putF_len (h.fns x hx))
  have := flat_len putWs 386 (fun x hx => putWs_len (h.wait x hx))
  have h1 := h.funcs
  have h2 := h.waits.1
  have := numL_len10 (n := p.Waits.length) (by omega)
  have := numL_len10 (n := p.Funcs.length) (by omega)
  unfold putP headP
  simp only [List.length_append, List.length_cons, List.length_nil]
  omega
theorem getD_mem {α : Type} [Inhabited α] (L : List α) (i : Nat) (h : i < L.length) : L.getD i default ∈ L := by
  rw [List.getD_eq_getElem?_getD, List.getElem?_eq_getElem (by omega)]
  exact List.getElem_mem _
theorem r10_l26 {p : T_api_Program} {s : ByteArray × Int} {K : ByteArray → Option ByteArray} {F : T_api_Func} (hF : p.Funcs.getD s.2.toNat default = F) (hs : nIn s.2 (p.Funcs.length : Int) = true) (g : GoodF F) : ∀ (n i f : Nat) (b : ByteArray), i + n = F.Code.length → n < f → b.size + 21 * n ≤ 1000000 →
    ref10_Put_l26 p s K f (b, (i : Int)) = K (b ++ bs ((F.Code.drop i).flatMap putI))
  | n, i, 0, b, hi, hf, hb => by omega
  | 0, i, f + 1, b, hi, hf, hb => by
    rw [ref10_Put_l26]
    dsimp only
    rw [hF, iLt_f (by omega), cond_false, List.drop_eq_nil_of_le (by omega)]
    congr 1
    apply bl_inj
    simp
  | n + 1, i, f + 1, b, hi, hf, hb => by
    have hx := g.ins _ (getD_mem F.Code i (by omega))
    have hl := putI_len (chkI_ok hx)
    have hc := g.code
    rw [ref10_Put_l26]
    dsimp only
    rw [hF, iLt_t (by omega), cond_true, need_of (nIn_of ⟨by omega, by omega⟩), Int.toNat_natCast, ref07_Put_ok hx, bind_some', need_of (nStr_of (by rw [bs_size]; omega)), w64 (by omega), show (i : Int) + 1 = ((i + 1 : Nat) : Int) by omega]
    rw [r10_l26 hF hs g n (i + 1) f _ (by omega) (by omega) (by rw [ByteArray.size_append, bs_size]; omega), getD_drop F.Code i (by omega), List.flatMap_cons]
    congr 1
    apply bl_inj
    simp
theorem r10_l14 {p : T_api_Program} (g : GoodP p) : ∀ (n i f : Nat) (b : ByteArray), i + n = p.Funcs.length → n < f → b.size + 4230 * n ≤ 500000 →
    ref10_Put_l14 p f (b, (i : Int)) = some (b ++ bs ((p.Funcs.drop i).flatMap putF))
  | n, i, 0, b, hi, hf, hb => by omega
  | 0, i, f + 1, b, hi, hf, hb => by
    rw [ref10_Put_l14]
    dsimp only
    rw [iLt_f (by omega), cond_false, List.drop_eq_nil_of_le (by omega)]
    congr 1
    apply bl_inj
    simp
  | n + 1, i, f + 1, b, hi, hf, hb => by
    have gF := g.fns _ (getD_mem p.Funcs i (by omega))
    have hl := putF_len gF
    have h4 := putCode_len gF
    have hfs := g.funcs
    have hN : nIn (i : Int) (p.Funcs.length : Int) = true := nIn_of ⟨by omega, by omega⟩
    have ⟨h1, h2, h3, _⟩ := gF
    have l1 := numL_len10 (n := (p.Funcs.getD i default).Args.toNat) (by omega)
    have l2 := numL_len10 (n := (p.Funcs.getD i default).Locals.toNat) (by omega)
    have l3 := numL_len10 (n := (p.Funcs.getD i default).Code.length) (by omega)
    rw [ref10_Put_l14]
    dsimp only
    rw [iLt_t (by omega), cond_true, withK_eq, need_of hN, Int.toNat_natCast, wu64 (by omega), wu64 (by omega), wu64 (by omega), refNum' (by omega) (by omega), bind_some', need_of (nStr_of (by rw [bs_size]; omega)), refNum' (by omega) (by omega), bind_some', need_of (nStr_of (by simp only [ByteArray.size_append, bs_size]; omega)), refNum' (by omega) (by omega), bind_some', Int.toNat_natCast, need_of (nStr_of (by simp only [ByteArray.size_append, bs_size]; omega))]
    have := r10_l26 (p := p) (s := (b, (i : Int))) (K := fun s17 => ref10_Put_l14 p f (s17, IntKind.i64.wrap ((i : Int) + 1))) (F := p.Funcs.getD i default) (by rw [Int.toNat_natCast]) hN gF (p.Funcs.getD i default).Code.length 0 fuel (b ++ bs (numL (p.Funcs.getD i default).Args.toNat) ++ bs (numL (p.Funcs.getD i default).Locals.toNat) ++ bs (numL (p.Funcs.getD i default).Code.length)) (by omega) (by have := fuel_big; omega) (by simp only [ByteArray.size_append, bs_size]; omega)
    refine Eq.trans this ?_
    rw [List.drop_zero]
    rw [w64 (by omega), show (i : Int) + 1 = ((i + 1 : Nat) : Int) by omega, r10_l14 g n (i + 1) f _ (by omega) (by omega) (by simp only [ByteArray.size_append, bs_size]; omega), getD_drop p.Funcs i (by omega), List.flatMap_cons]
    congr 1
    apply bl_inj
    simp [putF]
theorem r10_l6 {p : T_api_Program} (g : GoodP p) : ∀ (n i f : Nat) (b : ByteArray), i + n = p.Waits.length → n < f → b.size + 386 * n ≤ 100000 →
    ref10_Put_l6 p f (b, (i : Int)) = some (b ++ bs ((p.Waits.drop i).flatMap putWs ++ (numL p.Funcs.length ++ p.Funcs.flatMap putF)))
  | n, i, 0, b, hi, hf, hb => by omega
  | 0, i, f + 1, b, hi, hf, hb => by
    have hfs := g.funcs
    have l1 := numL_len10 (n := p.Funcs.length) (by omega)
    rw [ref10_Put_l6]
    dsimp only
    rw [iLt_f (by omega), cond_false, wu64 (by omega), refNum' (by omega) (by omega), bind_some', Int.toNat_natCast, need_of (nStr_of (by simp only [ByteArray.size_append, bs_size]; omega)), List.drop_eq_nil_of_le (by omega), show (0 : Int) = ((0 : Nat) : Int) from rfl]
    rw [r10_l14 g p.Funcs.length 0 fuel _ (by omega) (by have := fuel_big; omega) (by simp only [ByteArray.size_append, bs_size]; omega), List.drop_zero]
    congr 1
    apply bl_inj
    simp
  | n + 1, i, f + 1, b, hi, hf, hb => by
    have hm := getD_mem p.Waits i (by omega)
    have hx := g.waits.2 _ hm
    have hl := putWs_len (g.wait _ hm)
    have hws := g.waits.1
    rw [ref10_Put_l6]
    dsimp only
    rw [iLt_t (by omega), cond_true, need_of (nIn_of ⟨by omega, by omega⟩), Int.toNat_natCast, ref09_Put_ok g.decls hx, bind_some', need_of (nStr_of (by rw [bs_size]; omega)), w64 (by omega), show (i : Int) + 1 = ((i + 1 : Nat) : Int) by omega]
    rw [r10_l6 g n (i + 1) f _ (by omega) (by omega) (by rw [ByteArray.size_append, bs_size]; omega), getD_drop p.Waits i (by omega), List.flatMap_cons]
    congr 1
    apply bl_inj
    simp
theorem ref10_Put_ok {p : T_api_Program} (h : chkP p = 0) : ref10_Put p = some (bs (putP p)) := by
  have g := GoodP.of h
  have d := chkL_ok g.decls
  have hd := putDs_len d.1 d.2.2.2
  have hw := g.waits.1
  have l1 := numL_len10 (n := p.Waits.length) (by omega)
  have h3 : (⟨#[76, 74, 1]⟩ : ByteArray) = bs [76, 74, 1] := rfl
  unfold ref10_Put
  rw [ref08_Put_ok g.decls, bind_some', h3, need_of (nStr_of (by simp only [ByteArray.size_append, bs_size, List.length_cons, List.length_nil]; omega)), wu64 (by omega), refNum' (by omega) (by omega), bind_some', Int.toNat_natCast, need_of (nStr_of (by simp only [ByteArray.size_append, bs_size, List.length_cons, List.length_nil]; omega)), show (0 : Int) = ((0 : Nat) : Int) from rfl]
  rw [r10_l6 g p.Waits.length 0 fuel _ (by omega) (by have := fuel_big; omega) (by simp only [ByteArray.size_append, bs_size, List.length_cons, List.length_nil]; omega), List.drop_zero]
  congr 1
  apply bl_inj
  simp [putP, headP]
theorem p10_l29 {p : T_api_Program} {s : Int × Bool × ByteArray} {K : (Bool × ByteArray) → Option (ByteArray × Int)} {F : T_api_Func} (hF : p.Funcs.getD s.1.toNat default = F) (g : GoodF F) : ∀ (n i f : Nat) (u : Bool) (b : ByteArray), i + n = F.Code.length → n < f → b.size + 21 * n ≤ 1000000 →
    ∃ u', prog_Put_l29 p s K f ((i : Int), u, b) = K (u', b ++ bs ((F.Code.drop i).flatMap putI))
  | n, i, 0, u, b, hi, hf, hb => by omega
  | 0, i, f + 1, u, b, hi, hf, hb => by
    refine ⟨u, ?_⟩
    rw [prog_Put_l29]
    dsimp only
    rw [hF, iLt_f (by omega), cond_false, List.drop_eq_nil_of_le (by omega)]
    congr 2
    apply bl_inj
    simp
  | n + 1, i, f + 1, u, b, hi, hf, hb => by
    have hx := g.ins _ (getD_mem F.Code i (by omega))
    have hl := putI_len (chkI_ok hx)
    have hc := g.code
    rw [prog_Put_l29]
    dsimp only
    rw [hF, iLt_t (by omega), cond_true, need_of (nIn_of ⟨by omega, by omega⟩), Int.toNat_natCast, ins_Put_ok hx, bind_some', WS_eq, need_of (nCap_of (by rw [bs_size]; omega)), bind_some', w64 (by omega), show (i : Int) + 1 = ((i + 1 : Nat) : Int) by omega]
    obtain ⟨u', hu⟩ := p10_l29 (p := p) (s := s) (K := K) hF g n (i + 1) f true (b ++ bs (putI (F.Code.getD i default))) (by omega) (by omega) (by rw [ByteArray.size_append, bs_size]; omega)
    refine ⟨u', Eq.trans hu ?_⟩
    rw [getD_drop F.Code i (by omega), List.flatMap_cons]
    congr 2
    apply bl_inj
    simp
theorem p10_l17 {p : T_api_Program} (g : GoodP p) : ∀ (n i f : Nat) (u : Bool) (b : ByteArray), i + n = p.Funcs.length → n < f → b.size + 4230 * n ≤ 500000 →
    prog_Put_l17 p f ((i : Int), u, b) = some (b ++ bs ((p.Funcs.drop i).flatMap putF), 0)
  | n, i, 0, u, b, hi, hf, hb => by omega
  | 0, i, f + 1, u, b, hi, hf, hb => by
    rw [prog_Put_l17]
    unfold strings_Builder_String
    dsimp only
    rw [iLt_f (by omega), cond_false, List.drop_eq_nil_of_le (by omega), bind_some']
    congr 2
    apply bl_inj
    simp
  | n + 1, i, f + 1, u, b, hi, hf, hb => by
    have gF := g.fns _ (getD_mem p.Funcs i (by omega))
    have hl := putF_len gF
    have h4 := putCode_len gF
    have hfs := g.funcs
    have hN : nIn (i : Int) (p.Funcs.length : Int) = true := nIn_of ⟨by omega, by omega⟩
    have ⟨h1, h2, h3, _⟩ := gF
    have l1 := numL_len10 (n := (p.Funcs.getD i default).Args.toNat) (by omega)
    have l2 := numL_len10 (n := (p.Funcs.getD i default).Locals.toNat) (by omega)
    have l3 := numL_len10 (n := (p.Funcs.getD i default).Code.length) (by omega)
    rw [prog_Put_l17]
    dsimp only
    rw [iLt_t (by omega), cond_true, withK_eq, need_of hN, Int.toNat_natCast, prog_num_eq (by omega) (by omega), bind_some', prog_num_eq (by omega) (by omega), bind_some', need_of (nStr_of (by simp only [ByteArray.size_append, bs_size]; omega)), prog_num_eq (by omega) (by omega), bind_some', Int.toNat_natCast, need_of (nStr_of (by simp only [ByteArray.size_append, bs_size]; omega)), WS_eq, need_of (nCap_of (by simp only [ByteArray.size_append, bs_size]; omega)), bind_some']
    obtain ⟨u', hu⟩ := p10_l29 (p := p) (s := ((i : Int), u, b)) (K := fun s20 => prog_Put_l17 p f (IntKind.i64.wrap ((i : Int) + 1), s20.1, s20.2)) (F := p.Funcs.getD i default) (by rw [Int.toNat_natCast]) gF (p.Funcs.getD i default).Code.length 0 fuel true (b ++ (bs (numL (p.Funcs.getD i default).Args.toNat) ++ bs (numL (p.Funcs.getD i default).Locals.toNat) ++ bs (numL (p.Funcs.getD i default).Code.length))) (by omega) (by have := fuel_big; omega) (by simp only [ByteArray.size_append, bs_size]; omega)
    refine Eq.trans hu ?_
    rw [List.drop_zero]
    dsimp only
    rw [w64 (by omega), show (i : Int) + 1 = ((i + 1 : Nat) : Int) by omega, p10_l17 g n (i + 1) f u' _ (by omega) (by omega) (by simp only [ByteArray.size_append, bs_size]; omega), getD_drop p.Funcs i (by omega), List.flatMap_cons]
    congr 2
    apply bl_inj
    simp [putF]
theorem p10_l9 {p : T_api_Program} (g : GoodP p) : ∀ (n i f : Nat) (u : Bool) (b : ByteArray), i + n = p.Waits.length → n < f → b.size + 386 * n ≤ 100000 →
    prog_Put_l9 p f ((i : Int), u, b) = some (b ++ bs ((p.Waits.drop i).flatMap putWs ++ (numL p.Funcs.length ++ p.Funcs.flatMap putF)), 0)
  | n, i, 0, u, b, hi, hf, hb => by omega
  | 0, i, f + 1, u, b, hi, hf, hb => by
    have hfs := g.funcs
    have l1 := numL_len10 (n := p.Funcs.length) (by omega)
    rw [prog_Put_l9]
    dsimp only
    rw [iLt_f (by omega), cond_false, prog_num_eq (by omega) (by omega), bind_some', Int.toNat_natCast, WS_eq, need_of (nCap_of (by simp only [ByteArray.size_append, bs_size]; omega)), bind_some', List.drop_eq_nil_of_le (by omega), show prog_Put_l17 p fuel (0, _) = prog_Put_l17 p fuel (((0 : Nat) : Int), _) from rfl]
    rw [p10_l17 g p.Funcs.length 0 fuel _ _ (by omega) (by have := fuel_big; omega) (by simp only [ByteArray.size_append, bs_size]; omega), List.drop_zero]
    congr 2
    apply bl_inj
    simp
  | n + 1, i, f + 1, u, b, hi, hf, hb => by
    have hm := getD_mem p.Waits i (by omega)
    have hx := g.waits.2 _ hm
    have hl := putWs_len (g.wait _ hm)
    have hws := g.waits.1
    rw [prog_Put_l9]
    dsimp only
    rw [iLt_t (by omega), cond_true, need_of (nIn_of ⟨by omega, by omega⟩), Int.toNat_natCast, need_Put_ok g.decls hx, bind_some', WS_eq, need_of (nCap_of (by rw [bs_size]; omega)), bind_some', w64 (by omega), show (i : Int) + 1 = ((i + 1 : Nat) : Int) by omega]
    rw [p10_l9 g n (i + 1) f true _ (by omega) (by omega) (by rw [ByteArray.size_append, bs_size]; omega), getD_drop p.Waits i (by omega), List.flatMap_cons]
    congr 2
    apply bl_inj
    simp
theorem prog_Put_ok {p : T_api_Program} (h : chkP p = 0) : prog_Put p = some (bs (putP p), 0) := by
  have g := GoodP.of h
  have d := chkL_ok g.decls
  have hd := putDs_len d.1 d.2.2.2
  have hw := g.waits.1
  have l1 := numL_len10 (n := p.Waits.length) (by omega)
  have h3 : (⟨#[76, 74, 1]⟩ : ByteArray) = bs [76, 74, 1] := rfl
  unfold prog_Put
  rw [prog_Check_eq, bind_some', iNe_f h, cond_false, decl_Put_ok g.decls, bind_some', h3, need_of (nStr_of (by simp only [ByteArray.size_append, bs_size, List.length_cons, List.length_nil]; omega)), prog_num_eq (by omega) (by omega), bind_some', Int.toNat_natCast, need_of (nStr_of (by simp only [ByteArray.size_append, bs_size, List.length_cons, List.length_nil]; omega)), WS_eq, need_of (nCap_of (by simp only [ByteArray.size_append, bs_size, ByteArray.size_empty, List.length_cons, List.length_nil]; omega)), bind_some', show prog_Put_l9 p fuel (0, _) = prog_Put_l9 p fuel (((0 : Nat) : Int), _) from rfl]
  rw [p10_l9 g p.Waits.length 0 fuel _ _ (by omega) (by have := fuel_big; omega) (by simp only [ByteArray.size_append, bs_size, ByteArray.size_empty, List.length_cons, List.length_nil]; omega), List.drop_zero]
  congr 2
  apply bl_inj
  simp [putP, headP]
theorem prog_Put_bad {p : T_api_Program} (h : chkP p ≠ 0) : prog_Put p = some (ByteArray.empty, chkP p) := by
  unfold prog_Put
  rw [prog_Check_eq, bind_some', iNe_t h, cond_true]
theorem ProgChecks_pure (p : T_api_Program) : law10_ProgChecks p = some true := by
  unfold law10_ProgChecks
  simp only [own10, bind_some', ownP_own, ref10_Check_eq, prog_Check_eq, lives10]
  by_cases h : chkP (ownP p) = 0
  · rw [prog_Put_ok h, ref10_Put_ok h, h]
    simp only [bind_some']
    rw [iNe_f rfl, iEq_t rfl]
    simp only [Bool.false_and, Bool.or_self, cond_false, Bool.not_false, Bool.and_self, cond_true, bind_some', Bool.false_or, Bool.true_and]
    rw [sEq_t rfl]
    rfl
  · rw [prog_Put_bad h]
    simp only [bind_some']
    rw [iNe_f rfl, iNe_t h, iEq_f h, sEq_t rfl]
    rfl
end LJ
end

/- Plain laws of programs: reading. -/
section
namespace LJ
open Go Go.RowKit
set_option linter.unusedVariables false
set_option linter.unusedSimpArgs false

def sb {α β : Type} (x : Int ⊕ α) (k : α → Int ⊕ β) : Int ⊕ β := match x with
  | .inl e => .inl e
  | .inr y => k y
theorem sb_inl {α β : Type} (e : Int) (k : α → Int ⊕ β) : sb (.inl e : Int ⊕ α) k = .inl e := rfl
theorem sb_inr {α β : Type} (y : α) (k : α → Int ⊕ β) : sb (.inr y : Int ⊕ α) k = k y := rfl
theorem sb_sb {α β γ : Type} (x : Int ⊕ α) (f : α → Int ⊕ β) (g : β → Int ⊕ γ) : sb (sb x f) g = sb x fun y => sb (f y) g := by cases x <;> rfl
theorem sb_of {α β : Type} {x : Int ⊕ α} {k : α → Int ⊕ β} {z : β} (h : sb x k = .inr z) : ∃ y, x = .inr y ∧ k y = .inr z := by
  cases x with
  | inl e => cases h
  | inr y => exact ⟨y, rfl, h⟩
theorem pcase_inl {α β : Type} (e : Int) (k : β → Option (Int ⊕ α)) : pcase (.inl e : Int ⊕ β) k = some (.inl e) := rfl
theorem pcase_inr {α β : Type} (y : β) (k : β → Option (Int ⊕ α)) : pcase (.inr y : Int ⊕ β) k = k y := rfl
def two {α : Type} (r : α × Int × List UInt8) : Int ⊕ (α × List UInt8) := cond (iEq r.2.1 0) (.inr (r.1, r.2.2)) (.inl r.2.1)
theorem two_ok {α : Type} {r : α × Int × List UInt8} (h : r.2.1 = 0) : two r = .inr (r.1, r.2.2) := by unfold two; rw [iEq_t h, cond_true]
theorem two_err {α : Type} {r : α × Int × List UInt8} (h : r.2.1 ≠ 0) : two r = .inl r.2.1 := by unfold two; rw [iEq_f h, cond_false]
theorem two_inr {α : Type} {r : α × Int × List UInt8} {y : α × List UInt8} (h : two r = .inr y) : r.2.1 = 0 ∧ y = (r.1, r.2.2) := by
  by_cases h0 : r.2.1 = 0
  · rw [two_ok h0] at h; exact ⟨h0, (Sum.inr.inj h).symm⟩
  · rw [two_err h0] at h; cases h
theorem two_inl {α : Type} {r : α × Int × List UInt8} {e : Int} (h : two r = .inl e) : r.2.1 = e ∧ e ≠ 0 := by
  by_cases h0 : r.2.1 = 0
  · rw [two_ok h0] at h; cases h
  · rw [two_err h0] at h; have := Sum.inl.inj h; exact ⟨this, this ▸ h0⟩
def numP (l : List UInt8) : Int ⊕ (Nat × List UInt8) := two ((rdN l 0).2.1, (rdN l 0).1, (rdN l 0).2.2)
def manyP (m : Nat) (l : List UInt8) : Int ⊕ (Nat × List UInt8) := sb (numP l) fun r => cond (iLt (m : Int) (r.1 : Int)) (.inl 4) (.inr r)
def gI (l : List UInt8) : Int ⊕ (T_api_Ins × List UInt8) := two (getI l)
def gW (D : List T_api_Decl) (l : List UInt8) : Int ⊕ (List (List T_api_Need) × List UInt8) := two (getNs D l)
def gD (l : List UInt8) : Int ⊕ (List T_api_Decl × List UInt8) := two (getDs l)
def repP {α : Type} (g : List UInt8 → Int ⊕ (α × List UInt8)) : Nat → List UInt8 → List α → Int ⊕ (List α × List UInt8)
  | 0, l, acc => .inr (acc, l)
  | n + 1, l, acc => sb (g l) fun r => repP g n r.2 (acc ++ [r.1])
def cap (n : Nat) : Int := ((min n 2147483648 : Nat) : Int)
def fnP (l : List UInt8) : Int ⊕ (T_api_Func × List UInt8) := sb (numP l) fun a => sb (numP a.2) fun b => sb (manyP 200 b.2) fun n => sb (repP gI n.1 n.2 []) fun c => .inr (⟨cap a.1, cap b.1, c.1⟩, c.2)
def progK {β : Type} (K : T_api_Program × List UInt8 → Int ⊕ β) (l : List UInt8) : Int ⊕ β := sb (gD l) fun d => sb (manyP 32 d.2) fun n => sb (repP (gW d.1) n.1 n.2 []) fun w => sb (manyP 16 w.2) fun m => sb (repP fnP m.1 m.2 []) fun f => K (⟨d.1, w.1, f.1⟩, f.2)
def progP (l : List UInt8) : Int ⊕ (T_api_Program × List UInt8) := progK (fun r => .inr r) l
theorem progK_eq {β : Type} (K : T_api_Program × List UInt8 → Int ⊕ β) (l : List UInt8) : progK K l = sb (progP l) K := by
  unfold progP progK
  simp only [sb_sb, sb_inr]
def noP : T_api_Program := ⟨[], [], []⟩
def clP (r : T_api_Program × List UInt8) : Int ⊕ T_api_Program := cond (iEq (r.2.length : Int) 0) (cond (iEq (chkP r.1) 0) (.inr r.1) (.inl (chkP r.1))) (.inl 2)
def outP : Int ⊕ T_api_Program → T_api_Program × Int
  | .inl e => (noP, e)
  | .inr p => (p, 0)
def getP (l : List UInt8) : T_api_Program × Int := cond (sEq (bs (l.take 3)) (bs headP)) (outP (sb (progP (l.drop 3)) clP)) (noP, 2)
def Suf {α : Type} (l : List UInt8) (x : Int ⊕ (α × List UInt8)) : Prop := ∀ r, x = .inr r → r.2 <:+ l
theorem Suf.num (l : List UInt8) : Suf l (numP l) := fun r h => by
  obtain ⟨h1, rfl⟩ := two_inr h
  dsimp only at h1 ⊢
  have := (rdN_inv' h1).1
  exact ⟨_, this.symm⟩
theorem Suf.many (m : Nat) (l : List UInt8) : Suf l (manyP m l) := fun r h => by
  obtain ⟨y, h1, h2⟩ := sb_of h
  cases hc : iLt (m : Int) (y.1 : Int) with
  | true => rw [hc] at h2; cases h2
  | false => rw [hc] at h2; cases h2; exact Suf.num l _ h1
theorem Suf.ins (l : List UInt8) : Suf l (gI l) := fun r h => by
  obtain ⟨h1, rfl⟩ := two_inr h
  exact ⟨_, (getI_inv h1).2.symm⟩
theorem Suf.wait {D : List T_api_Decl} (hD : (chkL D).2 = 0) (l : List UInt8) : Suf l (gW D l) := fun r h => by
  obtain ⟨h1, rfl⟩ := two_inr h
  exact ⟨_, (getNs_inv hD h1).2.symm⟩
theorem Suf.decl (l : List UInt8) : Suf l (gD l) := fun r h => by
  obtain ⟨h1, rfl⟩ := two_inr h
  exact ⟨_, (getDs_inv h1).2.symm⟩
theorem gD_chk {l : List UInt8} {r : List T_api_Decl × List UInt8} (h : gD l = .inr r) : (chkL r.1).2 = 0 := by
  obtain ⟨h1, rfl⟩ := two_inr h
  exact (getDs_inv h1).1
theorem Suf.rep {α : Type} {g : List UInt8 → Int ⊕ (α × List UInt8)} (hg : ∀ l, Suf l (g l)) : ∀ (n : Nat) (l : List UInt8) (acc : List α), Suf l (repP g n l acc)
  | 0, l, acc => fun r h => by cases h; exact List.suffix_refl _
  | n + 1, l, acc => fun r h => by
    obtain ⟨y, h1, h2⟩ := sb_of h
    exact (Suf.rep hg n y.2 _ r h2).trans (hg l y h1)
theorem Suf.fn (l : List UInt8) : Suf l (fnP l) := fun r h => by
  obtain ⟨a, h1, h⟩ := sb_of h
  obtain ⟨b, h2, h⟩ := sb_of h
  obtain ⟨n, h3, h⟩ := sb_of h
  obtain ⟨c, h4, h⟩ := sb_of h
  cases h
  exact (Suf.rep Suf.ins _ _ _ _ h4).trans ((Suf.many _ _ _ h3).trans ((Suf.num _ _ h2).trans (Suf.num _ _ h1)))
theorem manyP_le {m : Nat} {l : List UInt8} {r : Nat × List UInt8} (h : manyP m l = .inr r) : r.1 ≤ m ∧ numP l = .inr r := by
  obtain ⟨y, h1, h2⟩ := sb_of h
  cases hc : iLt (m : Int) (y.1 : Int) with
  | true => rw [hc] at h2; cases h2
  | false => rw [hc] at h2; cases h2; rw [iLt_iff'] at hc; exact ⟨by omega, h1⟩
def lf {α β : Type} (f : α → β) : Int ⊕ (α × List UInt8) → Int ⊕ (β × T_prog_reader)
  | .inl e => .inl e
  | .inr r => .inr (f r.1, ⟨bs r.2⟩)
theorem lf_inr {α β : Type} (f : α → β) (r : α × List UInt8) : lf f (.inr r) = .inr (f r.1, ⟨bs r.2⟩) := rfl
theorem took_ok {l t : List UInt8} (h : t <:+ l) {n : Int} (hn : n = (l.length : Int) - t.length) {e : Int} (he : e = 0) : prog_reader_took ⟨bs l⟩ n e = some (.inr ⟨bs t⟩) := by
  have hl := h.length_le
  unfold prog_reader_took
  rw [iNe_f he, cond_false]
  dsimp only
  rw [need_of (nTo_of (by rw [bs_size]; omega))]
  congr 3
  apply bl_inj
  rw [bl_extract, bl_bs, bl_bs, bs_size, List.take_length, show n.toNat = l.length - t.length by omega]
  obtain ⟨p, rfl⟩ := h
  rw [List.length_append, show p.length + t.length - t.length = p.length by omega, List.drop_left]
theorem took_err {r : T_prog_reader} {n e : Int} (h : e ≠ 0) : prog_reader_took r n e = some (.inl e) := by
  unfold prog_reader_took
  rw [iNe_t h, cond_true]
theorem reader_num {l : List UInt8} (hl : l.length ≤ 9007199254740992) : prog_reader_num ⟨bs l⟩ = some (lf cap (numP l)) := by
  have h0 : RdOK (bs l) l 0 := ⟨by rw [bl_bs]; exact List.suffix_refl _, fun h => absurd rfl h⟩
  have hs : (bs l).size ≤ 9007199254740992 := by rw [bs_size]; omega
  have hr := h0.num.suf
  rw [bl_bs] at hr
  have hr' := hr.length_le
  unfold prog_reader_num
  rw [In_Open, bind_some', bl_bs, In_Num_gen hs h0, bind_some']
  dsimp only
  rw [In_Left_gen hs h0.num, bind_some', In_Err_gen, bind_some', bs_size, w64 (by omega), cap_eq (rdN_lt l 0)]
  by_cases he : (rdN l 0).1 = 0
  · rw [took_ok hr rfl he, bind_some', pcase_inr, numP, two_ok he]
    rfl
  · rw [took_err he, bind_some', pcase_inl, numP, two_err he]
    rfl
theorem reader_many {m : Nat} (hm : m ≤ 1000) {l : List UInt8} (hl : l.length ≤ 9007199254740992) : prog_reader_many ⟨bs l⟩ (m : Int) = some (lf (fun n : Nat => (n : Int)) (manyP m l)) := by
  unfold prog_reader_many manyP
  rw [reader_num hl, bind_some']
  cases hn : numP l with
  | inl e => rfl
  | inr r =>
    rw [sb_inr, lf_inr, pcase_inr]
    dsimp only
    unfold cap
    by_cases h : m < r.1
    · rw [iLt_t (by omega), iLt_t (by omega)]; rfl
    · rw [iLt_f (by omega), iLt_f (by omega), show min r.1 2147483648 = r.1 by omega]; rfl
theorem reader_l6 (x1 x2 x3 : Int × T_prog_reader) {N : Nat} (hN : x3.1 = (N : Int)) (hN2 : N ≤ 200) : ∀ (n i f : Nat) (l : List UInt8) (acc : List T_api_Ins), i + n = N → n < f → acc.length = i → l.length ≤ 9007199254740992 →
    prog_reader_function_l6 x1 x2 x3 f ((i : Int), bs l, acc) = some (lf (fun c => ⟨x1.1, x2.1, c⟩) (repP gI n l acc))
  | n, i, 0, l, acc, hi, hf, ha, hl => by omega
  | 0, i, f + 1, l, acc, hi, hf, ha, hl => by
    rw [prog_reader_function_l6]
    dsimp only
    rw [hN, iLt_f (by omega), cond_false]
    rfl
  | n + 1, i, f + 1, l, acc, hi, hf, ha, hl => by
    rw [prog_reader_function_l6]
    dsimp only
    rw [hN, iLt_t (by omega), cond_true, ins_Get_eq (by rw [bs_size]; omega), bl_bs, outI, bind_some']
    dsimp only
    rw [repP]
    by_cases he : (getI l).2.1 = 0
    · have hg : gI l = .inr ((getI l).1, (getI l).2.2) := two_ok he
      have hs := Suf.ins l _ hg
      have hs' := hs.length_le
      dsimp only at hs hs'
      rw [iEq_t he, cond_true, took_ok hs (by rw [bs_size]) he, bind_some', pcase_inr, need_of (nCap_of (by simp only [List.length_cons, List.length_nil]; omega)), w64 (by omega), show (i : Int) + 1 = ((i + 1 : Nat) : Int) by omega, hg, sb_inr]
      exact reader_l6 x1 x2 x3 hN hN2 n (i + 1) f _ _ (by omega) (by omega) (by simp; omega) (by omega)
    · rw [took_err he, bind_some', pcase_inl, gI, two_err he, sb_inl]
      rfl
theorem reader_fn {l : List UInt8} (hl : l.length ≤ 9007199254740992) : prog_reader_function ⟨bs l⟩ = some (lf id (fnP l)) := by
  unfold prog_reader_function fnP
  rw [reader_num hl, bind_some']
  cases h1 : numP l with
  | inl e => rfl
  | inr a =>
    have s1 := (Suf.num l _ h1).length_le
    rw [sb_inr, lf_inr, pcase_inr]
    dsimp only
    rw [reader_num (by omega), bind_some']
    cases h2 : numP a.2 with
    | inl e => rfl
    | inr b =>
      have s2 := (Suf.num _ _ h2).length_le
      rw [sb_inr, lf_inr, pcase_inr]
      dsimp only
      rw [show (200 : Int) = ((200 : Nat) : Int) from rfl, reader_many (by omega) (by omega), bind_some']
      cases h3 : manyP 200 b.2 with
      | inl e => rfl
      | inr n =>
        have s3 := (Suf.many _ _ _ h3).length_le
        have hn := (manyP_le h3).1
        rw [sb_inr, lf_inr, pcase_inr]
        have := reader_l6 (cap a.1, ⟨bs a.2⟩) (cap b.1, ⟨bs b.2⟩) ((n.1 : Int), ⟨bs n.2⟩) (N := n.1) rfl hn n.1 0 fuel n.2 [] (by omega) (by have := fuel_big; omega) rfl (by omega)
        refine Eq.trans this ?_
        cases repP gI n.1 n.2 [] <;> rfl
def fin (r : T_api_Program × List UInt8) : Int ⊕ (T_api_Program × T_prog_reader) := cond (iEq (r.2.length : Int) 0) (.inr (r.1, ⟨bs r.2⟩)) (.inl 2)
theorem sEq_empty (l : List UInt8) : sEq (bs l) ByteArray.empty = iEq (l.length : Int) 0 := by
  cases l with
  | nil => exact (sEq_t rfl).trans (iEq_t rfl).symm
  | cons b t =>
    rw [iEq_f (by simp only [List.length_cons]; omega)]
    refine sEq_f fun h => ?_
    have := congrArg ByteArray.size h
    rw [bs_size] at this
    simp at this
theorem reader_l13 (x1 : (List T_api_Decl) × Int × Int) (s5 : Int × ByteArray × (List (List (List T_api_Need)))) (x10 : Int × T_prog_reader) {N : Nat} (hN : x10.1 = (N : Int)) (hN2 : N ≤ 16) : ∀ (n i f : Nat) (l : List UInt8) (acc : List T_api_Func), i + n = N → n < f → acc.length = i → l.length ≤ 9007199254740992 →
    prog_reader_program_l13 x1 s5 x10 f ((i : Int), bs l, acc) = some (sb (repP fnP n l acc) fun r => fin (⟨x1.1, s5.2.2, r.1⟩, r.2))
  | n, i, 0, l, acc, hi, hf, ha, hl => by omega
  | 0, i, f + 1, l, acc, hi, hf, ha, hl => by
    rw [prog_reader_program_l13]
    dsimp only
    rw [hN, iLt_f (by omega), cond_false, sEq_empty, repP, sb_inr]
    unfold fin
    dsimp only
    cases iEq (l.length : Int) 0 <;> rfl
  | n + 1, i, f + 1, l, acc, hi, hf, ha, hl => by
    rw [prog_reader_program_l13]
    dsimp only
    rw [hN, iLt_t (by omega), cond_true, reader_fn hl, bind_some', repP, sb_sb]
    cases h1 : fnP l with
    | inl e => rfl
    | inr r =>
      have s1 := (Suf.fn l _ h1).length_le
      rw [lf_inr, pcase_inr, sb_inr]
      dsimp only
      rw [need_of (nCap_of (by simp only [List.length_cons, List.length_nil]; omega)), w64 (by omega), show (i : Int) + 1 = ((i + 1 : Nat) : Int) by omega]
      exact reader_l13 x1 s5 x10 hN hN2 n (i + 1) f _ _ (by omega) (by omega) (by simp; omega) (by omega)
theorem reader_pl6 (x1 : (List T_api_Decl) × Int × Int) (hD : (chkL x1.1).2 = 0) (x3 : Int × T_prog_reader) {N : Nat} (hN : x3.1 = (N : Int)) (hN2 : N ≤ 32) : ∀ (n i f : Nat) (l : List UInt8) (acc : List (List (List T_api_Need))), i + n = N → n < f → acc.length = i → l.length ≤ 9007199254740992 →
    prog_reader_program_l6 x1 x3 f ((i : Int), bs l, acc) = some (sb (repP (gW x1.1) n l acc) fun w => sb (manyP 16 w.2) fun m => sb (repP fnP m.1 m.2 []) fun r => fin (⟨x1.1, w.1, r.1⟩, r.2))
  | n, i, 0, l, acc, hi, hf, ha, hl => by omega
  | 0, i, f + 1, l, acc, hi, hf, ha, hl => by
    rw [prog_reader_program_l6]
    dsimp only
    rw [hN, iLt_f (by omega), cond_false, show (16 : Int) = ((16 : Nat) : Int) from rfl, reader_many (by omega) hl, bind_some', repP, sb_inr]
    dsimp only
    cases h1 : manyP 16 l with
    | inl e => rfl
    | inr m =>
      have s1 := (Suf.many _ _ _ h1).length_le
      have hm := (manyP_le h1).1
      rw [lf_inr, pcase_inr, sb_inr]
      exact reader_l13 x1 ((i : Int), bs l, acc) ((m.1 : Int), ⟨bs m.2⟩) (N := m.1) rfl hm m.1 0 fuel m.2 [] (by omega) (by have := fuel_big; omega) rfl (by omega)
  | n + 1, i, f + 1, l, acc, hi, hf, ha, hl => by
    rw [prog_reader_program_l6]
    dsimp only
    rw [hN, iLt_t (by omega), cond_true, need_Get_eq (chkL_len hD).1 (by rw [bs_size]; omega), bind_some', bl_bs]
    dsimp only
    rw [repP, sb_sb]
    by_cases he : (getNs x1.1 l).2.1 = 0
    · have hg : gW x1.1 l = .inr ((getNs x1.1 l).1, (getNs x1.1 l).2.2) := two_ok he
      have hs := Suf.wait hD l _ hg
      have hs' := hs.length_le
      dsimp only at hs hs'
      rw [iEq_t he, cond_true, took_ok hs (by rw [bs_size]) he, bind_some', pcase_inr, need_of (nCap_of (by simp only [List.length_cons, List.length_nil]; omega)), w64 (by omega), show (i : Int) + 1 = ((i + 1 : Nat) : Int) by omega, hg, sb_inr]
      exact reader_pl6 x1 hD x3 hN hN2 n (i + 1) f _ _ (by omega) (by omega) (by simp; omega) (by omega)
    · rw [took_err he, bind_some', pcase_inl, gW, two_err he, sb_inl]
theorem reader_program {l : List UInt8} (hl : l.length ≤ 9007199254740992) : prog_reader_program ⟨bs l⟩ = some (progK fin l) := by
  unfold prog_reader_program progK
  dsimp only
  rw [decl_Get_eq (by rw [bs_size]; omega), bind_some', bl_bs]
  dsimp only
  by_cases he : (getDs l).2.1 = 0
  · have hg : gD l = .inr ((getDs l).1, (getDs l).2.2) := two_ok he
    have hD := gD_chk hg
    have hs := Suf.decl l _ hg
    have hs' := hs.length_le
    dsimp only at hs hs' hD
    rw [iEq_t he, cond_true, took_ok hs (by rw [bs_size]) he, bind_some', pcase_inr, hg, sb_inr, show (32 : Int) = ((32 : Nat) : Int) from rfl, reader_many (by omega) (by omega), bind_some']
    dsimp only
    cases h1 : manyP 32 (getDs l).2.2 with
    | inl e => rfl
    | inr n =>
      have s1 := (Suf.many _ _ _ h1).length_le
      have hm := (manyP_le h1).1
      rw [lf_inr, pcase_inr, sb_inr]
      exact reader_pl6 ((getDs l).1, ((bs l).size : Int) - (getDs l).2.2.length, (getDs l).2.1) hD ((n.1 : Int), ⟨bs n.2⟩) (N := n.1) rfl hm n.1 0 fuel n.2 [] (by omega) (by have := fuel_big; omega) rfl (by omega)
  · rw [took_err he, bind_some', pcase_inl, gD, two_err he, sb_inl]
theorem prog_Get_eq {s : ByteArray} (hs : s.size ≤ 9007199254740992) : prog_Get s = some (getP (bl s)) := by
  have h3 : (⟨#[76, 74, 1]⟩ : ByteArray) = bs headP := rfl
  have h3s : (bs headP).size = 3 := rfl
  unfold prog_Get prog_Get_b strings_HasPrefix istringslite_HasPrefix getP
  rw [h3, h3s]
  by_cases hl : 3 ≤ s.size
  · have hx : s.extract 0 ((3 : Nat) : Int).toNat = bs ((bl s).take 3) := by
      apply bl_inj
      rw [bl_extract, bl_bs, Int.toNat_natCast, List.drop_zero]
    rw [iLe_t (by omega), nTo_of (by omega)]
    simp only [Bool.not_true, Bool.false_or]
    rw [need_of rfl, bind_some', bind_some', hx, Bool.true_and]
    cases hc : sEq (bs ((bl s).take 3)) (bs headP) with
    | false => rfl
    | true =>
      have he : s.extract (3 : Int).toNat s.size = bs ((bl s).drop 3) := by
        apply bl_inj
        rw [bl_extract, bl_bs, ← bl_len, List.take_length]
        rfl
      rw [Bool.not_true, cond_false, cond_true, need_of (nTo_of (by omega)), he, reader_program (by rw [List.length_drop, bl_len]; omega), bind_some', progK_eq]
      cases progP ((bl s).drop 3) with
      | inl e => rfl
      | inr r =>
        rw [sb_inr, sb_inr]
        unfold fin clP
        cases iEq (r.2.length : Int) 0 with
        | false => rfl
        | true =>
          rw [cond_true, cond_true, pcase_inr]
          dsimp only
          rw [prog_Check_eq, bind_some']
          by_cases hk : chkP r.1 = 0
          · rw [iNe_f hk, iEq_t hk]; rfl
          · rw [iNe_t hk, iEq_f hk]; rfl
  · have hc : sEq (bs ((bl s).take 3)) (bs headP) = false := sEq_f fun h => by
      have := congrArg ByteArray.size h
      rw [bs_size, h3s, List.length_take, bl_len] at this
      omega
    rw [iLe_f (by omega), hc]
    rfl
end LJ
end

/- Plain laws of programs: the document's reading; there and back. -/
section
namespace LJ
open Go Go.RowKit
set_option linter.unusedVariables false
set_option linter.unusedSimpArgs false

def RdS {α β : Type} (s : ByteArray) (f : α → β) (x : Int ⊕ (α × List UInt8)) (z : Option (β × T_ref01_R × Int)) : Prop := match x with
  | .inl e => e ≠ 0 ∧ ∃ a R, z = some (a, R, e)
  | .inr r => r.2 <:+ bl s ∧ z = some (f r.1, mkR s r.2 0, 0)
theorem ins_RdS {s : ByteArray} (hs : s.size ≤ 9007199254740992) {l : List UInt8} (hl : l <:+ bl s) : RdS s id (gI l) (ref07_Read (mkR s l 0)) := by
  obtain ⟨l', e', h1, h2⟩ := ref07_Read_eq hs hl
  by_cases he : (getI l).2.1 = 0
  · obtain ⟨rfl, rfl, h3⟩ := h2 he
    rw [gI, two_ok he]
    exact ⟨h3, by rw [h1, he]; rfl⟩
  · rw [gI, two_err he]
    exact ⟨he, _, _, h1⟩
theorem decl_RdS {s : ByteArray} (hs : s.size ≤ 9007199254740992) {l : List UInt8} (hl : l <:+ bl s) : RdS s id (gD l) (ref08_Read (mkR s l 0)) := by
  obtain ⟨l', e', h1, h2⟩ := ref08_Read_eq hs hl
  by_cases he : (getDs l).2.1 = 0
  · obtain ⟨rfl, rfl, h3⟩ := h2 he
    rw [gD, two_ok he]
    exact ⟨h3, by rw [h1, he]; rfl⟩
  · rw [gD, two_err he]
    exact ⟨he, _, _, h1⟩
theorem wait_RdS {D : List T_api_Decl} (hD : (chkL D).2 = 0) {s : ByteArray} (hs : s.size ≤ 9007199254740992) {l : List UInt8} (hl : l <:+ bl s) : RdS s id (gW D l) (ref09_Read D (mkR s l 0)) := by
  have h0 : RdOK s l 0 := ⟨hl, fun h => absurd rfl h⟩
  unfold ref09_Read
  rw [refNumber_gen hs h0, bind_some']
  dsimp only
  by_cases h4 : 4 < ((rdN l 0).2.1 : Int)
  · have hM : rdM l = (0, 4, []) := by unfold rdM; rw [iLt_t h4, cond_true]
    have hg : getNs D l = ([], 4, []) := by unfold getNs; rw [hM]; rfl
    rw [iLt_t h4, cond_true, gW, hg]
    exact ⟨by decide, _, _, rfl⟩
  · rw [iLt_f (by omega), cond_false]
    have hM : rdM l = ((rdN l 0).2.1, (rdN l 0).1, (rdN l 0).2.2) := by unfold rdM; rw [iLt_f (by omega), cond_false]
    by_cases he : (rdN l 0).1 = 0
    · have hn := h0.num
      obtain ⟨g1, g2, g3⟩ : Said D s (rdWays (rdN l 0).2.1 (rdN l 0).2.2 []) (ref09_Read_l4 D (((rdN l 0).2.1 : Int), mkR s (rdN l 0).2.2 0) fuel (0, (mkR s (rdN l 0).2.2 0).S, (mkR s (rdN l 0).2.2 0).At, (mkR s (rdN l 0).2.2 0).Err, [])) := rl4 (L := D) hs (x1 := (((rdN l 0).2.1 : Int), mkR s (rdN l 0).2.2 0)) (N := (rdN l 0).2.1) rfl (by omega) (rdN l 0).2.1 0 fuel [] (rdN l 0).2.2 (by omega) (by have := fuel_big; omega) rfl hn.suf
      have hg : getNs D l = cond (iEq (rdWays (rdN l 0).2.1 (rdN l 0).2.2 []).2.1 0) (cond (iEq (chkW D (rdWays (rdN l 0).2.1 (rdN l 0).2.2 []).1) 0) ((rdWays (rdN l 0).2.1 (rdN l 0).2.2 []).1, 0, (rdWays (rdN l 0).2.1 (rdN l 0).2.2 []).2.2) ([], chkW D (rdWays (rdN l 0).2.1 (rdN l 0).2.2 []).1, [])) ([], (rdWays (rdN l 0).2.1 (rdN l 0).2.2 []).2.1, []) := by
        unfold getNs
        rw [hM]
        dsimp only
        rw [iEq_t he, cond_true]
      have hsuf : ∀ r, gW D l = .inr r → r.2 <:+ bl s := fun r h => (Suf.wait hD l r h).trans hl
      rw [he]
      revert g1 g2 g3 hsuf
      unfold gW
      rw [hg]
      generalize rdWays (rdN l 0).2.1 (rdN l 0).2.2 [] = r
      intro g1 g2 g3 hsuf
      by_cases h1 : r.2.1 = 0
      · by_cases h2 : chkW D r.1 = 0
        · rw [iEq_t h1, cond_true, iEq_t h2, cond_true] at hsuf ⊢
          rw [two_ok rfl] at hsuf ⊢
          exact ⟨hsuf _ rfl, g1 h1 h2⟩
        · obtain ⟨R, hR⟩ := g2 h1 h2
          rw [iEq_t h1, cond_true, iEq_f h2, cond_false, two_err h2]
          exact ⟨h2, _, _, hR⟩
      · obtain ⟨R, hR⟩ := g3 h1
        rw [iEq_f h1, cond_false, two_err (r := ([], r.2.1, [])) h1]
        exact ⟨h1, _, _, hR⟩
    · obtain ⟨R, hR⟩ := rl4_stop (L := D) (x1 := (((rdN l 0).2.1 : Int), mkR s (rdN l 0).2.2 (rdN l 0).1)) (Nat.pred fuel) 0 (mkR s (rdN l 0).2.2 (rdN l 0).1).S (mkR s (rdN l 0).2.2 (rdN l 0).1).At (rdN l 0).1 [] he
      rw [show Nat.pred fuel + 1 = fuel by have := fuel_big; exact Nat.succ_pred (by omega)] at hR
      have hg : getNs D l = ([], (rdN l 0).1, []) := by
        unfold getNs
        rw [hM]
        dsimp only
        rw [iEq_f he, cond_false]
      rw [gW, hg, two_err he]
      exact ⟨he, _, _, hR⟩
theorem ref_numP {s : ByteArray} (hs : s.size ≤ 9007199254740992) {l : List UInt8} (hl : l <:+ bl s) : match numP l with
    | .inl e => e ≠ 0 ∧ ref01_Number (mkR s l 0) = some (0, mkR s [] e)
    | .inr r => r.1 < 18446744073709551616 ∧ r.2 <:+ bl s ∧ ref01_Number (mkR s l 0) = some ((r.1 : Int), mkR s r.2 0) := by
  have h0 : RdOK s l 0 := ⟨hl, fun h => absurd rfl h⟩
  rw [refNumber_gen hs h0]
  by_cases he : (rdN l 0).1 = 0
  · rw [numP, two_ok he]
    exact ⟨rdN_lt l 0, h0.num.suf, by rw [he]⟩
  · have := h0.num.err he
    rw [numP, two_err he]
    refine ⟨he, ?_⟩
    have hv : (rdN l 0).2.1 = 0 := by
      unfold rdN at he ⊢
      rw [if_pos rfl] at he ⊢
      rw [(numR_err l 0 he).1]
    rw [this, hv]
    rfl
theorem many_err (s : ByteArray) {m e : Int} (hm : 0 ≤ m) (he : e ≠ 0) : ref10_many (mkR s [] e) m = some (0, mkR s [] e, e) := by
  unfold ref10_many
  rw [refNumber_err s e he, bind_some']
  dsimp only
  rw [iLt_f (by omega), cond_false]
  rfl
theorem many_RdS {s : ByteArray} (hs : s.size ≤ 9007199254740992) {l : List UInt8} (hl : l <:+ bl s) {m : Nat} (hm : m ≤ 1000) : RdS s (fun n : Nat => (n : Int)) (manyP m l) (ref10_many (mkR s l 0) (m : Int)) := by
  have hn := ref_numP hs hl
  unfold ref10_many manyP
  cases h1 : numP l with
  | inl e =>
    rw [h1] at hn
    obtain ⟨he, hn⟩ := hn
    rw [hn, bind_some', sb_inl]
    dsimp only
    rw [iLt_f (by omega), cond_false]
    exact ⟨he, _, _, rfl⟩
  | inr r =>
    rw [h1] at hn
    obtain ⟨hlt, hr, hn⟩ := hn
    rw [hn, bind_some', sb_inr]
    dsimp only
    by_cases h : m < r.1
    · rw [iLt_t (by omega), cond_true, cond_true]
      exact ⟨by decide, _, _, rfl⟩
    · rw [iLt_f (by omega), cond_false, cond_false, w64 (by omega)]
      exact ⟨hr, rfl⟩
theorem rfn2_l8 {s : ByteArray} (hs : s.size ≤ 9007199254740992) (x1 x2 : Int × T_ref01_R) (x3 : Int × T_ref01_R × Int) {N : Nat} (hN : x3.1 = (N : Int)) (hN2 : N ≤ 200) : ∀ (n i f : Nat) (l : List UInt8) (acc : List T_api_Ins), i + n = N → n < f → acc.length = i → l <:+ bl s →
    RdS s (fun c => (⟨IntKind.i64.wrap (iMin x1.1 (2147483648 : Int)), IntKind.i64.wrap (iMin x2.1 (2147483648 : Int)), c⟩ : T_api_Func)) (repP gI n l acc) (ref10_function2_l8 x1 x2 x3 f ((i : Int), (mkR s l 0).S, (mkR s l 0).At, (mkR s l 0).Err, acc))
  | n, i, 0, l, acc, hi, hf, ha, hl => by omega
  | 0, i, f + 1, l, acc, hi, hf, ha, hl => by
    rw [ref10_function2_l8]
    dsimp only
    rw [hN, iLt_f (by omega), cond_false]
    exact ⟨hl, rfl⟩
  | n + 1, i, f + 1, l, acc, hi, hf, ha, hl => by
    have hr := ins_RdS hs hl
    rw [ref10_function2_l8]
    dsimp only
    rw [hN, iLt_t (by omega), cond_true, mkR_eta, repP]
    cases hg : gI l with
    | inl e =>
      rw [hg] at hr
      obtain ⟨he, a, R, hr⟩ := hr
      rw [hr, bind_some', sb_inl]
      dsimp only
      rw [iNe_t he, cond_true]
      exact ⟨he, _, _, rfl⟩
    | inr r =>
      rw [hg] at hr
      obtain ⟨hsf, hr⟩ := hr
      rw [hr, bind_some', sb_inr]
      dsimp only
      rw [iNe_f rfl, cond_false, need_of (nCap_of (by simp only [List.length_cons, List.length_nil]; omega)), w64 (a := (i : Int) + 1) (by omega), show (i : Int) + 1 = ((i + 1 : Nat) : Int) by omega]
      exact rfn2_l8 hs x1 x2 x3 hN hN2 n (i + 1) f _ _ (by omega) (by omega) (by simp; omega) hsf
theorem fn_RdS {s : ByteArray} (hs : s.size ≤ 9007199254740992) {l : List UInt8} (hl : l <:+ bl s) : RdS s id (fnP l) (ref10_function2 (mkR s l 0)) := by
  have hn := ref_numP hs hl
  unfold ref10_function2 fnP
  cases h1 : numP l with
  | inl e =>
    rw [h1] at hn
    obtain ⟨he, hn⟩ := hn
    rw [hn, bind_some', sb_inl]
    dsimp only
    rw [refNumber_err s e he, bind_some']
    dsimp only
    rw [many_err s (by decide) he, bind_some', mkR_Err, iNe_t he, cond_true]
    exact ⟨he, _, _, rfl⟩
  | inr a =>
    rw [h1] at hn
    obtain ⟨ha, hla, hn⟩ := hn
    rw [hn, bind_some', sb_inr]
    dsimp only
    have hn2 := ref_numP hs hla
    cases h2 : numP a.2 with
    | inl e =>
      rw [h2] at hn2
      obtain ⟨he, hn2⟩ := hn2
      rw [hn2, bind_some', sb_inl]
      dsimp only
      rw [many_err s (by decide) he, bind_some', mkR_Err, iNe_t he, cond_true]
      exact ⟨he, _, _, rfl⟩
    | inr b =>
      rw [h2] at hn2
      obtain ⟨hb, hlb, hn2⟩ := hn2
      rw [hn2, bind_some', sb_inr]
      dsimp only
      have h3 := many_RdS hs hlb (m := 200) (by omega)
      rw [show (200 : Int) = ((200 : Nat) : Int) from rfl]
      cases h4 : manyP 200 b.2 with
      | inl e =>
        rw [h4] at h3
        obtain ⟨he, c, R, h3⟩ := h3
        rw [h3, bind_some', sb_inl, mkR_Err, iNe_f rfl, cond_false]
        dsimp only
        rw [iNe_t he, cond_true]
        exact ⟨he, _, _, rfl⟩
      | inr n =>
        have hle := (manyP_le h4).1
        rw [h4] at h3
        obtain ⟨hln, h3⟩ := h3
        rw [h3, bind_some', sb_inr, mkR_Err, iNe_f rfl, cond_false]
        dsimp only
        rw [cond_false]
        have h5 := rfn2_l8 hs ((a.1 : Int), mkR s a.2 0) ((b.1 : Int), mkR s b.2 0) ((n.1 : Int), mkR s n.2 0, 0) (N := n.1) rfl hle n.1 0 fuel n.2 [] (by omega) (by have := fuel_big; omega) rfl hln
        rw [cap_eq ha, cap_eq hb] at h5
        cases h6 : repP gI n.1 n.2 [] with
        | inl e =>
          rw [h6] at h5
          rw [sb_inl]
          exact h5
        | inr c =>
          rw [h6] at h5
          rw [sb_inr]
          exact h5
theorem rget_l17 {s : ByteArray} (hs : s.size ≤ 9007199254740992) (x3 : (List T_api_Decl) × T_ref01_R × Int) (s8 : Int × ByteArray × Int × Int × (List (List (List T_api_Need)))) (x13 : Int × T_ref01_R × Int) {N : Nat} (hN : x13.1 = (N : Int)) (hN2 : N ≤ 16) : ∀ (n i f : Nat) (l : List UInt8) (acc : List T_api_Func), i + n = N → n < f → acc.length = i → l <:+ bl s →
    ref10_Get_l17 s x3 s8 x13 f ((i : Int), (mkR s l 0).S, (mkR s l 0).At, (mkR s l 0).Err, acc) = some (outP (sb (repP fnP n l acc) fun r => clP (⟨x3.1, s8.2.2.2.2, r.1⟩, r.2)))
  | n, i, 0, l, acc, hi, hf, ha, hl => by omega
  | 0, i, f + 1, l, acc, hi, hf, ha, hl => by
    have hle := suf_len hl
    rw [ref10_Get_l17]
    dsimp only
    rw [hN, iLt_f (by omega), cond_false, repP, sb_inr]
    unfold clP
    dsimp only
    by_cases h0 : l.length = 0
    · rw [show (mkR s l 0).At = (s.size : Int) by show (s.size : Int) - l.length = _; omega, iLt_f (by omega), cond_false, iEq_t (by omega), cond_true, ref10_Check_eq, bind_some']
      by_cases hk : chkP ⟨x3.1, s8.2.2.2.2, acc⟩ = 0
      · rw [iNe_f hk, iEq_t hk]; rfl
      · rw [iNe_t hk, iEq_f hk]; rfl
    · rw [iLt_t (by show (s.size : Int) - l.length < _; omega), cond_true, iEq_f (by omega), cond_false]
      rfl
  | n + 1, i, f + 1, l, acc, hi, hf, ha, hl => by
    have hr := fn_RdS hs hl
    rw [ref10_Get_l17]
    dsimp only
    rw [hN, iLt_t (by omega), cond_true, mkR_eta, repP, sb_sb]
    cases hg : fnP l with
    | inl e =>
      rw [hg] at hr
      obtain ⟨he, a, R, hr⟩ := hr
      rw [hr, bind_some', sb_inl]
      dsimp only
      rw [iNe_t he, cond_true]
      rfl
    | inr r =>
      rw [hg] at hr
      obtain ⟨hsf, hr⟩ := hr
      rw [hr, bind_some', sb_inr]
      dsimp only
      rw [iNe_f rfl, cond_false, need_of (nCap_of (by simp only [List.length_cons, List.length_nil]; omega)), w64 (by omega), show (i : Int) + 1 = ((i + 1 : Nat) : Int) by omega]
      exact rget_l17 hs x3 s8 x13 hN hN2 n (i + 1) f _ _ (by omega) (by omega) (by simp; omega) hsf
theorem rget_l9 {s : ByteArray} (hs : s.size ≤ 9007199254740992) (x3 : (List T_api_Decl) × T_ref01_R × Int) (hD : (chkL x3.1).2 = 0) (x5 : Int × T_ref01_R × Int) {N : Nat} (hN : x5.1 = (N : Int)) (hN2 : N ≤ 32) : ∀ (n i f : Nat) (l : List UInt8) (acc : List (List (List T_api_Need))), i + n = N → n < f → acc.length = i → l <:+ bl s →
    ref10_Get_l9 s x3 x5 f ((i : Int), (mkR s l 0).S, (mkR s l 0).At, (mkR s l 0).Err, acc) = some (outP (sb (repP (gW x3.1) n l acc) fun w => sb (manyP 16 w.2) fun m => sb (repP fnP m.1 m.2 []) fun r => clP (⟨x3.1, w.1, r.1⟩, r.2)))
  | n, i, 0, l, acc, hi, hf, ha, hl => by omega
  | 0, i, f + 1, l, acc, hi, hf, ha, hl => by
    have hm := many_RdS hs hl (m := 16) (by omega)
    rw [ref10_Get_l9]
    dsimp only
    rw [hN, iLt_f (by omega), cond_false, mkR_eta, show (16 : Int) = ((16 : Nat) : Int) from rfl, repP, sb_inr]
    dsimp only
    cases h1 : manyP 16 l with
    | inl e =>
      rw [h1] at hm
      obtain ⟨he, a, R, hm⟩ := hm
      rw [hm, bind_some', sb_inl]
      dsimp only
      rw [iNe_t he, cond_true]
      rfl
    | inr m =>
      have hle := (manyP_le h1).1
      rw [h1] at hm
      obtain ⟨hsf, hm⟩ := hm
      rw [hm, bind_some', sb_inr]
      dsimp only
      rw [iNe_f rfl, cond_false]
      exact rget_l17 hs x3 ((i : Int), (mkR s l 0).S, (mkR s l 0).At, (mkR s l 0).Err, acc) ((m.1 : Int), mkR s m.2 0, 0) (N := m.1) rfl hle m.1 0 fuel m.2 [] (by omega) (by have := fuel_big; omega) rfl hsf
  | n + 1, i, f + 1, l, acc, hi, hf, ha, hl => by
    have hr := wait_RdS hD hs hl
    rw [ref10_Get_l9]
    dsimp only
    rw [hN, iLt_t (by omega), cond_true, mkR_eta, repP, sb_sb]
    cases hg : gW x3.1 l with
    | inl e =>
      rw [hg] at hr
      obtain ⟨he, a, R, hr⟩ := hr
      rw [hr, bind_some', sb_inl]
      dsimp only
      rw [iNe_t he, cond_true]
      rfl
    | inr r =>
      rw [hg] at hr
      obtain ⟨hsf, hr⟩ := hr
      rw [hr, bind_some', sb_inr]
      dsimp only
      rw [iNe_f rfl, cond_false, need_of (nCap_of (by simp only [List.length_cons, List.length_nil]; omega)), w64 (by omega), show (i : Int) + 1 = ((i + 1 : Nat) : Int) by omega]
      exact rget_l9 hs x3 hD x5 hN hN2 n (i + 1) f _ _ (by omega) (by omega) (by simp; omega) hsf
theorem ref10_Get_eq {s : ByteArray} (hs : s.size ≤ 9007199254740992) : ref10_Get s = some (getP (bl s)) := by
  have h3 : (⟨#[76, 74, 1]⟩ : ByteArray) = bs headP := rfl
  have h3s : (bs headP).size = 3 := rfl
  unfold ref10_Get getP
  rw [h3]
  by_cases hl : 3 ≤ s.size
  · have hx : s.extract 0 (3 : Int).toNat = bs ((bl s).take 3) := by
      apply bl_inj
      rw [bl_extract, bl_bs, List.drop_zero]
      rfl
    rw [iLt_f (by omega), nTo_of (by omega), hx, Bool.or_true, need_of rfl, Bool.false_or]
    cases hc : sEq (bs ((bl s).take 3)) (bs headP) with
    | false => rfl
    | true =>
      have hsd : (bl s).drop 3 <:+ bl s := List.drop_suffix 3 (bl s)
      have hm3 : (⟨s, 3, 0⟩ : T_ref01_R) = mkR s ((bl s).drop 3) 0 := by
        unfold mkR
        rw [List.length_drop, bl_len]
        congr 1
        omega
      have hr := decl_RdS hs hsd
      rw [Bool.not_true, cond_false, cond_true, hm3, ← progK_eq]
      unfold progK
      cases hg : gD ((bl s).drop 3) with
      | inl e =>
        rw [hg] at hr
        obtain ⟨he, a, R, hr⟩ := hr
        rw [hr, bind_some', sb_inl]
        dsimp only
        rw [iNe_t he, cond_true]
        rfl
      | inr d =>
        have hD := gD_chk hg
        rw [hg] at hr
        obtain ⟨hsf, hr⟩ := hr
        rw [hr, bind_some', sb_inr]
        dsimp only
        rw [iNe_f rfl, cond_false, show (32 : Int) = ((32 : Nat) : Int) from rfl]
        have hm := many_RdS hs hsf (m := 32) (by omega)
        cases h1 : manyP 32 d.2 with
        | inl e =>
          rw [h1] at hm
          obtain ⟨he, a, R, hm⟩ := hm
          rw [hm, bind_some', sb_inl]
          dsimp only
          rw [iNe_t he, cond_true]
          rfl
        | inr m =>
          have hle := (manyP_le h1).1
          rw [h1] at hm
          obtain ⟨hsf2, hm⟩ := hm
          rw [hm, bind_some', sb_inr]
          dsimp only
          rw [iNe_f rfl, cond_false]
          exact rget_l9 hs (d.1, mkR s d.2 0, 0) hD ((m.1 : Int), mkR s m.2 0, 0) (N := m.1) rfl hle m.1 0 fuel m.2 [] (by omega) (by have := fuel_big; omega) rfl hsf2
  · have hc : sEq (bs ((bl s).take 3)) (bs headP) = false := sEq_f fun h => by
      have := congrArg ByteArray.size h
      rw [bs_size, h3s, List.length_take, bl_len] at this
      omega
    rw [iLt_t (by omega), hc]
    rfl
end LJ
end

/- Plain laws of programs: there and back. -/
section
namespace LJ
open Go Go.RowKit
set_option linter.unusedVariables false
set_option linter.unusedSimpArgs false

theorem numP_put {n : Nat} (h : n < 18446744073709551616) (t : List UInt8) : numP (numL n ++ t) = .inr (n, t) := by
  unfold numP
  rw [rdN_numL h, two_ok rfl]
theorem manyP_put {m n : Nat} (h : n ≤ m) (hm : m ≤ 1000) (t : List UInt8) : manyP m (numL n ++ t) = .inr (n, t) := by
  unfold manyP
  rw [numP_put (by omega), sb_inr]
  dsimp only
  rw [iLt_f (by omega), cond_false]
theorem repP_put {α : Type} {g : List UInt8 → Int ⊕ (α × List UInt8)} {put : α → List UInt8} : ∀ (L acc : List α) (t : List UInt8), (∀ x ∈ L, ∀ t, g (put x ++ t) = .inr (x, t)) → repP g L.length (L.flatMap put ++ t) acc = .inr (acc ++ L, t)
  | [], acc, t, h => by simp [repP]
  | x :: L, acc, t, h => by
    rw [List.length_cons, repP, List.flatMap_cons, List.append_assoc, h x (List.mem_cons_self ..), sb_inr]
    rw [repP_put L _ t fun y hy => h y (List.mem_cons_of_mem _ hy)]
    simp
theorem fnP_put {F : T_api_Func} (g : GoodF F) (t : List UInt8) : fnP (putF F ++ t) = .inr (F, t) := by
  have ⟨h1, h2, h3, h4⟩ := g
  obtain ⟨A, B, C⟩ := F
  dsimp only at *
  unfold fnP putF
  simp only [List.append_assoc]
  rw [numP_put (by omega), sb_inr, numP_put (by omega), sb_inr, manyP_put h3.2 (by omega), sb_inr]
  dsimp only
  rw [repP_put C [] t fun x hx t => by unfold gI; rw [getI_put (h4 x hx), two_ok rfl]]
  rw [sb_inr]
  unfold cap
  dsimp only
  rw [List.nil_append, show ((min A.toNat 2147483648 : Nat) : Int) = A by omega, show ((min B.toNat 2147483648 : Nat) : Int) = B by omega]
def restP' (p : T_api_Program) : List UInt8 := putDs p.Decls ++ (numL p.Waits.length ++ (p.Waits.flatMap putWs ++ (numL p.Funcs.length ++ p.Funcs.flatMap putF)))
theorem putP_eq (p : T_api_Program) : putP p = headP ++ restP' p := rfl
theorem progP_put {p : T_api_Program} (g : GoodP p) (t : List UInt8) : progP (restP' p ++ t) = .inr (p, t) := by
  have ⟨hd, hw, hf, hfn⟩ := g
  obtain ⟨D, W, F⟩ := p
  dsimp only at *
  unfold progP progK restP'
  simp only [List.append_assoc]
  have e1 : ∀ t, gD (putDs D ++ t) = .inr (D, t) := fun t => by unfold gD; rw [getDs_put hd, two_ok rfl]
  rw [e1, sb_inr, manyP_put hw.1 (by omega), sb_inr]
  dsimp only
  rw [repP_put W [] _ fun x hx t => by unfold gW; rw [getNs_put hd (hw.2 x hx), two_ok rfl]]
  rw [sb_inr]
  dsimp only
  rw [manyP_put hf.2 (by omega), sb_inr]
  dsimp only
  rw [repP_put F [] t fun x hx t => fnP_put (hfn x hx) t]
  rfl
theorem getP_head (l : List UInt8) : getP (headP ++ l) = outP (sb (progP l) clP) := by
  unfold getP
  rw [show (headP ++ l).take 3 = headP from rfl, show (headP ++ l).drop 3 = l from rfl, sEq_t rfl, cond_true]
theorem getP_put {p : T_api_Program} (h : chkP p = 0) : getP (putP p) = (p, 0) := by
  have := progP_put (GoodP.of h) []
  rw [List.append_nil] at this
  rw [putP_eq, getP_head, this, sb_inr]
  unfold clP
  dsimp only
  rw [iEq_t (show (([] : List UInt8).length : Int) = 0 from rfl), iEq_t h]
  rfl
theorem getP_more {p : T_api_Program} (h : chkP p = 0) {t : List UInt8} (ht : t ≠ []) : (getP (putP p ++ t)).2 = 2 := by
  have hl : t.length ≠ 0 := fun h => ht (List.length_eq_zero_iff.1 h)
  rw [putP_eq, List.append_assoc, getP_head, progP_put (GoodP.of h), sb_inr]
  unfold clP
  dsimp only
  rw [iEq_f (by omega)]
  rfl
theorem repP_inv {α : Type} {g : List UInt8 → Int ⊕ (α × List UInt8)} {put : α → List UInt8} {P : α → Prop} (hg : ∀ l x t, g l = .inr (x, t) → P x → l = put x ++ t) : ∀ (n : Nat) (l : List UInt8) (acc r : List α) (t : List UInt8), repP g n l acc = .inr (r, t) → (∀ x ∈ r, P x) → ∃ L, r = acc ++ L ∧ L.length = n ∧ l = L.flatMap put ++ t
  | 0, l, acc, r, t, h, hP => by
    cases h
    exact ⟨[], by simp, rfl, rfl⟩
  | n + 1, l, acc, r, t, h, hP => by
    obtain ⟨⟨x, l'⟩, h1, h2⟩ := sb_of h
    obtain ⟨L, e1, e2, e3⟩ := repP_inv hg n _ _ _ _ h2 hP
    have hx : P x := hP x (by rw [e1]; simp)
    refine ⟨x :: L, by rw [e1]; simp, by rw [List.length_cons, e2], ?_⟩
    rw [hg _ _ _ h1 hx, List.flatMap_cons, List.append_assoc]
    exact congrArg _ e3
theorem numP_inv {l : List UInt8} {r : Nat × List UInt8} (h : numP l = .inr r) : l = numL r.1 ++ r.2 := by
  obtain ⟨h1, rfl⟩ := two_inr h
  exact (rdN_inv' h1).1
theorem fnP_inv (l : List UInt8) (F : T_api_Func) (t : List UInt8) (h : fnP l = .inr (F, t)) (g : GoodF F) : l = putF F ++ t := by
  obtain ⟨a, h1, h⟩ := sb_of h
  obtain ⟨b, h2, h⟩ := sb_of h
  obtain ⟨n, h3, h⟩ := sb_of h
  obtain ⟨⟨c, t'⟩, h4, h⟩ := sb_of h
  cases h
  have ⟨g1, g2, g3, g4⟩ := g
  dsimp only at *
  obtain ⟨L, e1, e2, e3⟩ := repP_inv (g := gI) (put := putI) (P := fun _ => True) (fun l x t hh _ => by
    obtain ⟨k1, k2⟩ := two_inr hh
    cases k2
    exact (getI_inv k1).2) _ _ _ _ _ h4 (fun _ _ => trivial)
  rw [List.nil_append] at e1
  subst e1
  unfold cap at g1 g2
  unfold putF cap
  dsimp only
  rw [numP_inv h1, numP_inv h2, numP_inv (manyP_le h3).2, e3, ← e2, show ((min a.1 2147483648 : Nat) : Int).toNat = a.1 by omega, show ((min b.1 2147483648 : Nat) : Int).toNat = b.1 by omega]
  simp only [List.append_assoc]
theorem progP_inv {l : List UInt8} {p : T_api_Program} {t : List UInt8} (h : progP l = .inr (p, t)) (g : GoodP p) : l = restP' p ++ t := by
  obtain ⟨⟨d, l1⟩, h1, h⟩ := sb_of h
  obtain ⟨n, h2, h⟩ := sb_of h
  obtain ⟨⟨w, l3⟩, h3, h⟩ := sb_of h
  obtain ⟨m, h4, h⟩ := sb_of h
  obtain ⟨⟨f, l5⟩, h5, h⟩ := sb_of h
  cases h
  have ⟨g1, g2, g3, g4⟩ := g
  dsimp only at *
  have hD := gD_chk h1
  obtain ⟨k1, k2⟩ := two_inr h1
  cases k2
  have e1 := (getDs_inv k1).2
  obtain ⟨W, w1, w2, w3⟩ := repP_inv (g := gW _) (put := putWs) (P := fun _ => True) (fun l x t hh _ => by
    obtain ⟨k1, k2⟩ := two_inr hh
    cases k2
    exact (getNs_inv hD k1).2) _ _ _ _ _ h3 (fun _ _ => trivial)
  obtain ⟨F, f1, f2, f3⟩ := repP_inv (g := fnP) (put := putF) (P := GoodF) (fun l x t hh hx => fnP_inv l x t hh hx) _ _ _ _ _ h5 g4
  rw [List.nil_append] at w1 f1
  subst w1 f1
  unfold restP'
  dsimp only
  rw [w2, f2]
  have e2 := numP_inv (manyP_le h2).2
  have e4 := numP_inv (manyP_le h4).2
  simp only [List.append_assoc]
  rw [← f3, ← e4, ← w3, ← e2]
  exact e1
def NZ {α : Type} (x : Int ⊕ α) : Prop := ∀ e, x = .inl e → e ≠ 0
theorem NZ.two {α : Type} (r : α × Int × List UInt8) : NZ (two r) := fun e h => (two_inl h).2
theorem NZ.inr {α : Type} (y : α) : NZ (.inr y : Int ⊕ α) := fun e h => by cases h
theorem NZ.sb {α β : Type} {x : Int ⊕ α} {k : α → Int ⊕ β} (h : NZ x) (hk : ∀ y, NZ (k y)) : NZ (sb x k) := by
  cases x with
  | inl e => exact fun e' h' => by cases h'; exact h _ rfl
  | inr y => exact hk y
theorem NZ.many (m : Nat) (l : List UInt8) : NZ (manyP m l) := NZ.sb (NZ.two _) fun y => by
  cases iLt (m : Int) (y.1 : Int) with
  | true => exact fun e h => by cases h; decide
  | false => exact NZ.inr _
theorem NZ.rep {α : Type} {g : List UInt8 → Int ⊕ (α × List UInt8)} (hg : ∀ l, NZ (g l)) : ∀ (n : Nat) (l : List UInt8) (acc : List α), NZ (repP g n l acc)
  | 0, l, acc => NZ.inr _
  | n + 1, l, acc => NZ.sb (hg l) fun r => NZ.rep hg n _ _
theorem NZ.fn (l : List UInt8) : NZ (fnP l) := NZ.sb (NZ.two _) fun _ => NZ.sb (NZ.two _) fun _ => NZ.sb (NZ.many _ _) fun _ => NZ.sb (NZ.rep (fun _ => NZ.two _) _ _ _) fun _ => NZ.inr _
theorem progP_nz (l : List UInt8) : NZ (progP l) := NZ.sb (NZ.two _) fun _ => NZ.sb (NZ.many _ _) fun _ => NZ.sb (NZ.rep (fun _ => NZ.two _) _ _ _) fun _ => NZ.sb (NZ.many _ _) fun _ => NZ.sb (NZ.rep NZ.fn _ _ _) fun _ => NZ.inr _
theorem getP_err {l : List UInt8} (h : (getP l).2 ≠ 0) : (getP l).1 = noP := by
  unfold getP at h ⊢
  cases hc : sEq (bs (l.take 3)) (bs headP) with
  | false => rfl
  | true =>
    rw [hc, cond_true] at h
    rw [cond_true]
    cases hp : sb (progP (l.drop 3)) clP with
    | inl e => rfl
    | inr r => rw [hp] at h; exact absurd rfl h
theorem getP_inv {l : List UInt8} (h : (getP l).2 = 0) : chkP (getP l).1 = 0 ∧ l = putP (getP l).1 := by
  unfold getP at h ⊢
  cases hc : sEq (bs (l.take 3)) (bs headP) with
  | false => rw [hc] at h; exact absurd h (by decide : (2 : Int) ≠ 0)
  | true =>
    rw [hc, cond_true] at h
    rw [cond_true]
    have hh : l.take 3 = headP := by
      have := congrArg bl (sEq_iff.1 hc)
      rwa [bl_bs, bl_bs] at this
    cases hp : progP (l.drop 3) with
    | inl e =>
      rw [hp] at h
      exact absurd h (progP_nz _ _ hp)
    | inr r =>
      rw [hp, sb_inr] at h
      rw [sb_inr]
      unfold clP at h ⊢
      cases h0 : iEq (r.2.length : Int) 0 with
      | false => rw [h0] at h; exact absurd h (by decide : (2 : Int) ≠ 0)
      | true =>
        rw [h0, cond_true] at h
        rw [cond_true]
        by_cases hk : chkP r.1 = 0
        · rw [iEq_t hk, cond_true]
          refine ⟨hk, ?_⟩
          have h3 := progP_inv (p := r.1) (t := r.2) hp (GoodP.of hk)
          rw [iEq_iff] at h0
          rw [List.length_eq_zero_iff.1 (show r.2.length = 0 by omega), List.append_nil] at h3
          show l = putP r.1
          rw [putP_eq, ← h3, ← hh, List.take_append_drop]
        · rw [iEq_f hk] at h
          exact absurd h hk
theorem same_l11 (W : List (List T_api_Need)) (i : Nat) (hi : i < W.length) (K : Unit → Option Bool) (hl : (W.getD i default).length ≤ 1000) : ∀ (n j f : Nat), j + n = (W.getD i default).length → n < f → ref09_Same_l11 W W (i : Int) K f (j : Int) = K ()
  | n, j, 0, h, hf => by omega
  | 0, j, f + 1, h, hf => by
    rw [ref09_Same_l11, need_of (nIn_of ⟨by omega, by omega⟩), Int.toNat_natCast, iLt_f (by omega), cond_false]
  | n + 1, j, f + 1, h, hf => by
    have h1 : nIn (i : Int) (W.length : Int) = true := nIn_of ⟨by omega, by omega⟩
    have h2 : nIn (j : Int) ((W.getD i default).length : Int) = true := nIn_of ⟨by omega, by omega⟩
    rw [ref09_Same_l11, Int.toNat_natCast, need_of h1, iLt_t (by omega), cond_true, need_of h1, need_of h2, need_of h1, need_of h2, iEq_t rfl, iEq_t rfl, iEq_t rfl]
    simp only [Bool.and_self, Bool.not_true, cond_false]
    rw [w64 (by omega), show (j : Int) + 1 = ((j + 1 : Nat) : Int) by omega]
    exact same_l11 W i hi K hl n (j + 1) f (by omega) (by omega)
theorem same_l3 (W : List (List T_api_Need)) (hW : W.length ≤ 1000) (hl : ∀ l ∈ W, l.length ≤ 1000) : ∀ (n i f : Nat), i + n = W.length → n < f → ref09_Same_l3 W W f (i : Int) = some true
  | n, i, 0, hi, hf => by omega
  | 0, i, f + 1, hi, hf => by rw [ref09_Same_l3, iLt_f (by omega)]; rfl
  | n + 1, i, f + 1, hi, hf => by
    have h1 : nIn (i : Int) (W.length : Int) = true := nIn_of ⟨by omega, by omega⟩
    have hm := getD_mem W i (by omega)
    rw [ref09_Same_l3, iLt_t (by omega), cond_true, withK_eq, need_of h1, need_of h1, iNe_f rfl, cond_false]
    have := same_l11 W i (by omega) (fun _ => ref09_Same_l3 W W f (IntKind.i64.wrap ((i : Int) + 1))) (hl _ hm) (W.getD i default).length 0 fuel (by omega) (by have := fuel_big; have := hl _ hm; omega)
    refine Eq.trans this ?_
    rw [w64 (by omega), show (i : Int) + 1 = ((i + 1 : Nat) : Int) by omega]
    exact same_l3 W hW hl n (i + 1) f (by omega) (by omega)
theorem same_refl {W : List (List T_api_Need)} (hW : W.length ≤ 1000) (hl : ∀ l ∈ W, l.length ≤ 1000) : ref09_Same W W = some true := by
  unfold ref09_Same
  rw [iNe_f rfl, cond_false]
  exact same_l3 W hW hl W.length 0 fuel (by omega) (by have := fuel_big; omega)
theorem same_good {W : List (List T_api_Need)} (g : GoodW W) : ref09_Same W W = some true :=
  same_refl (by have := g.len; omega) fun l hl => by have := (g.ways l hl).1; omega
theorem sP_l22 (p : T_api_Program) (k : Nat) (K : Unit → Option Bool) (hl : (p.Funcs.getD k default).Code.length ≤ 200) : ∀ (n i f : Nat), i + n = (p.Funcs.getD k default).Code.length → n < f → ref10_Same_l22 p p (k : Int) K f (i : Int) = K ()
  | n, i, 0, hi, hf => by omega
  | 0, i, f + 1, hi, hf => by rw [ref10_Same_l22, Int.toNat_natCast, iLt_f (by omega), cond_false]
  | n + 1, i, f + 1, hi, hf => by
    have h2 : nIn (i : Int) ((p.Funcs.getD k default).Code.length : Int) = true := nIn_of ⟨by omega, by omega⟩
    rw [ref10_Same_l22, Int.toNat_natCast, iLt_t (by omega), cond_true, need_of h2, need_of h2, iEq_t rfl, iEq_t rfl, iEq_t rfl]
    simp only [Bool.and_self, Bool.not_true, cond_false]
    rw [w64 (by omega), show (i : Int) + 1 = ((i + 1 : Nat) : Int) by omega]
    exact sP_l22 p k K hl n (i + 1) f (by omega) (by omega)
theorem sP_l16 (p : T_api_Program) (hF : p.Funcs.length ≤ 16) (hc : ∀ F ∈ p.Funcs, F.Code.length ≤ 200) : ∀ (n i f : Nat), i + n = p.Funcs.length → n < f → ref10_Same_l16 p p f (i : Int) = some true
  | n, i, 0, hi, hf => by omega
  | 0, i, f + 1, hi, hf => by rw [ref10_Same_l16, iLt_f (by omega)]; rfl
  | n + 1, i, f + 1, hi, hf => by
    have h1 : nIn (i : Int) (p.Funcs.length : Int) = true := nIn_of ⟨by omega, by omega⟩
    have hm := hc _ (getD_mem p.Funcs i (by omega))
    rw [ref10_Same_l16, iLt_t (by omega), cond_true, withK_eq, need_of h1, need_of h1, iNe_f rfl, iNe_f rfl, iNe_f rfl]
    simp only [Bool.or_self, cond_false]
    have := sP_l22 p i (fun _ => ref10_Same_l16 p p f (IntKind.i64.wrap ((i : Int) + 1))) hm (p.Funcs.getD i default).Code.length 0 fuel (by omega) (by have := fuel_big; omega)
    refine Eq.trans this ?_
    rw [w64 (by omega), show (i : Int) + 1 = ((i + 1 : Nat) : Int) by omega]
    exact sP_l16 p hF hc n (i + 1) f (by omega) (by omega)
theorem sP_l9 (p : T_api_Program) (hF : p.Funcs.length ≤ 16) (hc : ∀ F ∈ p.Funcs, F.Code.length ≤ 200) (hW : p.Waits.length ≤ 32) (hw : ∀ w ∈ p.Waits, ref09_Same w w = some true) : ∀ (n i f : Nat), i + n = p.Waits.length → n < f → ref10_Same_l9 p p f (i : Int) = some true
  | n, i, 0, hi, hf => by omega
  | 0, i, f + 1, hi, hf => by
    rw [ref10_Same_l9, iLt_f (by omega), cond_false]
    exact sP_l16 p hF hc p.Funcs.length 0 fuel (by omega) (by have := fuel_big; omega)
  | n + 1, i, f + 1, hi, hf => by
    have h1 : nIn (i : Int) (p.Waits.length : Int) = true := nIn_of ⟨by omega, by omega⟩
    rw [ref10_Same_l9, iLt_t (by omega), cond_true, need_of h1, need_of h1, Int.toNat_natCast, hw _ (getD_mem p.Waits i (by omega)), bind_some', Bool.not_true, cond_false, w64 (by omega), show (i : Int) + 1 = ((i + 1 : Nat) : Int) by omega]
    exact sP_l9 p hF hc hW hw n (i + 1) f (by omega) (by omega)
theorem sP_l3 (p : T_api_Program) (hF : p.Funcs.length ≤ 16) (hc : ∀ F ∈ p.Funcs, F.Code.length ≤ 200) (hW : p.Waits.length ≤ 32) (hw : ∀ w ∈ p.Waits, ref09_Same w w = some true) (hD : p.Decls.length ≤ 32) : ∀ (n i f : Nat), i + n = p.Decls.length → n < f → ref10_Same_l3 p p f (i : Int) = some true
  | n, i, 0, hi, hf => by omega
  | 0, i, f + 1, hi, hf => by
    rw [ref10_Same_l3, iLt_f (by omega), cond_false]
    exact sP_l9 p hF hc hW hw p.Waits.length 0 fuel (by omega) (by have := fuel_big; omega)
  | n + 1, i, f + 1, hi, hf => by
    have h1 : nIn (i : Int) (p.Decls.length : Int) = true := nIn_of ⟨by omega, by omega⟩
    rw [ref10_Same_l3, iLt_t (by omega), cond_true, need_of h1, need_of h1, iEq_t rfl, iEq_t rfl, iEq_t rfl]
    simp only [Bool.and_self, Bool.not_true, cond_false]
    rw [w64 (by omega), show (i : Int) + 1 = ((i + 1 : Nat) : Int) by omega]
    exact sP_l3 p hF hc hW hw hD n (i + 1) f (by omega) (by omega)
theorem sameP {p : T_api_Program} (hF : p.Funcs.length ≤ 16) (hc : ∀ F ∈ p.Funcs, F.Code.length ≤ 200) (hW : p.Waits.length ≤ 32) (hw : ∀ w ∈ p.Waits, ref09_Same w w = some true) (hD : p.Decls.length ≤ 32) : ref10_Same p p = some true := by
  unfold ref10_Same
  rw [iNe_f rfl, iNe_f rfl, iNe_f rfl]
  simp only [Bool.or_self, cond_false]
  exact sP_l3 p hF hc hW hw hD p.Decls.length 0 fuel (by omega) (by have := fuel_big; omega)
theorem sameP_good {p : T_api_Program} (g : GoodP p) : ref10_Same p p = some true :=
  sameP g.funcs.2 (fun F hF => (g.fns F hF).code.2) g.waits.1 (fun w hw => same_good (g.wait w hw)) (chkL_len g.decls).1
theorem sameP_no : ref10_Same noP noP = some true := sameP (by simp [noP]) (by simp [noP]) (by simp [noP]) (by simp [noP]) (by simp [noP])
theorem sameP_get (l : List UInt8) : ref10_Same (getP l).1 (getP l).1 = some true := by
  by_cases h : (getP l).2 = 0
  · exact sameP_good (GoodP.of (getP_inv h).1)
  · rw [getP_err h]; exact sameP_no
theorem ProgGets_pure {s : ByteArray} (hs : s.size ≤ 140737488351232) : law10_ProgGets s = some true := by
  unfold law10_ProgGets
  rw [prog_Get_eq (by omega), bind_some', ref10_Get_eq (by omega), bind_some', sameP_get, bind_some', iEq_t rfl, lives10]
  rfl
theorem ProgOnce_pure {s : ByteArray} (hs : s.size ≤ 140737488351232) : law10_ProgOnce s = some true := by
  unfold law10_ProgOnce
  rw [prog_Get_eq (by omega), bind_some']
  by_cases h : (getP (bl s)).2 = 0
  · obtain ⟨h1, h2⟩ := getP_inv h
    rw [iNe_f h, cond_false, prog_Put_ok h1, bind_some', ← h2, bs_bl]
    dsimp only
    rw [iEq_t rfl, sEq_t rfl, lives10]
    rfl
  · rw [iNe_t h, cond_true, getP_err h, show ref10_Same noP ⟨[], [], []⟩ = some true from sameP_no, bind_some', cond_true, lives10]
    rfl
theorem ProgBack_pure {p : T_api_Program} {s : ByteArray} (hs : s.size ≤ 140737488351232) : law10_ProgBack p s = some true := by
  unfold law10_ProgBack
  rw [ref10_Check_eq, bind_some']
  by_cases h : chkP p = 0
  · have g := GoodP.of h
    have hl := putP_len g
    have hp : 3 ≤ (putP p).length := by rw [putP_eq, List.length_append]; exact Nat.le_add_right _ _
    have hb : bl (bs (putP p) ++ s) = putP p ++ bl s := by simp
    have hx : (bs (putP p)).extract 0 (IntKind.i64.wrap (((bs (putP p)).size : Int) - 1)).toNat = bs ((putP p).take ((putP p).length - 1)) := by
      apply bl_inj
      rw [bl_extract, bl_bs, bl_bs, List.drop_zero, bs_size, w64 (by omega), show (((putP p).length : Int) - 1).toNat = (putP p).length - 1 by omega]
    have hshort : (getP ((putP p).take ((putP p).length - 1))).2 ≠ 0 := fun h0 => by
      obtain ⟨h1, h2⟩ := getP_inv h0
      have e := List.take_append_drop ((putP p).length - 1) (putP p)
      have hne : (putP p).drop ((putP p).length - 1) ≠ [] := fun he => by
        have := congrArg List.length he
        rw [List.length_drop, List.length_nil] at this
        omega
      have := getP_more h1 hne
      rw [← h2, e, getP_put h] at this
      cases this
    rw [iNe_f h, cond_false, own10, ownP_good g, bind_some', prog_Put_ok h, bind_some', prog_Get_eq (by rw [bs_size]; omega), bind_some', bl_bs, getP_put h]
    dsimp only
    rw [iNe_f rfl, Bool.or_self, Bool.not_false, cond_true, sameP_good g, bind_some', Bool.not_true, Bool.or_self, cond_false, need_of (nStr_of (by rw [bs_size]; omega)), prog_Get_eq (by rw [ByteArray.size_append, bs_size]; omega), bind_some', need_of (nTo_of (by rw [bs_size, w64 (by omega)]; omega)), hx, prog_Get_eq (by rw [bs_size, List.length_take]; omega), bind_some', hb, bl_bs]
    by_cases h0 : s = ByteArray.empty
    · have e : getP (putP p ++ bl s) = (p, 0) := by
        rw [h0, show bl ByteArray.empty = [] from rfl, List.append_nil, getP_put h]
      rw [e, iEq_t rfl, sEq_t h0, iNe_t hshort, lives10]
      rfl
    · have e : (getP (putP p ++ bl s)).2 = 2 := getP_more h fun he => h0 (bl_inj (he.trans rfl))
      rw [e, iEq_f (by decide), sEq_f h0, iNe_t hshort, lives10]
      rfl
  · rw [iNe_t h, cond_true, lives10]; rfl
end LJ
end
