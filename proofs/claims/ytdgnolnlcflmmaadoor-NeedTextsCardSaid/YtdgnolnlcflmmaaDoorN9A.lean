/- Plain laws of waits: what is wrong with a need, with a way, with a wait. -/
import Derived.Test.YtdgnolnlcflmmaaDoorD9A
import Derived.Test.YtdgnolnlcflmmaaDoorP02C
namespace LJ
open Go Go.RowKit
set_option linter.unusedVariables false
set_option linter.unusedSimpArgs false

def kindN (k : Int) : Int := cond (iEq k 1) 1 (cond (iEq k 2 || iEq k 3) 2 (cond (iEq k 4) 3 6))
/-- What is wrong with a need. -/
def badN (L : List T_api_Decl) (x : T_api_Need) : Int :=
  cond (iLt x.Kind 1 || iLt 5 x.Kind) 6 (cond (iLt x.Obj 0 || iLe (L.length : Int) x.Obj) 1 (cond (iEq (L.getD x.Obj.toNat default).Kind (kindN x.Kind))
    (cond (iEq x.Kind 4) (cond (iLt x.N 1 || iLt (L.getD x.Obj.toNat default).B x.N) 1 0) (cond (iEq x.Kind 5) (cond (iLt x.N 1 || iLt (L.getD x.Obj.toNat default).A x.N) 1 0) (cond (iLt x.N 0 || iLt 0 x.N) 1 0))) 1))
theorem ne_not (a b : Int) : iNe a b = !iEq a b := by unfold iNe iEq; simp
theorem kinds_at {k : Int} (h : 1 ≤ k ∧ k ≤ 5) : ([0, 1, 2, 2, 3, 6] : List Int).getD k.toNat default = kindN k := by
  have h5 : k = 1 ∨ k = 2 ∨ k = 3 ∨ k = 4 ∨ k = 5 := by omega
  rcases h5 with rfl | rfl | rfl | rfl | rfl <;> decide
theorem need_one_eq (L : List T_api_Decl) (x : T_api_Need) : need_one L x = some (badN L x) := by
  unfold need_one badN need_counted
  simp only [decl_Fits_eq, bind_some']
  by_cases h : x.Kind < 1 ∨ 5 < x.Kind
  · rw [show (iLt x.Kind 1 || iLt 5 x.Kind) = true by simp only [Bool.or_eq_true, iLt_iff]; exact h, cond_true]
    rw [iEq_f (show x.Kind ≠ 1 by omega), iEq_f (show x.Kind ≠ 2 by omega), iEq_f (show x.Kind ≠ 3 by omega), iEq_f (show x.Kind ≠ 4 by omega), iEq_f (show x.Kind ≠ 5 by omega)]
    rfl
  · rw [show (iLt x.Kind 1 || iLt 5 x.Kind) = false by simp only [Bool.or_eq_false_iff, iLt_iff']; omega, cond_false]
    have h5 : x.Kind = 1 ∨ x.Kind = 2 ∨ x.Kind = 3 ∨ x.Kind = 4 ∨ x.Kind = 5 := by omega
    unfold fitD fitK kindN
    cases h2 : (iLt x.Obj 0 || iLe (L.length : Int) x.Obj) with
    | true =>
      rcases h5 with e | e | e | e | e <;> rw [e] <;> rfl
    | false =>
      simp only [Bool.or_eq_false_iff, iLt_iff', iLe_iff'] at h2
      have hn : nIn x.Obj (L.length : Int) = true := nIn_of h2
      have lt : iLt x.N 1 = true → iLt x.N 0 = true ∨ iLt x.N 0 = false := fun _ => by cases iLt x.N 0 <;> simp
      have l01 : (iLt x.N 1 || iLt x.N 0) = iLt x.N 1 := by
        rw [Bool.eq_iff_iff]; simp only [Bool.or_eq_true, iLt_iff]; omega
      rcases h5 with e | e | e | e | e <;> rw [e] <;> simp only [show iEq 1 1 = true from rfl, show iEq 1 2 = false from rfl, show iEq 1 3 = false from rfl, show iEq 1 4 = false from rfl, show iEq 1 5 = false from rfl, show iEq 2 1 = false from rfl, show iEq 2 2 = true from rfl, show iEq 2 3 = false from rfl, show iEq 2 4 = false from rfl, show iEq 2 5 = false from rfl, show iEq 3 1 = false from rfl, show iEq 3 2 = false from rfl, show iEq 3 3 = true from rfl, show iEq 3 4 = false from rfl, show iEq 3 5 = false from rfl, show iEq 4 1 = false from rfl, show iEq 4 2 = false from rfl, show iEq 4 3 = false from rfl, show iEq 4 4 = true from rfl, show iEq 4 5 = false from rfl, show iEq 5 1 = false from rfl, show iEq 5 2 = false from rfl, show iEq 5 3 = false from rfl, show iEq 5 4 = false from rfl, show iEq 5 5 = true from rfl, show iEq 109 117 = false from rfl, show iEq 109 115 = false from rfl, show iEq 109 112 = false from rfl, show iEq 109 99 = false from rfl, show iEq 109 109 = true from rfl, show iEq 117 117 = true from rfl, show iEq 115 117 = false from rfl, show iEq 115 115 = true from rfl, show iEq 112 117 = false from rfl, show iEq 112 115 = false from rfl, show iEq 112 112 = true from rfl, hn, Bool.or_true, need_of, cond_true, cond_false, Bool.false_or, Bool.or_false, Bool.true_or, Bool.false_and, Bool.true_and, Bool.not_not, Bool.and_true, Bool.and_false, ne_not, cond_some, l01]
      all_goals
        generalize hK : (L.getD x.Obj.toNat default).Kind = K
        first
          | (cases iEq K 1 <;> rfl)
          | (cases iEq K 3 <;> rfl)
          | (cases iEq K 6 <;> rfl)
          | (by_cases hK1 : K = 1
             · subst hK1; rfl
             · rw [iEq_f hK1]; cases iEq K 2 <;> rfl)
/-- The first error of needs. -/
def firstN (L : List T_api_Decl) : List T_api_Need → Int
  | [] => 0
  | x :: t => cond (iNe (badN L x) 0) (badN L x) (firstN L t)
def pairN (l : List T_api_Need) (j k : Nat) : Bool := (iEq (l.getD j default).Obj (l.getD k default).Obj || iEq (l.getD j default).Kind 4) || iEq (l.getD k default).Kind 4
def hit (l : List T_api_Need) (k : Nat) : Nat → Nat → Bool
  | 0, _ => false
  | n + 1, i => pairN l i k || hit l k n (i + 1)
def hits (l : List T_api_Need) : Nat → Nat → Bool
  | 0, _ => false
  | n + 1, k => hit l k k 0 || hits l n (k + 1)
def badW (L : List T_api_Decl) (l : List T_api_Need) : Int :=
  cond (iEq (l.length : Int) 0) 2 (cond (iLt 4 (l.length : Int)) 4 (cond (iNe (firstN L l) 0) (firstN L l) (cond (hits l l.length 0) 2 0)))
def firstW (L : List T_api_Decl) : List (List T_api_Need) → Int
  | [] => 0
  | l :: t => cond (iNe (badW L l) 0) (badW L l) (firstW L t)
/-- What is wrong with a wait. -/
def chkW (L : List T_api_Decl) (W : List (List T_api_Need)) : Int := cond (iEq (W.length : Int) 0) 2 (cond (iLt 4 (W.length : Int)) 4 (firstW L W))
theorem withK_eq {α β γ : Type} (K : α → β) (f : (α → β) → γ) : withK K f = f K := rfl
theorem cond_or {α : Type} (a b : Bool) (x y : α) : cond (a || b) x y = cond a x (cond b x y) := by cases a <;> rfl
/-! ### The program's own -/
theorem badN_ok {L : List T_api_Decl} {x : T_api_Need} (h : badN L x = 0) : (1 ≤ x.Kind ∧ x.Kind ≤ 5) ∧ (0 ≤ x.Obj ∧ x.Obj < L.length) ∧ (L.getD x.Obj.toNat default).Kind = kindN x.Kind ∧ 0 ≤ x.N ∧ (x.Kind = 4 → x.N ≤ (L.getD x.Obj.toNat default).B) ∧ (x.Kind = 5 → x.N ≤ (L.getD x.Obj.toNat default).A) ∧ (x.Kind ≤ 3 → x.N = 0) := by
  unfold badN at h
  cases h1 : (iLt x.Kind 1 || iLt 5 x.Kind) with
  | true => rw [h1, cond_true] at h; cases h
  | false =>
    rw [h1, cond_false] at h
    simp only [Bool.or_eq_false_iff, iLt_iff'] at h1
    cases h2 : (iLt x.Obj 0 || iLe (L.length : Int) x.Obj) with
    | true => rw [h2, cond_true] at h; cases h
    | false =>
      rw [h2, cond_false] at h
      simp only [Bool.or_eq_false_iff, iLt_iff', iLe_iff'] at h2
      cases h3 : iEq (L.getD x.Obj.toNat default).Kind (kindN x.Kind) with
      | false => rw [h3, cond_false] at h; cases h
      | true =>
        rw [h3, cond_true] at h
        rw [iEq_iff] at h3
        refine ⟨by omega, by omega, h3, ?_⟩
        by_cases k4 : x.Kind = 4
        · rw [iEq_t k4, cond_true] at h
          cases h4 : (iLt x.N 1 || iLt (L.getD x.Obj.toNat default).B x.N) with
          | true => rw [h4] at h; cases h
          | false => simp only [Bool.or_eq_false_iff, iLt_iff'] at h4; omega
        · rw [iEq_f k4, cond_false] at h
          by_cases k5 : x.Kind = 5
          · rw [iEq_t k5, cond_true] at h
            cases h4 : (iLt x.N 1 || iLt (L.getD x.Obj.toNat default).A x.N) with
            | true => rw [h4] at h; cases h
            | false => simp only [Bool.or_eq_false_iff, iLt_iff'] at h4; omega
          · rw [iEq_f k5, cond_false] at h
            cases h4 : (iLt x.N 0 || iLt 0 x.N) with
            | true => rw [h4] at h; cases h
            | false => simp only [Bool.or_eq_false_iff, iLt_iff'] at h4; omega
theorem firstN_ok {L : List T_api_Decl} : ∀ {l : List T_api_Need}, firstN L l = 0 → ∀ x ∈ l, badN L x = 0
  | [], h => fun x hx => by cases hx
  | y :: t, h => by
    unfold firstN at h
    by_cases hy : badN L y = 0
    · rw [iNe_f hy, cond_false] at h
      intro x hx
      rcases List.mem_cons.1 hx with rfl | hx
      · exact hy
      · exact firstN_ok h x hx
    · rw [iNe_t hy, cond_true] at h; exact absurd h hy
/-- A set with the objects of needs. -/
def withs (s : Nat) : List T_api_Need → Nat
  | [] => s
  | x :: t => withs (s ||| 2 ^ x.Obj.toNat) t
theorem pc_put : ∀ (i k x : Nat), i < k → x.testBit i = false → pc k (x + 2 ^ i) = pc k x + 1
  | 0, k + 1, x, hi, h => by
    rw [Nat.testBit_zero] at h
    simp only [decide_eq_false_iff_not] at h
    rw [pc, pc, Nat.pow_zero, show (x + 1) / 2 = x / 2 by omega]
    omega
  | i + 1, k + 1, x, hi, h => by
    rw [Nat.testBit_succ] at h
    have e1 : (x + 2 ^ (i + 1)) % 2 = x % 2 := by rw [Nat.pow_succ]; omega
    have e2 : (x + 2 ^ (i + 1)) / 2 = x / 2 + 2 ^ i := by rw [Nat.pow_succ]; omega
    rw [pc, pc, e1, e2, pc_put i k (x / 2) (by omega) h]
    omega
theorem or_lt {s i : Nat} (hs : s < 2 ^ 64) (hi : i < 64) : s ||| 2 ^ i < 2 ^ 64 := Nat.or_lt_two_pow hs (Nat.pow_lt_pow_right (by decide) hi)
theorem withs_pc : ∀ (l : List T_api_Need) (s : Nat), (∀ x ∈ l, x.Obj.toNat < 64) → pc 64 (withs s l) ≤ pc 64 s + l.length ∧ (pc 64 (withs s l) = pc 64 s + l.length ↔ (∀ x ∈ l, s.testBit x.Obj.toNat = false) ∧ l.Pairwise fun x y => x.Obj.toNat ≠ y.Obj.toNat)
  | [], s, h => by simp [withs]
  | x :: t, s, h => by
    obtain ⟨h1, h2⟩ := withs_pc t (s ||| 2 ^ x.Obj.toNat) fun y hy => h y (List.mem_cons_of_mem _ hy)
    have hx := h x (List.mem_cons_self ..)
    rw [withs, List.length_cons]
    have ho := or_pow x.Obj.toNat s
    cases hb : s.testBit x.Obj.toNat with
    | true =>
      rw [hb, if_pos rfl] at ho
      rw [ho] at h1 ⊢
      refine ⟨by omega, ⟨fun h => by omega, fun h => ?_⟩⟩
      have := h.1 x (List.mem_cons_self ..)
      rw [hb] at this; cases this
    | false =>
      rw [hb, if_neg Bool.false_ne_true] at ho
      have hp := pc_put x.Obj.toNat 64 s hx hb
      rw [← ho] at hp
      rw [hp] at h1 h2
      refine ⟨by omega, ?_⟩
      rw [show pc 64 s + (t.length + 1) = pc 64 s + 1 + t.length by omega, h2, List.pairwise_cons]
      constructor
      · rintro ⟨a, b⟩
        refine ⟨fun y hy => ?_, fun y hy he => ?_, b⟩
        · rcases List.mem_cons.1 hy with rfl | hy
          · exact hb
          · have := a y hy
            rw [Nat.testBit_or, Bool.or_eq_false_iff] at this
            exact this.1
        · have := a y hy
          rw [← he, Nat.testBit_or, Nat.testBit_two_pow] at this
          simp at this
      · rintro ⟨a, b, c⟩
        refine ⟨fun y hy => ?_, c⟩
        rw [Nat.testBit_or, a y (List.mem_cons_of_mem _ hy), Nat.testBit_two_pow, Bool.false_or]
        exact decide_eq_false (b y hy)
theorem hit_iff (l : List T_api_Need) (k : Nat) : ∀ n i, hit l k n i = true ↔ ∃ j, i ≤ j ∧ j < i + n ∧ pairN l j k = true
  | 0, i => by simp [hit]; intro j h1 h2; omega
  | n + 1, i => by
    rw [hit, Bool.or_eq_true, hit_iff l k n (i + 1)]
    constructor
    · rintro (h | ⟨j, h1, h2, h3⟩)
      · exact ⟨i, by omega, by omega, h⟩
      · exact ⟨j, by omega, by omega, h3⟩
    · rintro ⟨j, h1, h2, h3⟩
      rcases Nat.eq_or_lt_of_le h1 with rfl | h1
      · exact .inl h3
      · exact .inr ⟨j, h1, by omega, h3⟩
theorem hits_iff (l : List T_api_Need) : ∀ n i, hits l n i = true ↔ ∃ j k, i ≤ k ∧ k < i + n ∧ j < k ∧ pairN l j k = true
  | 0, i => by simp [hits]; intro j k h1 h2; omega
  | n + 1, i => by
    rw [hits, Bool.or_eq_true, hits_iff l n (i + 1), hit_iff]
    constructor
    · rintro (⟨j, h1, h2, h3⟩ | ⟨j, k, h1, h2, h3, h4⟩)
      · exact ⟨j, i, by omega, by omega, by omega, h3⟩
      · exact ⟨j, k, by omega, by omega, h3, h4⟩
    · rintro ⟨j, k, h1, h2, h3, h4⟩
      rcases Nat.eq_or_lt_of_le h1 with rfl | h1
      · exact .inl ⟨j, by omega, by omega, h4⟩
      · exact .inr ⟨j, k, h1, by omega, h3, h4⟩
theorem doubles {l : List T_api_Need} (h64 : ∀ x ∈ l, 0 ≤ x.Obj ∧ x.Obj < 64) : (iLt ((pc 64 (withs 0 l) : Nat) : Int) (l.length : Int) || (l.any (fun x => iEq x.Kind 4) && iLt 1 (l.length : Int))) = hits l l.length 0 := by
  obtain ⟨h1, h2⟩ := withs_pc l 0 fun x hx => by have := h64 x hx; omega
  rw [pc_zero, Nat.zero_add] at h1 h2
  have hmem : ∀ j, j < l.length → l.getD j default ∈ l := fun j hj => by
    rw [List.getD_eq_getElem?_getD, List.getElem?_eq_getElem hj]; exact List.getElem_mem hj
  have hpw : (l.Pairwise fun x y => x.Obj.toNat ≠ y.Obj.toNat) ↔ ∀ j k, j < k → k < l.length → (l.getD j default).Obj ≠ (l.getD k default).Obj := by
    rw [List.pairwise_iff_getElem]
    constructor
    · intro h j k hjk hk he
      have := h j k (by omega) hk hjk
      simp only [List.getD_eq_getElem?_getD, List.getElem?_eq_getElem hk, List.getElem?_eq_getElem (show j < l.length by omega), Option.getD_some] at he
      exact this (by rw [he])
    · intro h j k hj hk hjk he
      have e := h j k hjk hk
      have a := h64 _ (hmem j hj)
      have b := h64 _ (hmem k hk)
      simp only [List.getD_eq_getElem?_getD, List.getElem?_eq_getElem hk, List.getElem?_eq_getElem hj, Option.getD_some] at e a b
      exact e (by omega)
  rw [Bool.eq_iff_iff, Bool.or_eq_true, Bool.and_eq_true, iLt_iff, iLt_iff, hits_iff, List.any_eq_true]
  constructor
  · rintro (h | ⟨⟨x, hx, hk⟩, hl⟩)
    · have hn : ¬ (l.Pairwise fun x y => x.Obj.toNat ≠ y.Obj.toNat) := fun hp => by
        have := h2.2 ⟨fun x _ => by simp, hp⟩
        omega
      rw [hpw] at hn
      simp only [Classical.not_forall, not_imp, Decidable.not_not] at hn
      obtain ⟨j, k, a, b, c⟩ := hn
      exact ⟨j, k, by omega, by omega, a, by unfold pairN; rw [iEq_t c]; rfl⟩
    · obtain ⟨m, hm, rfl⟩ := List.mem_iff_getElem.1 hx
      have e : l.getD m default = l[m] := by simp [List.getD_eq_getElem?_getD, hm]
      by_cases h0 : m = 0
      · subst h0
        exact ⟨0, 1, by omega, by omega, by omega, by unfold pairN; rw [e, hk]; simp⟩
      · exact ⟨0, m, by omega, by omega, by omega, by unfold pairN; rw [e, hk]; simp⟩
  · rintro ⟨j, k, -, hk, hjk, hp⟩
    rw [Nat.zero_add] at hk
    unfold pairN at hp
    rw [Bool.or_eq_true, Bool.or_eq_true, iEq_iff] at hp
    rcases hp with (hp | hp) | hp
    · left
      rcases Nat.eq_or_lt_of_le h1 with he | hlt
      · exact absurd hp (hpw.1 (h2.1 he).2 j k hjk hk)
      · omega
    · exact .inr ⟨⟨_, hmem j (by omega), hp⟩, by omega⟩
    · exact .inr ⟨⟨_, hmem k hk, hp⟩, by omega⟩
theorem With_eq {s : Nat} {o : Int} (hs : s < 18446744073709551616) (ho : 0 ≤ o ∧ o < 64) : bits_Set_With (s : Int) o = some ((s ||| 2 ^ o.toNat : Nat) : Int) := by
  unfold bits_Set_With bits_one
  rw [show (iLt o 0 || iLt 63 o) = false by simp only [Bool.or_eq_false_iff, iLt_iff']; omega, cond_false, need_of (nNn_of ho.1), bind_some']
  have hp : 2 ^ o.toNat < 2 ^ 64 := Nat.pow_lt_pow_right (by decide) (by omega)
  have hm : min o.toNat IntKind.u64.bits = o.toNat := Nat.min_eq_left (by show o.toNat ≤ 64; omega)
  rw [hm, Int.one_mul, show ((2 : Int) ^ o.toNat) = ((2 ^ o.toNat : Nat) : Int) by simp, wu hp, bits_or_u64_nat _ _ hs hp]
theorem way_l4 {L : List T_api_Decl} (hL : L.length ≤ 32) {l : List T_api_Need} (h4 : l.length ≤ 4) : ∀ (n i f s : Nat) (d : Bool), i + n = l.length → n < f → s < 18446744073709551616 →
    need_way_l4 L l f ((s : Int), d, (i : Int)) = cond (iNe (firstN L (l.drop i)) 0) (some (firstN L (l.drop i))) (cond (iLt ((pc 64 (withs s (l.drop i)) : Nat) : Int) (l.length : Int) || ((d || (l.drop i).any (fun x => iEq x.Kind 4)) && iLt 1 (l.length : Int))) (some 2) (some 0))
  | n, i, 0, s, d, hi, hf, hs => by omega
  | 0, i, f + 1, s, d, hi, hf, hs => by
    rw [need_way_l4]
    dsimp only
    rw [iLt_f (by omega), cond_false, List.drop_eq_nil_of_le (by omega), firstN, iNe_f rfl, cond_false, bits_Set_Count, count64 hs, bind_some', bind_some', cnt_pc, withs, List.any_nil, Bool.or_false]
  | n + 1, i, f + 1, s, d, hi, hf, hs => by
    rw [need_way_l4]
    dsimp only
    rw [iLt_t (by omega), cond_true, need_of (nIn_of ⟨by omega, by omega⟩), need_one_eq, bind_some', getD_drop l i (by omega), firstN, Int.toNat_natCast]
    by_cases hb : badN L (l.getD i default) = 0
    · obtain ⟨_, ho, _⟩ := badN_ok hb
      rw [iNe_f hb, cond_false, cond_false, With_eq hs (by omega), bind_some', w64 (by omega), show (i : Int) + 1 = ((i + 1 : Nat) : Int) by omega, way_l4 hL h4 n (i + 1) f _ _ (by omega) (by omega) (or_lt hs (by omega)), withs, List.any_cons, Bool.or_assoc]
    · rw [iNe_t hb, cond_true, cond_true, iNe_t hb, cond_true]
theorem need_way_eq {L : List T_api_Decl} (hL : L.length ≤ 32) (l : List T_api_Need) : need_way L l = some (badW L l) := by
  unfold need_way badW
  by_cases h0 : (l.length : Int) = 0
  · rw [iEq_t h0]; rfl
  · rw [iEq_f h0, cond_false, cond_false]
    by_cases h4 : 4 < (l.length : Int)
    · rw [iLt_t h4]; rfl
    · rw [iLt_f (by omega), cond_false, cond_false]
      have := way_l4 hL (l := l) (by omega) l.length 0 fuel 0 false (by omega) (by have := fuel_big; omega) (by decide)
      refine Eq.trans this ?_
      rw [List.drop_zero]
      by_cases hb : firstN L l = 0
      · rw [iNe_f hb, cond_false, cond_false, Bool.false_or, doubles (fun x hx => by obtain ⟨_, h, _⟩ := badN_ok (firstN_ok hb x hx); omega), cond_some]
      · rw [iNe_t hb, cond_true, cond_true]
theorem check_l4 {L : List T_api_Decl} (hL : L.length ≤ 32) {W : List (List T_api_Need)} (hW : W.length ≤ 4) : ∀ (n i f : Nat), i + n = W.length → n < f → need_Check_l4 L W f (i : Int) = some (firstW L (W.drop i))
  | n, i, 0, hi, hf => by omega
  | 0, i, f + 1, hi, hf => by
    rw [need_Check_l4, iLt_f (by omega), cond_false, List.drop_eq_nil_of_le (by omega)]
    rfl
  | n + 1, i, f + 1, hi, hf => by
    rw [need_Check_l4, iLt_t (by omega), cond_true, need_of (nIn_of ⟨by omega, by omega⟩), need_way_eq hL, bind_some', w64 (by omega), show (i : Int) + 1 = ((i + 1 : Nat) : Int) by omega, check_l4 hL hW n (i + 1) f (by omega) (by omega), getD_drop W i (by omega), firstW, cond_some, Int.toNat_natCast]
theorem need_Check_eq {L : List T_api_Decl} (hL : L.length ≤ 32) (W : List (List T_api_Need)) : need_Check L W = some (chkW L W) := by
  unfold need_Check chkW
  by_cases h0 : (W.length : Int) = 0
  · rw [iEq_t h0]; rfl
  · rw [iEq_f h0, cond_false, cond_false]
    by_cases h4 : 4 < (W.length : Int)
    · rw [iLt_t h4]; rfl
    · rw [iLt_f (by omega), cond_false, cond_false]
      exact check_l4 hL (by omega) W.length 0 fuel (by omega) (by have := fuel_big; omega)
end LJ
