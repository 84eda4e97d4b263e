/- Several texts of plain Lean, one behind the other. No condition. -/
import Derived.Test.YthgjdnknjofdjaaDoorPF
import Derived.Test.YthgjdnknjofdjaaDoorXPB
import Derived.Test.YthgjdnknjofdjaaDoorQA
import Derived.Laws.BitsAllLaws
import Derived.Test.YthgjdnknjofdjaaDoorQB
/- The law BitsBelow, plainly. -/
section
namespace LJ
open Go Go.RowKit
set_option linter.unusedVariables false
set_option linter.unusedSimpArgs false

end LJ
end

/- Plain laws of bits: what each function says of the list of a set's numbers. -/
section
namespace LJ
open Go Go.RowKit
set_option linter.unusedVariables false
set_option linter.unusedSimpArgs false

theorem tmod2 (x : Nat) : Int.tmod (x : Int) 2 = ((x % 2 : Nat) : Int) := by
 rw [Int.tmod_eq_emod_of_nonneg (by omega)]; omega
theorem tdiv2 (x : Nat) : Int.tdiv (x : Int) 2 = ((x / 2 : Nat) : Int) := by
 rw [Int.tdiv_eq_ediv_of_nonneg (by omega)]; omega
def bt (x : Nat) : List Int := ls 64 0 x
theorem list_l2 : ∀ (k n f x : Nat) (acc : List Int), n + k = 64 → k < f → x < 18446744073709551616 → acc.length ≤ n → ref02_List_l2 f ((x : Int), (n : Int), acc) = some (acc ++ ls k n x)
 | k, n, 0, x, acc, hn, hf, hx, ha => by omega
 | 0, n, f + 1, x, acc, hn, hf, hx, ha => by
  rw [ref02_List_l2]
  dsimp only
  rw [iLt_f (by omega), cond_false, ls, List.append_nil]
 | k + 1, n, f + 1, x, acc, hn, hf, hx, ha => by
  rw [ref02_List_l2]
  dsimp only
  rw [iLt_t (by omega), cond_true, tmod2, tdiv2, wu (by omega), w64 (by omega), show (n : Int) + 1 = ((n + 1 : Nat) : Int) by omega, ls]
  by_cases h : x % 2 = 1
  ·rw [iEq_t (by omega), cond_true, need_of (nCap_of (by simp; omega)), list_l2 k (n + 1) f _ _ (by omega) (by omega) (by omega) (by simp; omega), if_pos h]
   simp
  ·rw [iEq_f (by omega), cond_false, list_l2 k (n + 1) f _ _ (by omega) (by omega) (by omega) (by omega), if_neg h]
theorem ref_List {x : Nat} (hx : x < 18446744073709551616) : ref02_List (x : Int) = some (bt x) := by
 unfold ref02_List
 rw [show (0 : Int) = ((0 : Nat) : Int) from rfl, list_l2 64 0 fuel x [] (by omega) (by have := fuel_big; omega) hx (by simp), List.nil_append]
 rfl
theorem deb_fin : ∀ k : Fin 64, 2 ^ (k : Nat) * 285870213051353865 % 18446744073709551616 / 288230376151711744 < 64 ∧ G_math_bits_deBruijn64tab.getD (2 ^ (k : Nat) * 285870213051353865 % 18446744073709551616 / 288230376151711744) default = ((k : Nat) : Int) := by decide +kernel
theorem tz64 {x : Nat} (hx : x < 18446744073709551616) (h0 : x ≠ 0) : bits_TrailingZeros64 (x : Int) = some ((Lib.ctzFrom 64 x : Nat) : Int) := by
 obtain ⟨h1, h2⟩ := Lib.lowest_bit 64 x h0 hx
 have hc : Lib.ctz 64 x = Lib.ctzFrom 64 x := by unfold Lib.ctz; rw [if_neg h0]
 rw [hc] at h1 h2
 have hd := deb_fin ⟨_, h2⟩
 dsimp only at hd
 unfold bits_TrailingZeros64
 have e0 : IntKind.u64.wrap (0 - (x : Int)) = ((2 ^ 64 - x : Nat) : Int) := by rw [IntKind.wrap_u64]; omega
 have e1 : Go.bits .and .u64 (x : Int) ((2 ^ 64 - x : Nat) : Int) = ((2 ^ Lib.ctzFrom 64 x : Nat) : Int) := by rw [bits_and_u64_nat x _ hx (by omega), h1]
 have e2 : IntKind.u64.wrap (((2 ^ Lib.ctzFrom 64 x : Nat) : Int) * 285870213051353865) = ((2 ^ Lib.ctzFrom 64 x * 285870213051353865 % 18446744073709551616 : Nat) : Int) := by rw [IntKind.wrap_u64]; omega
 have e3 : ((2 ^ Lib.ctzFrom 64 x * 285870213051353865 % 18446744073709551616 : Nat) : Int) / (2 : Int) ^ min (58 : Int).toNat IntKind.u64.bits = ((2 ^ Lib.ctzFrom 64 x * 285870213051353865 % 18446744073709551616 / 288230376151711744 : Nat) : Int) := by
  rw [show min (58 : Int).toNat IntKind.u64.bits = 58 from rfl]; omega
 rw [iEq_f (by omega), cond_false, e0, e1, e2, e3, need_of (nIn_of ⟨by omega, by omega⟩), Int.toNat_natCast, hd.2, w64 (by omega)]
theorem first_eq {x : Nat} (hx : x < 18446744073709551616) : bits_Set_First (x : Int) = some ((bt x).headD (-1)) := by
 unfold bits_Set_First
 by_cases h0 : x = 0
 ·subst h0
  rw [iEq_t (show ((0 : Nat) : Int) = 0 from rfl), cond_true]
  unfold bt
  rw [ls_zero]; rfl
 ·rw [iEq_f (by omega), cond_false, tz64 hx h0, bind_some']
  unfold bt
  rw [ls_pop 64 0 x h0 hx, Nat.zero_add]
  rfl
theorem pop_eq {x : Nat} (hx : x < 18446744073709551616) (h0 : x ≠ 0) : Go.bits .and .u64 (x : Int) (IntKind.u64.wrap ((x : Int) - 1)) = ((x &&& (x - 1) : Nat) : Int) ∧ x &&& (x - 1) < 18446744073709551616 ∧ bt x = (bt x).headD (-1) :: bt (x &&& (x - 1)) := by
 refine ⟨?_, Nat.lt_of_le_of_lt Nat.and_le_left hx, ?_⟩
 ·rw [show (x : Int) - 1 = ((x - 1 : Nat) : Int) by omega, wu (by omega), bits_and_u64_nat _ _ hx (by omega)]
 ·unfold bt
  conv => lhs; rw [ls_pop 64 0 x h0 hx]
  rw [ls_pop 64 0 x h0 hx]
  rfl
theorem bt_nil {x : Nat} : bt x = [] → x < 18446744073709551616 → x = 0 := fun h hx => by
 by_cases h0 : x = 0
 ·exact h0
 ·have := (pop_eq hx h0).2.2
  rw [h] at this
  cases this
theorem bt_zero : bt 0 = [] := ls_zero 64 0
theorem bt_len (x : Nat) : (bt x).length = pc 64 x := ls_len 64 0 x
theorem pc_le : ∀ k x, pc k x ≤ k
 | 0, x => Nat.le_refl _
 | k + 1, x => by rw [pc]; have := pc_le k (x / 2); omega
theorem bt_le (x : Nat) : (bt x).length ≤ 64 := by rw [bt_len]; exact pc_le 64 x
theorem count_eq {x : Nat} (hx : x < 18446744073709551616) : bits_Set_Count (x : Int) = some ((bt x).length : Int) := by
 unfold bits_Set_Count
 rw [count64 hx, bind_some', cnt_pc, bt_len]
theorem list_l4 : ∀ (k f x : Nat) (acc : List Int), (bt x).length = k → k < f → x < 18446744073709551616 → acc.length + k ≤ 1000 → bits_Set_List_l4 f ((x : Int), acc) = some (acc ++ bt x)
 | k, 0, x, acc, hk, hf, hx, ha => by omega
 | 0, f + 1, x, acc, hk, hf, hx, ha => by
  have h0 := bt_nil (List.eq_nil_of_length_eq_zero hk) hx
  subst h0
  rw [bits_Set_List_l4]
  dsimp only
  rw [iNe_f (show ((0 : Nat) : Int) = 0 from rfl), cond_false, bt_zero, List.append_nil]
 | k + 1, f + 1, x, acc, hk, hf, hx, ha => by
  have h0 : x ≠ 0 := fun h => by subst h; rw [bt_zero] at hk; cases hk
  obtain ⟨h1, h2, h3⟩ := pop_eq hx h0
  rw [bits_Set_List_l4]
  dsimp only
  rw [iNe_t (by omega), cond_true, first_eq hx, bind_some', need_of (nCap_of (by simp; omega)), h1]
  rw [h3, List.length_cons] at hk
  rw [list_l4 k f _ _ (by omega) (by omega) h2 (by simp; omega)]
  conv => rhs; rw [h3]
  simp
theorem List_eq {x : Nat} (hx : x < 18446744073709551616) : bits_Set_List (x : Int) = some (bt x) := by
 unfold bits_Set_List
 have := bt_le x
 rw [count_eq hx, bind_some', need_of (nMk_of ⟨by omega, by omega, by omega⟩), list_l4 _ fuel x [] rfl (by have := fuel_big; omega) hx (by simp; omega), List.nil_append]
theorem one_eq {a : Int} (h : 0 ≤ a ∧ a ≤ 63) : bits_one a = some ((2 ^ a.toNat : Nat) : Int) := by
 unfold bits_one
 have hp : 2 ^ a.toNat < 2 ^ 64 := Nat.pow_lt_pow_right (by decide) (by omega)
 have hm : min a.toNat IntKind.u64.bits = a.toNat := Nat.min_eq_left (by show a.toNat ≤ 64; omega)
 rw [show (iLt a 0 || iLt 63 a) = false by simp only [Bool.or_eq_false_iff, iLt_iff']; omega, cond_false, need_of (nNn_of h.1), hm, Int.one_mul, show ((2 : Int) ^ a.toNat) = ((2 ^ a.toNat : Nat) : Int) by simp, wu hp]
theorem one_no {a : Int} (h : ¬ (0 ≤ a ∧ a ≤ 63)) : bits_one a = some 0 := by
 unfold bits_one
 rw [show (iLt a 0 || iLt 63 a) = true by rw [Bool.or_eq_true, iLt_iff, iLt_iff]; omega, cond_true]
def inR (a : Int) : Bool := decide (0 ≤ a ∧ a ≤ 63)
theorem and_pow (x i : Nat) : x &&& 2 ^ i = if x.testBit i then 2 ^ i else 0 := by
 apply Nat.eq_of_testBit_eq
 intro j
 rw [Nat.testBit_and, Nat.testBit_two_pow]
 by_cases hj : i = j
 ·subst hj
  cases h : x.testBit i with
  | true => rw [if_pos rfl, Nat.testBit_two_pow]; rfl
  | false => rw [if_neg Bool.false_ne_true]; simp
 ·rw [decide_eq_false hj, Bool.and_false]
  split
  ·rw [Nat.testBit_two_pow, decide_eq_false hj]
  ·simp
theorem Has_eq {x : Nat} (hx : x < 18446744073709551616) (a : Int) : bits_Set_Has (x : Int) a = some (inR a && x.testBit a.toNat) := by
 unfold bits_Set_Has inR
 by_cases h : 0 ≤ a ∧ a ≤ 63
 ·have hp : 2 ^ a.toNat < 2 ^ 64 := Nat.pow_lt_pow_right (by decide) (by omega)
  have hpos := Nat.two_pow_pos a.toNat
  rw [one_eq h, bind_some', bits_and_u64_nat _ _ hx hp, and_pow, decide_eq_true h, Bool.true_and]
  cases x.testBit a.toNat with
  | true => rw [if_pos rfl, iNe_t (by omega)]
  | false => rw [if_neg Bool.false_ne_true, iNe_f (show ((0 : Nat) : Int) = 0 from rfl)]
 ·rw [one_no h, bind_some', decide_eq_false h, Bool.false_and]
  have := bits_and_u64_nat x 0 hx (by decide)
  rw [Nat.and_zero] at this
  rw [show (0 : Int) = ((0 : Nat) : Int) from rfl, this, iNe_f rfl]
theorem has_l3 (a : Int) (ha : a ≤ 63) : ∀ (n f x : Nat) (i : Int), i + n = a → 0 ≤ i → n < f → x < 18446744073709551616 → ref02_Has_l3 a f ((x : Int), i) = some (x.testBit n)
 | n, 0, x, i, hi, h0, hf, hx => by omega
 | 0, f + 1, x, i, hi, h0, hf, hx => by
  rw [ref02_Has_l3]
  dsimp only
  rw [iLt_f (by omega), cond_false, tmod2, Nat.testBit_zero]
  congr 1
  unfold iEq
  congr 1
  rw [eq_iff_iff]
  omega
 | n + 1, f + 1, x, i, hi, h0, hf, hx => by
  rw [ref02_Has_l3]
  dsimp only
  rw [iLt_t (by omega), cond_true, tdiv2, wu (by omega), w64 (by omega), has_l3 a ha n f (x / 2) (i + 1) (by omega) (by omega) (by omega) (by omega), Nat.testBit_succ]
theorem ref_Has {x : Nat} (hx : x < 18446744073709551616) (a : Int) : ref02_Has (x : Int) a = some (inR a && x.testBit a.toNat) := by
 unfold ref02_Has inR
 by_cases h : 0 ≤ a ∧ a ≤ 63
 ·rw [show (iLt a 0 || iLt 63 a) = false by simp only [Bool.or_eq_false_iff, iLt_iff']; omega, cond_false, decide_eq_true h, Bool.true_and, has_l3 a h.2 a.toNat fuel x 0 (by omega) (by omega) (by have := fuel_big; omega) hx]
 ·rw [show (iLt a 0 || iLt 63 a) = true by rw [Bool.or_eq_true, iLt_iff, iLt_iff]; omega, cond_true, decide_eq_false h, Bool.false_and]
def withN (x : Nat) (a : Int) : Nat := if inR a then x ||| 2 ^ a.toNat else x
def lessN (x : Nat) (a : Int) : Nat := if inR a then (if x.testBit a.toNat then x - 2 ^ a.toNat else x) else x
theorem withN_lt {x : Nat} (hx : x < 18446744073709551616) (a : Int) : withN x a < 18446744073709551616 := by
 unfold withN inR
 by_cases h : 0 ≤ a ∧ a ≤ 63
 ·rw [if_pos (decide_eq_true h)]
  exact Nat.or_lt_two_pow (n := 64) hx (Nat.pow_lt_pow_right (by decide) (by omega))
 ·rw [if_neg (by simpa using h)]; exact hx
theorem or_one {x : Nat} (hx : x < 18446744073709551616) (a : Int) : (bits_one a).bind (fun x1 : Int => some (Go.bits .or .u64 (x : Int) x1)) = some ((withN x a : Nat) : Int) := by
 unfold withN inR
 by_cases h : 0 ≤ a ∧ a ≤ 63
 ·have hp : 2 ^ a.toNat < 2 ^ 64 := Nat.pow_lt_pow_right (by decide) (by omega)
  rw [one_eq h, bind_some', bits_or_u64_nat _ _ hx hp, if_pos (decide_eq_true h)]
 ·have := bits_or_u64_nat x 0 hx (by decide)
  rw [Nat.or_zero] at this
  rw [one_no h, bind_some', show (0 : Int) = ((0 : Nat) : Int) from rfl, this, if_neg (by simpa using h)]
theorem SWith_eq {x : Nat} (hx : x < 18446744073709551616) (a : Int) : bits_Set_With (x : Int) a = some ((withN x a : Nat) : Int) := or_one hx a
def ofN (x : Nat) : List Int → Nat
 | [] => x
 | a :: t => ofN (withN x a) t
theorem of_l2 (l : List Int) (hl : l.length ≤ 1000) : ∀ (n i f x : Nat), i + n = l.length → n < f → x < 18446744073709551616 → bits_Of_l2 l f ((x : Int), (i : Int)) = some ((ofN x (l.drop i) : Nat) : Int)
 | n, i, 0, x, hi, hf, hx => by omega
 | 0, i, f + 1, x, hi, hf, hx => by
  rw [bits_Of_l2]
  dsimp only
  rw [iLt_f (by omega), cond_false, List.drop_eq_nil_of_le (by omega)]
  rfl
 | n + 1, i, f + 1, x, hi, hf, hx => by
  have e : l.drop i = l.getD i default :: l.drop (i + 1) := by
   rw [List.drop_eq_getElem_cons (by omega)]
   simp [List.getD_eq_getElem?_getD, show i < l.length by omega]
  have ho := or_one hx (l.getD i default)
  rw [bits_Of_l2]
  dsimp only
  rw [iLt_t (by omega), cond_true, need_of (nIn_of ⟨by omega, by omega⟩), Int.toNat_natCast, e, ofN, w64 (by omega), show (i : Int) + 1 = ((i + 1 : Nat) : Int) by omega, ← of_l2 l hl n (i + 1) f _ (by omega) (by omega) (withN_lt hx _)]
  cases h1 : bits_one (l.getD i default) with
  | none => rw [h1] at ho; cases ho
  | some y =>
   rw [h1, bind_some'] at ho
   rw [bind_some', Option.some.inj ho]
theorem Of_eq (l : List Int) (hl : l.length ≤ 1000) : bits_Of l = some ((ofN 0 l : Nat) : Int) := by
 unfold bits_Of
 rw [show (0 : Int) = ((0 : Nat) : Int) from rfl, of_l2 l hl l.length 0 fuel 0 (by omega) (by have := fuel_big; omega) (by decide), List.drop_zero]
end LJ
end

/- What a function reaches: the least closed set. -/
section
namespace LJ
open Go Go.RowKit
set_option linter.unusedVariables false
set_option linter.unusedSimpArgs false

def isCall (p : T_api_Program) (x : T_api_Ins) : Bool := iEq x.Op 20 && iLt x.A (p.Funcs.length : Int)
def Shut (p : T_api_Program) (S : Nat) (f : Nat) : Prop := ∀ j, j < (p.Funcs.getD f default).Code.length → isCall p ((p.Funcs.getD f default).Code.getD j default) = true → S.testBit ((p.Funcs.getD f default).Code.getD j default).A.toNat = true
def ShutAll (p : T_api_Program) (S : Nat) : Prop := ∀ f, S.testBit f = true → f < p.Funcs.length → Shut p S f
theorem Shut.mono {p : T_api_Program} {S S' f : Nat} (h : Shut p S f) (hs : ∀ i, S.testBit i = true → S'.testBit i = true) : Shut p S' f := fun j hj hc => hs _ (h j hj hc)
def miss (n : Nat) (S : Nat) : Nat := (List.range n).countP fun i => !(S.testBit i)
theorem bit_or_pow (S a i : Nat) : (S ||| 2 ^ a).testBit i = (S.testBit i || decide (a = i)) := by
 rw [Nat.testBit_or, Nat.testBit_two_pow]
theorem miss_less {n S a : Nat} (ha : a < n) (h : S.testBit a = false) : miss n (S ||| 2 ^ a) < miss n S := by
 unfold miss
 refine countP_lt' (List.range n) a (fun x _ hx => ?_) (List.mem_range.2 ha) (by rw [h]; rfl) (by rw [bit_or_pow]; simp)
 rw [bit_or_pow, Bool.not_or, Bool.and_eq_true] at hx
 exact hx.1
theorem miss_le (n S : Nat) : miss n S ≤ n := by
 unfold miss
 have : (List.range n).countP (fun i => !(S.testBit i)) ≤ (List.range n).length := List.countP_le_length
 rwa [List.length_range] at this
structure CInv (p : T_api_Program) (fn : Nat) (S : Nat) (todo : List Int) (g : Nat → Prop) : Prop where
 lt : S < 18446744073709551616
 bits : ∀ i, S.testBit i = true → i < p.Funcs.length
 has : S.testBit fn = true
 td : ∀ t ∈ todo, 0 ≤ t ∧ t < (p.Funcs.length : Int) ∧ S.testBit t.toNat = true
 done : ∀ f, S.testBit f = true → (f : Int) ∈ todo ∨ Shut p S f ∨ g f
 least : ∀ X, X.testBit fn = true → ShutAll p X → ∀ i, S.testBit i = true → X.testBit i = true
theorem c_l13 {p : T_api_Program} (hp : OkP p) {fn : Nat} {s5 : Int × List Int} {g : Nat} (hg : g < p.Funcs.length) (hs : s5.2.getD (0 : Int).toNat default = (g : Int)) {K : Int × List Int → Option Int} {Pr : Option Int → Prop} {m : Nat} (hm : m ≤ 1000) (hK : ∀ (S : Nat) (todo : List Int), CInv p fn S todo (fun _ => False) → miss p.Funcs.length S + todo.length ≤ m → Pr (K ((S : Int), todo))) : ∀ (n i f : Nat) (S : Nat) (todo : List Int), i + n = (p.Funcs.getD g default).Code.length → n < f → CInv p fn S todo (fun f => f = g) → S.testBit g = true → (∀ j, j < i → isCall p ((p.Funcs.getD g default).Code.getD j default) = true → S.testBit ((p.Funcs.getD g default).Code.getD j default).A.toNat = true) → miss p.Funcs.length S + todo.length ≤ m → Pr (verify_Calls_l13 p s5 K f ((S : Int), (i : Int), todo))
 | n, i, 0, S, todo, hi, hf, hv, hb, hj, hm' => by omega
 | 0, i, f + 1, S, todo, hi, hf, hv, hb, hj, hm' => by
  rw [verify_Calls_l13, hs, Int.toNat_natCast]
  dsimp only
  rw [iLt_f (by omega), cond_false]
  refine hK S todo ⟨hv.lt, hv.bits, hv.has, hv.td, fun f hf => ?_, hv.least⟩ hm'
  rcases hv.done f hf with h | h | h
  ·exact .inl h
  ·exact .inr (.inl h)
  ·subst h
   exact .inr (.inl fun j hjl hc => hj j (by omega) hc)
 | n + 1, i, f + 1, S, todo, hi, hf, hv, hb, hj, hm' => by
  have hF := hp.fns g hg
  have hlen := hF.most
  have hpm := hp.most
  have hx := hF.ins i (by omega)
  have next : ∀ (S' : Nat) (todo' : List Int), CInv p fn S' todo' (fun f => f = g) → S'.testBit g = true → (∀ j, j < i + 1 → isCall p ((p.Funcs.getD g default).Code.getD j default) = true → S'.testBit ((p.Funcs.getD g default).Code.getD j default).A.toNat = true) → miss p.Funcs.length S' + todo'.length ≤ m → Pr (verify_Calls_l13 p s5 K f ((S' : Int), ((i + 1 : Nat) : Int), todo')) := fun S' todo' h1 h2 h3 h4 => c_l13 hp hg hs hm hK n (i + 1) f S' todo' (by omega) (by omega) h1 h2 h3 h4
  rw [verify_Calls_l13, hs, Int.toNat_natCast]
  dsimp only
  rw [iLt_t (by omega), cond_true, need_of (nIn_of ⟨by omega, by omega⟩), Int.toNat_natCast, w64 (a := (i : Int) + 1) (by omega), show (i : Int) + 1 = ((i + 1 : Nat) : Int) by omega]
  generalize hxd : (p.Funcs.getD g default).Code.getD i default = x at hx
  cases hc : (iEq x.Op 20 && iLt x.A (p.Funcs.length : Int)) with
  | false =>
   rw [cond_false, bind_some', Bool.false_and, cond_false]
   refine next S todo hv hb (fun j hj1 hj2 => ?_) hm'
   rcases Nat.lt_or_ge j i with h | h
   ·exact hj j h hj2
   ·obtain rfl : j = i := by omega
    unfold isCall at hj2
    rw [hxd, hc] at hj2
    cases hj2
  | true =>
   have hc2 := hc
   rw [Bool.and_eq_true, iEq_iff, iLt_iff] at hc2
   have hA := okJump hx (.inr (.inr hc2.1))
   have hR : inR x.A = true := decide_eq_true (by omega)
   rw [cond_true, Has_eq hv.lt, hR, Bool.true_and, bind_some', Bool.true_and]
   cases hbit : S.testBit x.A.toNat with
   | true =>
    rw [Bool.not_true, cond_false]
    refine next S todo hv hb (fun j hj1 hj2 => ?_) hm'
    rcases Nat.lt_or_ge j i with h | h
    ·exact hj j h hj2
    ·obtain rfl : j = i := by omega
     rw [hxd]; exact hbit
   | false =>
    have hml := miss_le p.Funcs.length S
    rw [Bool.not_false, cond_true, SWith_eq hv.lt, bind_some', need_of (nCap_of (by simp only [List.length_cons, List.length_nil]; omega))]
    have hW : withN S x.A = S ||| 2 ^ x.A.toNat := by unfold withN; rw [hR, if_pos rfl]
    have up : ∀ i, S.testBit i = true → (withN S x.A).testBit i = true := fun i h => by rw [hW, bit_or_pow, h]; rfl
    have self : (withN S x.A).testBit x.A.toNat = true := by rw [hW, bit_or_pow]; simp
    have inv : ∀ i, (withN S x.A).testBit i = true → S.testBit i = true ∨ x.A.toNat = i := fun i h => by
     rw [hW, bit_or_pow, Bool.or_eq_true] at h
     exact h.imp id of_decide_eq_true
    refine next (withN S x.A) (todo ++ [x.A]) ⟨withN_lt hv.lt _, fun i h => ?_, up _ hv.has, fun t ht => ?_, fun f h => ?_, fun X h1 h2 i h => ?_⟩ (up _ hb) (fun j hj1 hj2 => ?_) ?_
    ·rcases inv i h with h | h
     ·exact hv.bits i h
     ·omega
    ·rcases List.mem_append.1 ht with h | h
     ·obtain ⟨q1, q2, q3⟩ := hv.td t h
      exact ⟨q1, q2, up _ q3⟩
     ·rw [List.mem_singleton] at h
      subst h
      exact ⟨hA, hc2.2, self⟩
    ·rcases inv f h with h | h
     ·rcases hv.done f h with h | h | h
      ·exact .inl (List.mem_append_left _ h)
      ·exact .inr (.inl (h.mono up))
      ·exact .inr (.inr h)
     ·refine .inl (List.mem_append_right _ (List.mem_singleton.2 ?_))
      omega
    ·rcases inv i h with h | h
     ·exact hv.least X h1 h2 i h
     ·subst h
      have := h2 g (hv.least X h1 h2 g hb) hg i (by omega) (by rw [hxd]; exact hc)
      rw [hxd] at this
      exact this
    ·rcases Nat.lt_or_ge j i with h | h
     ·exact up _ (hj j h hj2)
     ·obtain rfl : j = i := by omega
      rw [hxd]; exact self
    ·have := miss_less (n := p.Funcs.length) (S := S) (a := x.A.toNat) (by omega) hbit
     rw [hW, List.length_append, List.length_singleton]
     omega
structure Reach (p : T_api_Program) (fn : Nat) (S : Nat) : Prop where
 lt : S < 18446744073709551616
 bits : ∀ i, S.testBit i = true → i < p.Funcs.length
 has : S.testBit fn = true
 shut : ShutAll p S
 least : ∀ X, X.testBit fn = true → ShutAll p X → ∀ i, S.testBit i = true → X.testBit i = true
theorem c_l5 {p : T_api_Program} (hp : OkP p) {fn : Nat} : ∀ (m f : Nat) (S : Nat) (todo : List Int), m ≤ 1000 → miss p.Funcs.length S + todo.length ≤ m → m < f → CInv p fn S todo (fun _ => False) → ∃ N : Nat, verify_Calls_l5 p f ((S : Int), todo) = some (N : Int) ∧ Reach p fn N
 | m, 0, S, todo, h1, h2, hf, hv => by omega
 | m, f + 1, S, [], h1, h2, hf, hv => by
  rw [verify_Calls_l5]
  dsimp only
  rw [List.map_nil, List.length_nil, iLt_f (by decide), cond_false]
  refine ⟨S, rfl, hv.lt, hv.bits, hv.has, fun f hf _ => ?_, hv.least⟩
  rcases hv.done f hf with h | h | h
  ·cases h
  ·exact h
  ·exact h.elim
 | m, f + 1, S, t :: todo, h1, h2, hf, hv => by
  obtain ⟨q1, q2, q3⟩ := hv.td t (List.mem_cons_self ..)
  have hpm := hp.most
  have ht : (t.toNat : Int) = t := by omega
  rw [verify_Calls_l5]
  dsimp only
  have hg : (t :: todo).getD (0 : Int).toNat default = t := rfl
  have hd : (t :: todo).drop (1 : Int).toNat = todo := rfl
  have hl : ((t :: todo).length : Int) = (todo.length : Int) + 1 := by rw [List.length_cons]; omega
  rw [List.length_map, hg, hd, hl, iLt_t (by omega), cond_true, withK_eq, need_of (nIn_of ⟨by omega, by omega⟩), need_of (nIn_of ⟨q1, q2⟩), need_of (nSl_of ⟨by omega, by omega, by omega⟩), withK_eq]
  cases m with
  | zero => rw [List.length_cons] at h2; omega
  | succ m =>
   refine c_l13 (Pr := fun z => ∃ N : Nat, z = some (N : Int) ∧ Reach p fn N) (m := m) hp (g := t.toNat) (fn := fn) (by omega) (by rw [ht]; rfl) (by omega) (fun S' todo' hv' hm' => ?_) (p.Funcs.getD t.toNat default).Code.length 0 fuel S todo (by omega) (by have := (hp.fns t.toNat (by omega)).most; have := fuel_big; omega) ⟨hv.lt, hv.bits, hv.has, fun x hx => hv.td x (List.mem_cons_of_mem _ hx), fun f hf => ?_, hv.least⟩ q3 (fun j hj => by omega) (by rw [List.length_cons] at h2; omega)
   ·exact c_l5 hp m f S' todo' (by omega) hm' (by omega) hv'
   ·rcases hv.done f hf with h | h | h
    ·rcases List.mem_cons.1 h with h | h
     ·exact .inr (.inr (by omega))
     ·exact .inl h
    ·exact .inr (.inl h)
    ·exact h.elim
theorem Calls_of {p : T_api_Program} (h0 : chkP p = 0) (fn : Int) : ∃ N : Nat, verify_Calls p fn = some (N : Int) ∧ N < 18446744073709551616 ∧ ((0 ≤ fn ∧ fn < (p.Funcs.length : Int)) → Reach p fn.toNat N) ∧ (¬ (0 ≤ fn ∧ fn < (p.Funcs.length : Int)) → N = 0) := by
 have hp := okP_of h0
 have hpm := hp.most
 unfold verify_Calls
 by_cases hf : 0 ≤ fn ∧ fn < (p.Funcs.length : Int)
 ·have hz : (iLt fn 0 || iLe (p.Funcs.length : Int) fn) = false := by rw [Bool.or_eq_false_iff, iLt_iff', iLe_iff']; omega
  rw [hz, Bool.not_false, cond_true, prog_Check_eq, bind_some', iNe_f h0, Bool.or_self, cond_false, Of_eq _ (by simp), bind_some']
  have hR : inR fn = true := decide_eq_true (by omega)
  have hO : ofN 0 [fn] = 2 ^ fn.toNat := by
   show ofN (withN 0 fn) [] = _
   show withN 0 fn = _
   unfold withN
   rw [hR, if_pos rfl, Nat.zero_or]
  have hlt : 2 ^ fn.toNat < 2 ^ 64 := Nat.pow_lt_pow_right (by decide) (by omega)
  have hbit : ∀ i, (2 ^ fn.toNat).testBit i = true → i = fn.toNat := fun i h => by
   rw [Nat.testBit_two_pow] at h
   exact (of_decide_eq_true h).symm
  have hml := miss_le p.Funcs.length (2 ^ fn.toNat)
  rw [hO]
  have inv : CInv p fn.toNat (2 ^ fn.toNat) [fn] (fun _ => False) := by
   refine ⟨hlt, fun i h => by have := hbit i h; omega, by rw [Nat.testBit_two_pow]; simp, fun t ht => ?_, fun f h => ?_, fun X h1 h2 i h => ?_⟩
   ·rw [List.mem_singleton] at ht
    subst ht
    exact ⟨hf.1, hf.2, by rw [Nat.testBit_two_pow]; simp⟩
   ·refine .inl (List.mem_singleton.2 ?_)
    have := hbit f h
    omega
   ·rw [hbit i h]; exact h1
  obtain ⟨N, h1, h2⟩ := c_l5 hp (fn := fn.toNat) 1000 fuel (2 ^ fn.toNat) [fn] (Nat.le_refl _) (by simp; omega) (by have := fuel_big; omega) inv
  exact ⟨N, h1, h2.lt, fun _ => h2, fun h => absurd hf h⟩
 ·have hz : (iLt fn 0 || iLe (p.Funcs.length : Int) fn) = true := by rw [Bool.or_eq_true, iLt_iff, iLe_iff]; omega
  rw [hz, Bool.not_true, cond_false, bind_some', Bool.true_or, cond_true]
  exact ⟨0, rfl, by decide, fun h => absurd h hf, fun _ => rfl⟩
theorem Reach.sub {p : T_api_Program} {f g S X : Nat} (h : Reach p f S) (hx : Reach p g X) (hg : S.testBit g = true) : ∀ i, X.testBit i = true → S.testBit i = true := hx.least S hg h.shut
end LJ
end

/- The law VerifyMore, plainly. -/
section
namespace LJ
open Go Go.RowKit
set_option linter.unusedVariables false
set_option linter.unusedSimpArgs false

theorem or_lt64 {a b : Nat} (ha : a < 18446744073709551616) (hb : b < 18446744073709551616) : a ||| b < 18446744073709551616 := Nat.or_lt_two_pow (n := 64) ha hb
theorem ob_l8 {W : List (List T_api_Need)} {kd : Int} {s1 : Int × Int} {i : Nat} (hs : s1.2 = (i : Int)) (hl : (W.getD i default).length ≤ 4) {K : Int → Option Int} {Pr : Option Int → Prop} (hK : ∀ S : Nat, S < 18446744073709551616 → Pr (K (S : Int))) : ∀ (n j f S : Nat), j + n = (W.getD i default).length → n < f → S < 18446744073709551616 → Pr (need_Objects_l8 W kd s1 K f ((S : Int), (j : Int)))
 | n, j, 0, S, hj, hf, hS => by omega
 | 0, j, f + 1, S, hj, hf, hS => by
  rw [need_Objects_l8, hs, Int.toNat_natCast]
  dsimp only
  rw [iLt_f (by omega), cond_false]
  exact hK S hS
 | n + 1, j, f + 1, S, hj, hf, hS => by
  rw [need_Objects_l8, hs, Int.toNat_natCast]
  dsimp only
  rw [iLt_t (by omega), cond_true, need_of (nIn_of ⟨by omega, by omega⟩), w64 (by omega), show (j : Int) + 1 = ((j + 1 : Nat) : Int) by omega]
  cases iEq ((W.getD i default).getD ((j : Int)).toNat default).Kind kd with
  | true =>
   rw [cond_true, SWith_eq hS, bind_some']
   exact ob_l8 hs hl hK n (j + 1) f _ (by omega) (by omega) (withN_lt hS _)
  | false =>
   rw [cond_false]
   exact ob_l8 hs hl hK n (j + 1) f S (by omega) (by omega) hS
theorem ob_l2 {W : List (List T_api_Need)} (hW : W.length ≤ 4) (hl : ∀ l ∈ W, l.length ≤ 4) {kd : Int} : ∀ (n i f S : Nat), i + n = W.length → n < f → S < 18446744073709551616 → ∃ r : Nat, r < 18446744073709551616 ∧ need_Objects_l2 W kd f ((S : Int), (i : Int)) = some (r : Int)
 | n, i, 0, S, hi, hf, hS => by omega
 | 0, i, f + 1, S, hi, hf, hS => by
  rw [need_Objects_l2]
  dsimp only
  rw [iLt_f (by omega), cond_false]
  exact ⟨S, hS, rfl⟩
 | n + 1, i, f + 1, S, hi, hf, hS => by
  have hl' : (W.getD i default).length ≤ 4 := hl _ (by
   rw [List.getD_eq_getElem?_getD, List.getElem?_eq_getElem (by omega)]
   exact List.getElem_mem _)
  rw [need_Objects_l2]
  dsimp only
  rw [iLt_t (by omega), cond_true, withK_eq, need_of (nIn_of ⟨by omega, by omega⟩), w64 (by omega), show (i : Int) + 1 = ((i + 1 : Nat) : Int) by omega]
  refine ob_l8 (Pr := fun z => ∃ r : Nat, r < 18446744073709551616 ∧ z = some (r : Int)) (s1 := ((S : Int), (i : Int))) rfl hl' (fun S' hS' => ?_) (W.getD i default).length 0 fuel S (by omega) (by have := fuel_big; omega) hS
  exact ob_l2 hW hl n (i + 1) f S' (by omega) (by omega) hS'
theorem Objects_tot {W : List (List T_api_Need)} (hW : GoodW W) (kd : Int) : ∃ r : Nat, r < 18446744073709551616 ∧ need_Objects W kd = some (r : Int) := by
 unfold need_Objects
 have h1 := hW.len.2
 exact ob_l2 h1 (fun l hl => (hW.ways l hl).1.2) W.length 0 fuel 0 (by omega) (by have := fuel_big; omega) (by decide)
theorem nm_l17 {p : T_api_Program} {x : T_api_Ins} {s2 : Int × Int} {i : Nat} (hi : s2.2 = (i : Int)) (h2 : i < 2) {N : Int} (hN : ([x.A, x.B] : List Int).getD i default = N) (h0 : 0 ≤ N) (h1 : N < (p.Waits.length : Int)) (hG : GoodW (p.Waits.getD N.toNat default)) {K : Int → Option Int} {Pr : Option Int → Prop} (hK : ∀ S : Nat, S < 18446744073709551616 → Pr (K (S : Int))) : ∀ (n j f S : Nat), j + n = 6 → n < f → S < 18446744073709551616 → Pr (verify_names_l17 p x s2 K f ((S : Int), (j : Int)))
 | n, j, 0, S, hj, hf, hS => by omega
 | 0, j, f + 1, S, hj, hf, hS => by
  rw [verify_names_l17]
  dsimp only
  rw [iLe_f (by omega), cond_false]
  exact hK S hS
 | n + 1, j, f + 1, S, hj, hf, hS => by
  obtain ⟨r, r1, r2⟩ := Objects_tot hG (j : Int)
  rw [verify_names_l17]
  dsimp only
  rw [iLe_t (by omega), cond_true, hi, need_of (nIn_of ⟨by omega, by omega⟩), Int.toNat_natCast, hN, need_of (nIn_of ⟨h0, h1⟩), r2, bind_some', bits_or_u64_nat _ _ hS r1, w64 (by omega), show (j : Int) + 1 = ((j + 1 : Nat) : Int) by omega]
  exact nm_l17 hi h2 hN h0 h1 hG hK n (j + 1) f _ (by omega) (by omega) (or_lt64 hS r1)
theorem letter_nn2 {x : T_api_Ins} (hx : OkI x) {i : Nat} (h : i < (formL x.Op).size) : byteAt (formL x.Op) i ≠ 110 → 0 ≤ ([x.A, x.B] : List Int).getD i default := fun hb => by
 have hf2 := formL_size x.Op
 have : i = 0 ∨ i = 1 := by omega
 rcases this with rfl | rfl
 ·exact (inL_rng (hx.a1 (by omega))).2.2 hb
 ·exact (inL_rng (hx.b1 (by omega))).2.2 hb
theorem nm_l3 {p : T_api_Program} (hG : ∀ w ∈ p.Waits, GoodW w) {x : T_api_Ins} (hx : OkI x) : ∀ (n i f S : Nat), i + n = (formL x.Op).size → n < f → S < 18446744073709551616 → ∃ r : Nat, r < 18446744073709551616 ∧ verify_names_l3 p x (formL x.Op) f ((S : Int), (i : Int)) = some (r : Int)
 | n, i, 0, S, hi, hf, hS => by omega
 | 0, i, f + 1, S, hi, hf, hS => by
  rw [verify_names_l3]
  dsimp only
  rw [bytesI_len, iLt_f (by omega), cond_false]
  exact ⟨S, hS, rfl⟩
 | n + 1, i, f + 1, S, hi, hf, hS => by
  have hf2 := formL_size x.Op
  have next : ∀ S' : Nat, S' < 18446744073709551616 → ∃ r : Nat, r < 18446744073709551616 ∧ verify_names_l3 p x (formL x.Op) f ((S' : Int), ((i + 1 : Nat) : Int)) = some (r : Int) := fun S' hS' => nm_l3 hG hx n (i + 1) f S' (by omega) (by omega) hS'
  have hn2 : nIn (i : Int) ((2 : Nat) : Int) = true := nIn_of ⟨by omega, by omega⟩
  rw [verify_names_l3]
  dsimp only
  rw [bytesI_len, iLt_t (by omega), cond_true, withK_eq, need_of (nIn_of ⟨by omega, by omega⟩), Int.toNat_natCast, bytesI_at _ _ (by omega), w64 (by omega), show (i : Int) + 1 = ((i + 1 : Nat) : Int) by omega]
  by_cases h1 : byteAt (formL x.Op) i = 110
  ·rw [iEq_t h1, cond_true]; exact next S hS
  rw [iEq_f h1, cond_false]
  cases iEq (byteAt (formL x.Op) i) 107 with
  | true => exact next S hS
  | false =>
  rw [cond_false]
  cases iEq (byteAt (formL x.Op) i) 116 with
  | true => exact next S hS
  | false =>
  rw [cond_false]
  cases iEq (byteAt (formL x.Op) i) 102 with
  | true => exact next S hS
  | false =>
  rw [cond_false]
  cases iEq (byteAt (formL x.Op) i) 106 with
  | true => exact next S hS
  | false =>
  rw [cond_false]
  have h0 := letter_nn2 hx (by omega) h1
  cases iEq (byteAt (formL x.Op) i) 119 with
  | true =>
   rw [cond_true, need_of hn2]
   by_cases hl : (p.Waits.length : Int) ≤ ([x.A, x.B] : List Int).getD i default
   ·rw [iLe_t hl, cond_true]; exact next S hS
   ·rw [iLe_f (by omega), cond_false]
    refine nm_l17 (Pr := fun z => ∃ r : Nat, r < 18446744073709551616 ∧ z = some (r : Int)) (s2 := ((S : Int), (i : Int))) (i := i) rfl (by omega) rfl h0 (by omega) (hG _ ?_) (fun S' hS' => next S' hS') 5 1 fuel S (by omega) (by have := fuel_big; omega) hS
    rw [List.getD_eq_getElem?_getD, List.getElem?_eq_getElem (by omega)]
    exact List.getElem_mem _
  | false =>
   rw [cond_false, need_of hn2, SWith_eq hS, bind_some']
   exact next _ (withN_lt hS _)
theorem names_tot {p : T_api_Program} (hG : ∀ w ∈ p.Waits, GoodW w) {x : T_api_Ins} (hx : OkI x) : ∃ r : Nat, r < 18446744073709551616 ∧ verify_names p x = some (r : Int) := by
 unfold verify_names
 rw [op_Form_ok, bind_some']
 exact nm_l3 hG hx (formL x.Op).size 0 fuel 0 (by omega) (by have := formL_size x.Op; have := fuel_big; omega) (by decide)
def nmN (p : T_api_Program) (x : T_api_Ins) : Nat := ((verify_names p x).getD 0).toNat
theorem names_eq {p : T_api_Program} (hG : ∀ w ∈ p.Waits, GoodW w) {x : T_api_Ins} (hx : OkI x) : verify_names p x = some (nmN p x : Int) ∧ nmN p x < 18446744073709551616 := by
 obtain ⟨r, h1, h2⟩ := names_tot hG hx
 have : nmN p x = r := by unfold nmN; rw [h2]; rfl
 rw [this]
 exact ⟨h2, h1⟩
def orC (p : T_api_Program) (l : List T_api_Ins) (S : Nat) : Nat := l.foldl (fun a x => a ||| nmN p x) S
theorem orC_bit (p : T_api_Program) (b : Nat) : ∀ (l : List T_api_Ins) (S : Nat), (orC p l S).testBit b = (S.testBit b || l.any fun x => (nmN p x).testBit b)
 | [], S => by simp [orC]
 | x :: l, S => by
  have := orC_bit p b l (S ||| nmN p x)
  unfold orC at this ⊢
  rw [List.foldl_cons, this, Nat.testBit_or, List.any_cons, Bool.or_assoc]
theorem us_l11 {p : T_api_Program} (hp : OkP p) (hG : ∀ w ∈ p.Waits, GoodW w) {x2 : List Int} {s3 : Int × Int} {g : Nat} (hg : g < p.Funcs.length) (hs : (x2.getD s3.2.toNat default).toNat = g) {K : Int → Option Int} {Pr : Option Int → Prop} {S0 : Nat} (hK : orC p (p.Funcs.getD g default).Code S0 < 18446744073709551616 → Pr (K (orC p (p.Funcs.getD g default).Code S0 : Int))) : ∀ (n i f S : Nat), i + n = (p.Funcs.getD g default).Code.length → n < f → S < 18446744073709551616 → orC p ((p.Funcs.getD g default).Code.drop i) S = orC p (p.Funcs.getD g default).Code S0 → Pr (verify_Uses_l11 p x2 s3 K f ((S : Int), (i : Int)))
 | n, i, 0, S, hi, hf, hS, he => by omega
 | 0, i, f + 1, S, hi, hf, hS, he => by
  rw [verify_Uses_l11, hs]
  dsimp only
  rw [iLt_f (by omega), cond_false]
  rw [List.drop_eq_nil_of_le (by omega)] at he
  have he' : S = orC p (p.Funcs.getD g default).Code S0 := he
  rw [he']
  exact hK (he' ▸ hS)
 | n + 1, i, f + 1, S, hi, hf, hS, he => by
  have hF := hp.fns g hg
  have hlen := hF.most
  obtain ⟨q1, q2⟩ := names_eq (p := p) hG (hF.ins i (by omega))
  rw [verify_Uses_l11, hs]
  dsimp only
  rw [iLt_t (by omega), cond_true, need_of (nIn_of ⟨by omega, by omega⟩), Int.toNat_natCast, q1, bind_some', bits_or_u64_nat _ _ hS q2, w64 (by omega), show (i : Int) + 1 = ((i + 1 : Nat) : Int) by omega]
  refine us_l11 hp hG hg hs hK n (i + 1) f _ (by omega) (by omega) (or_lt64 hS q2) ?_
  rw [← he, getD_drop _ i (by omega)]
  rfl
def orF (p : T_api_Program) (l : List Int) (S : Nat) : Nat := l.foldl (fun a f => orC p (p.Funcs.getD f.toNat default).Code a) S
theorem orF_bit (p : T_api_Program) (b : Nat) : ∀ (l : List Int) (S : Nat), (orF p l S).testBit b = (S.testBit b || l.any fun f => (p.Funcs.getD f.toNat default).Code.any fun x => (nmN p x).testBit b)
 | [], S => by simp [orF]
 | f :: l, S => by
  have := orF_bit p b l (orC p (p.Funcs.getD f.toNat default).Code S)
  unfold orF at this ⊢
  rw [List.foldl_cons, this, orC_bit, List.any_cons, Bool.or_assoc]
theorem us_l4 {p : T_api_Program} (hp : OkP p) (hG : ∀ w ∈ p.Waits, GoodW w) {l : List Int} (hl : l.length ≤ 64) (hv : ∀ v ∈ l, 0 ≤ v ∧ v < (p.Funcs.length : Int)) : ∀ (n i f S : Nat), i + n = l.length → n < f → S < 18446744073709551616 → verify_Uses_l4 p l f ((S : Int), (i : Int)) = some (orF p (l.drop i) S : Int) ∧ orF p (l.drop i) S < 18446744073709551616
 | n, i, 0, S, hi, hf, hS => by omega
 | 0, i, f + 1, S, hi, hf, hS => by
  rw [verify_Uses_l4]
  dsimp only
  rw [iLt_f (by omega), cond_false, List.drop_eq_nil_of_le (by omega)]
  exact ⟨rfl, hS⟩
 | n + 1, i, f + 1, S, hi, hf, hS => by
  have hpm := hp.most
  obtain ⟨h0, h1⟩ := hv (l.getD i default) (by
   rw [List.getD_eq_getElem?_getD, List.getElem?_eq_getElem (by omega)]
   exact List.getElem_mem _)
  have hd : l.drop i = l.getD i default :: l.drop (i + 1) := getD_drop l i (by omega)
  rw [verify_Uses_l4]
  dsimp only
  rw [iLt_t (by omega), cond_true, withK_eq, need_of (nIn_of ⟨by omega, by omega⟩), Int.toNat_natCast, need_of (nIn_of ⟨h0, h1⟩), w64 (by omega), show (i : Int) + 1 = ((i + 1 : Nat) : Int) by omega, hd]
  show _ = some (orF p (l.drop (i + 1)) (orC p (p.Funcs.getD (l.getD i default).toNat default).Code S) : Int) ∧ orF p (l.drop (i + 1)) (orC p (p.Funcs.getD (l.getD i default).toNat default).Code S) < 18446744073709551616
  refine us_l11 (Pr := fun z => z = some (orF p (l.drop (i + 1)) (orC p (p.Funcs.getD (l.getD i default).toNat default).Code S) : Int) ∧ orF p (l.drop (i + 1)) (orC p (p.Funcs.getD (l.getD i default).toNat default).Code S) < 18446744073709551616) (s3 := ((S : Int), (i : Int))) hp hG (g := (l.getD i default).toNat) (by omega) (by show (l.getD ((i : Int)).toNat default).toNat = _; rw [Int.toNat_natCast]) (S0 := S) (fun hlt => ?_) (p.Funcs.getD (l.getD i default).toNat default).Code.length 0 fuel S (by omega) (by have := (hp.fns (l.getD i default).toNat (by omega)).most; have := fuel_big; omega) hS (by rw [List.drop_zero])
  exact us_l4 hp hG hl hv n (i + 1) f _ (by omega) (by omega) hlt
def usN (p : T_api_Program) (N b : Nat) : Bool := (bt N).any fun f => (p.Funcs.getD f.toNat default).Code.any fun x => (nmN p x).testBit b
theorem Uses_of {p : T_api_Program} (h0 : chkP p = 0) (fn : Int) {N : Nat} (hN : verify_Calls p fn = some (N : Int)) (hlt : N < 18446744073709551616) (hb : ∀ i, N.testBit i = true → i < p.Funcs.length) : ∃ U : Nat, verify_Uses p fn = some (U : Int) ∧ U < 18446744073709551616 ∧ ∀ b, U.testBit b = usN p N b := by
 have hp := okP_of h0
 have gp := GoodP.of h0
 unfold verify_Uses
 rw [hN, bind_some', List_eq hlt, bind_some']
 obtain ⟨h1, h2⟩ := us_l4 hp (fun w hw => GoodW.of gp.decls (gp.waits.2 w hw)) (bt_le N) (fun v hv => by
  obtain ⟨i, hi, rfl, hbit⟩ := (ls_mem 64 0 N v).1 hv
  have := hb i hbit
  omega) (bt N).length 0 fuel 0 (by omega) (by have := bt_le N; have := fuel_big; omega) (by decide)
 refine ⟨_, h1, h2, fun b => ?_⟩
 rw [orF_bit, List.drop_zero, Nat.zero_testBit, Bool.false_or]
 rfl
theorem usN_mono {p : T_api_Program} {X N : Nat} (h : ∀ i, X.testBit i = true → N.testBit i = true) (b : Nat) (hu : usN p X b = true) : usN p N b = true := by
 unfold usN at hu ⊢
 rw [List.any_eq_true] at hu ⊢
 obtain ⟨f, hf, hx⟩ := hu
 refine ⟨f, ?_, hx⟩
 obtain ⟨i, hi, e, hbit⟩ := (ls_mem 64 0 X f).1 hf
 exact (ls_mem 64 0 N f).2 ⟨i, hi, e, h i hbit⟩
theorem and_sub {a b : Nat} (h : ∀ i, a.testBit i = true → b.testBit i = true) : a &&& b = a := by
 apply Nat.eq_of_testBit_eq
 intro i
 rw [Nat.testBit_and]
 cases ha : a.testBit i with
 | true => rw [h i ha]; rfl
 | false => rfl
theorem lives12' : law12_lives = some true := by decide +kernel
theorem more_l10 {p : T_api_Program} (h0 : chkP p = 0) {fn : Int} {N U : Nat} (hC : verify_Calls p fn = some (N : Int)) (hlt : N < 18446744073709551616) (hR : (0 ≤ fn ∧ fn < (p.Funcs.length : Int)) → Reach p fn.toNat N) (hZ : ¬ (0 ≤ fn ∧ fn < (p.Funcs.length : Int)) → N = 0) (hU : U < 18446744073709551616) (hUb : ∀ b, U.testBit b = usN p N b) : ∀ (n i f : Nat), i + n = (bt N).length → n < f → law12_VerifyMore_l10 p fn (N : Int) (U : Int) (bt N) f (i : Int) = some true
 | n, i, 0, hi, hf => by omega
 | 0, i, f + 1, hi, hf => by
  have hpm := (okP_of h0).most
  rw [law12_VerifyMore_l10, iLt_f (by omega), cond_false, ref_Has hlt, bind_some']
  have key : (inR fn && N.testBit fn.toNat) = (iLe 0 fn && iLt fn (p.Funcs.length : Int)) := by
   by_cases hf : 0 ≤ fn ∧ fn < (p.Funcs.length : Int)
   ·rw [(hR hf).has, iLe_t hf.1, iLt_t hf.2, show inR fn = true from decide_eq_true (by omega)]
   ·rw [hZ hf, Nat.zero_testBit, Bool.and_false]
    symm
    rw [Bool.and_eq_false_iff, iLe_iff', iLt_iff']
    omega
  rw [key, show ((iLe 0 fn && iLt fn (p.Funcs.length : Int)) == (iLe 0 fn && iLt fn (p.Funcs.length : Int))) = true from beq_self_eq_true _, cond_true, lives12']
  rfl
 | n + 1, i, f + 1, hi, hf => by
  have hp := okP_of h0
  have gp := GoodP.of h0
  have hbl := bt_le N
  have hin : nIn (i : Int) ((bt N).length : Int) = true := nIn_of ⟨by omega, by omega⟩
  obtain ⟨k, hk, hke, hbit⟩ := (ls_mem 64 0 N ((bt N).getD i default)).1 (by
   show (bt N).getD i default ∈ bt N
   rw [List.getD_eq_getElem?_getD, List.getElem?_eq_getElem (by omega)]
   exact List.getElem_mem _)
  have hfn : 0 ≤ fn ∧ fn < (p.Funcs.length : Int) := Classical.byContradiction fun h => by
   rw [hZ h, Nat.zero_testBit] at hbit
   cases hbit
  have hr := hR hfn
  have hkl := hr.bits k hbit
  obtain ⟨X, x1, x2, x3, _⟩ := Calls_of h0 ((bt N).getD i default)
  have hx := x3 (by omega)
  have ek : ((bt N).getD i default).toNat = k := by omega
  rw [ek] at hx
  have sub := hr.sub hx hbit
  obtain ⟨V, v1, v2, v3⟩ := Uses_of h0 _ x1 x2 hx.bits
  have subV : ∀ b, V.testBit b = true → U.testBit b = true := fun b hb => by
   rw [hUb]
   rw [v3] at hb
   exact usN_mono sub b hb
  rw [law12_VerifyMore_l10, iLt_t (by omega), cond_true, need_of hin, need_of hin, own10, bind_some', ownP_good gp, Int.toNat_natCast, x1, bind_some', bind_some', v1, bind_some', bits_and_u64_nat _ _ x2 hlt, bits_and_u64_nat _ _ v2 hU, and_sub sub, and_sub subV, iNe_f rfl, iNe_f rfl, Bool.or_self, cond_false, w64 (by omega), show (i : Int) + 1 = ((i + 1 : Nat) : Int) by omega]
  exact more_l10 h0 hC hlt hR hZ hU hUb n (i + 1) f (by omega) (by omega)
theorem VerifyMore_pure (p : T_api_Program) (fn : Int) : law12_VerifyMore p fn = some true := by
 unfold law12_VerifyMore
 rw [ref10_Check_eq, bind_some']
 by_cases h0 : chkP p = 0
 ·have gp := GoodP.of h0
  obtain ⟨N, h1, h2, h3, h4⟩ := Calls_of h0 fn
  have hb : ∀ i, N.testBit i = true → i < p.Funcs.length := fun i hi => by
   by_cases hf : 0 ≤ fn ∧ fn < (p.Funcs.length : Int)
   ·exact (h3 hf).bits i hi
   ·rw [h4 hf, Nat.zero_testBit] at hi; cases hi
  obtain ⟨U, u1, u2, u3⟩ := Uses_of h0 fn h1 h2 hb
  rw [iNe_f h0, cond_false, own10, bind_some', ownP_good gp, h1, bind_some', bind_some', u1, bind_some', ref_List h2, bind_some']
  exact more_l10 h0 h1 h2 h3 h4 u2 u3 (bt N).length 0 fuel (by omega) (by have := bt_le N; have := fuel_big; omega)
 ·rw [iNe_t h0, cond_true, lives12']
  rfl
end LJ
end
