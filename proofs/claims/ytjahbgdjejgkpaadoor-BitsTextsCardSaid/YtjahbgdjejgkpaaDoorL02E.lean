/- The texts of a set's numbers: digits, pieces between commas. -/
import Derived.Test.YtjahbgdjejgkpaaDoorL02D
import Derived.Test.YtjahbgdjejgkpaaDoorXErr
namespace LJ
open Go Go.RowKit
set_option linter.unusedVariables false
set_option linter.unusedSimpArgs false

theorem decF_len : ∀ f u, (decF f u).length ≤ f
  | 0, u => Nat.le_refl _
  | f + 1, u => by
    rw [decF]; split
    · simp
    · rw [List.length_append]; have := decF_len f (u / 10); simp; omega
theorem decF_any : ∀ (f g u : Nat), u < 10 ^ f → 0 < f → f ≤ g → decF g u = decF f u := fun f g u h h0 hg => by
  rw [decF_eq f u h h0, decF_eq g u (Nat.lt_of_lt_of_le h (Nat.pow_le_pow_right (by decide) hg)) (by omega)]
theorem Digits_r : ∀ (m f u : Nat), u < 10 ^ m → 0 < m → m ≤ f → m ≤ 20 ∧ u < 9223372036854775808 → ref02_Digits_r f (u : Int) = some (bs (decF m u))
  | 0, f, u, h, h0, hf, h20 => by omega
  | m + 1, 0, u, h, h0, hf, h20 => by omega
  | m + 1, f + 1, u, h, h0, hf, h20 => by
    rw [ref02_Digits_r, decF]
    by_cases hu : u < 10
    · rw [iLt_t (by omega), cond_true, w64 (by omega), wu8 (by omega), need_of (nIn_of ⟨by omega, by omega⟩), if_pos hu, show ((48 : Int) + (u : Int)).toNat = 48 + u by omega]
      exact congrArg some (bl_inj (by simp))
    · have hm : 0 < m := by
        rcases Nat.eq_zero_or_pos m with rfl | h'
        · simp at h; omega
        · exact h'
      rw [Nat.pow_succ] at h
      have e1 : Int.tdiv (u : Int) 10 = ((u / 10 : Nat) : Int) := by rw [Int.tdiv_eq_ediv_of_nonneg (by omega)]; omega
      have e2 : Int.tmod (u : Int) 10 = ((u % 10 : Nat) : Int) := by rw [Int.tmod_eq_emod_of_nonneg (by omega)]; omega
      have hl := decF_len m (u / 10)
      rw [iLt_f (by omega), cond_false, e1, e2, w64 (a := ((u / 10 : Nat) : Int)) (by omega), Digits_r m f (u / 10) (by omega) hm (by omega) (by omega), bind_some', w64 (by omega), wu8 (by omega), need_of (nIn_of ⟨by omega, by omega⟩), need_of (nStr_of (by rw [bs_size]; have : (ByteArray.empty.push (UInt8.ofNat ((48 : Int) + ((u % 10 : Nat) : Int)).toNat)).size = 1 := rfl; omega)), if_neg hu, show ((48 : Int) + ((u % 10 : Nat) : Int)).toNat = 48 + u % 10 by omega]
      exact congrArg some (bl_inj (by simp))
theorem ref_Digits {u : Nat} (h : u < 9223372036854775808) : ref02_Digits (u : Int) = some (bs (decF 20 u)) := Digits_r 20 fuel u (by omega) (by decide) (by have := fuel_big; omega) ⟨by decide, h⟩
theorem Itoa_eq {n : Int} (h : -9223372036854775808 ≤ n ∧ n ≤ 9223372036854775807) : strconv_Itoa n = some (bs (itoaL n)) := by
  unfold strconv_Itoa
  rw [need_of (nI64_of h)]; rfl
/-- The digits of a number. -/
def dg (n : Int) : List UInt8 := decF 20 n.toNat
theorem dg_fin : ∀ n : Fin 64, (dg ((n : Nat) : Int)).length ≤ 2 ∧ 1 ≤ (dg ((n : Nat) : Int)).length ∧ (44 : UInt8) ∉ dg ((n : Nat) : Int) ∧ Lib.atoiAll (dg ((n : Nat) : Int)) = .ok ((n : Nat) : Int) := by decide +kernel
theorem dg_all {a : Int} (h : 0 ≤ a ∧ a < 64) : (dg a).length ≤ 2 ∧ 1 ≤ (dg a).length ∧ (44 : UInt8) ∉ dg a ∧ Lib.atoiAll (dg a) = .ok a := by
  have := dg_fin ⟨a.toNat, by omega⟩
  rw [show (((⟨a.toNat, by omega⟩ : Fin 64) : Nat) : Int) = a by show (a.toNat : Int) = a; omega] at this
  exact this
theorem itoa_dg {a : Int} (h : 0 ≤ a ∧ a < 64) : strconv_Itoa a = some (bs (dg a)) := by
  rw [Itoa_eq (by omega)]
  unfold itoaL dg
  rw [if_neg (by omega)]
theorem digits_dg {a : Int} (h : 0 ≤ a ∧ a < 64) : ref02_Digits a = some (bs (dg a)) := by
  obtain ⟨u, rfl⟩ : ∃ u : Nat, a = u := ⟨a.toNat, by omega⟩
  rw [ref_Digits (by omega)]; rfl
/-- Digits of numbers, with a comma ahead of each (but of the first). -/
def tx : Bool → List Int → List UInt8
  | _, [] => []
  | z, a :: l => (if z then [] else [44]) ++ dg a ++ tx false l
/-- The text of a set. -/
def txt (x : Nat) : List UInt8 := if x = 0 then [45] else tx true (bt x)
theorem tx_len : ∀ (l : List Int) (z : Bool), (∀ v ∈ l, 0 ≤ v ∧ v < 64) → (tx z l).length ≤ 3 * l.length
  | [], z, h => Nat.zero_le _
  | a :: l, z, h => by
    have h1 := (dg_all (h a (List.mem_cons_self ..))).1
    have h2 := tx_len l false (fun v hv => h v (List.mem_cons_of_mem _ hv))
    have h3 : (if z = true then ([] : List UInt8) else [44]).length ≤ 1 := by cases z <;> simp
    simp only [tx, List.length_append, List.length_cons] at *
    omega
/-! ### Pieces -/
def tl : List (List UInt8) → List UInt8
  | [] => []
  | d :: e => 44 :: (d ++ tl e)
theorem tx_tl : ∀ l : List Int, tx false l = tl (l.map dg)
  | [] => rfl
  | a :: l => by
    show [44] ++ dg a ++ tx false l = 44 :: (dg a ++ tl (l.map dg))
    rw [tx_tl l]; simp
theorem tx_cons (a : Int) (l : List Int) : tx true (a :: l) = dg a ++ tl (l.map dg) := by
  show [] ++ dg a ++ tx false l = _
  rw [tx_tl l]; simp
theorem ib_at : ∀ (d r : List UInt8), (44 : UInt8) ∉ d → Lib.indexByte (d ++ 44 :: r) 44 = (d.length : Int)
  | [], r, _ => by simp [Lib.indexByte]
  | b :: d, r, h => by
    have hb : ¬ (b == 44) = true := fun e => h (by rw [eq_of_beq e]; exact List.mem_cons_self ..)
    rw [List.cons_append, Lib.indexByte, if_neg hb, ib_at d r (fun e => h (List.mem_cons_of_mem _ e)), if_neg (by simp)]
    simp
theorem splitK_tl : ∀ (ds : List (List UInt8)) (d : List UInt8), (44 : UInt8) ∉ d → (∀ x ∈ ds, (44 : UInt8) ∉ x) → Lib.splitK [44] 0 (Lib.count (d ++ tl ds) [44]) (d ++ tl ds) = d :: ds
  | [], d, h, _ => by
    rw [show tl [] = [] from rfl, List.append_nil, Lib.count_one, List.count_eq_zero.2 h]
    rfl
  | e :: es, d, h, hs => by
    have ih := splitK_tl es e (hs e (List.mem_cons_self ..)) (fun x hx => hs x (List.mem_cons_of_mem _ hx))
    rw [show tl (e :: es) = 44 :: (e ++ tl es) from rfl]
    have hc : Lib.count (d ++ 44 :: (e ++ tl es)) [44] = Lib.count (e ++ tl es) [44] + 1 := by
      rw [Lib.count_one, Lib.count_one, List.count_append, List.count_eq_zero.2 h, List.count_cons]
      simp
    have hi : Lib.index (d ++ 44 :: (e ++ tl es)) [44] = (d.length : Int) := by rw [Lib.index_one, ib_at d _ h]
    rw [hc, Lib.splitK, hi, if_neg (by simp)]
    rw [Int.toNat_natCast, Nat.add_zero, List.take_left, show d.length + ([44] : List UInt8).length = d.length + 1 from rfl, List.drop_append, List.drop_of_length_le (by omega), show d.length + 1 - d.length = 1 by omega]
    rw [List.nil_append, List.drop_succ_cons, List.drop_zero, ih]
theorem spl_eq (ds : List (List UInt8)) (d : List UInt8) (h : (44 : UInt8) ∉ d) (hs : ∀ x ∈ ds, (44 : UInt8) ∉ x) : splT (bs (d ++ tl ds)) ⟨#[44]⟩ = (d :: ds).map bs := by
  have h1 := Lib.splitB_data ⟨#[44]⟩ 0 (Lib.countB (bs (d ++ tl ds)) ⟨#[44]⟩) (bs (d ++ tl ds))
  have h2 : Lib.splitK [44] 0 (Lib.count (d ++ tl ds) [44]) (d ++ tl ds) = d :: ds := splitK_tl ds d h hs
  have h3 : (splT (bs (d ++ tl ds)) ⟨#[44]⟩).map bl = d :: ds := h1.trans h2
  rw [← h3, List.map_map]
  conv => lhs; rw [← List.map_id (splT (bs (d ++ tl ds)) ⟨#[44]⟩)]
  exact List.map_congr_left fun x _ => (bs_bl x).symm
theorem spl_len (s : ByteArray) : (splT s ⟨#[44]⟩).length ≤ s.size + 1 := by
  have h1 := Lib.splitB_all ⟨#[44]⟩ (by decide) 0 _ s rfl
  have h2 := Lib.countB_le ⟨#[44]⟩ (by decide) s.size s (Nat.le_refl _)
  unfold splT
  omega
/-! ### The set of a list of its numbers -/
theorem ofN_lt : ∀ (l : List Int) (s : Nat), s < 18446744073709551616 → ofN s l < 18446744073709551616
  | [], s, h => h
  | a :: l, s, h => ofN_lt l _ (withN_lt h a)
theorem ofN_up : ∀ (l : List Int) (s : Nat), (∀ v ∈ l, 0 ≤ v ∧ v < 64) → ofN s l = upN 0 s l
  | [], s, h => rfl
  | a :: l, s, h => by
    have ha := h a (List.mem_cons_self ..)
    rw [ofN, upN, ← ofN_up l _ (fun v hv => h v (List.mem_cons_of_mem _ hv))]
    unfold withN
    have : inR a = true := decide_eq_true ⟨ha.1, by omega⟩
    rw [if_pos this, Nat.add_zero, Nat.mod_eq_of_lt (by omega)]
theorem ofN_bt {x : Nat} (hx : x < 18446744073709551616) : ofN 0 (bt x) = x := by
  rw [ofN_up _ _ (fun v hv => bt_rng hv), upN_rot hx (by omega), rot_zero x hx]
end LJ
