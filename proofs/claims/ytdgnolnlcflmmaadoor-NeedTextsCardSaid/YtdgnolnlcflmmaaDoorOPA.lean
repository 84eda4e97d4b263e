/- Plain laws of numbers as bytes: the program's writer and reader, and the document's. -/
import Derived.Test.YtdgnolnlcflmmaaDoorPF
import Derived.Test.YtdgnolnlcflmmaaDoorXPB
namespace LJ
open Go Go.RowKit
set_option linter.unusedVariables false
set_option linter.unusedSimpArgs false

theorem if_some {c : Prop} [Decidable c] {α : Type} (a b : α) : (if c then some a else some b) = some (if c then a else b) := by split <;> rfl

/-! ### Writing -/
theorem Out_Num_l4 (K : (Int × ByteArray) → Option T_octet_Out) (hK : ∀ (n : Nat) (b : ByteArray), n < 128 → b.size + 1 ≤ 140737488355328 → K ((n : Int), b) = some ⟨b.push (UInt8.ofNat n)⟩) : ∀ (k f n : Nat) (b : ByteArray), n < 128 ^ (k + 1) → k < f → b.size + (numL n).length ≤ 140737488355328 → octet_Out_Num_l4 K f ((n : Int), b) = some ⟨b ++ bs (numL n)⟩
  | k, 0, n, b, hn, hf, hb => by omega
  | k, f + 1, n, b, hn, hf, hb => by
    rw [octet_Out_Num_l4]
    simp only []
    by_cases h : n < 128
    · rw [iLt_f (by omega), cond_false]
      rw [numL_small h] at hb ⊢
      rw [hK n b h (by simpa using hb)]
      congr 2
      apply bl_inj
      simp
    · rw [iLt_t (by omega), cond_true]
      rw [numL_big h] at hb ⊢
      simp only [List.length_cons] at hb
      rw [(or128 n).2, need_of (nCap_of (by omega)), need_of (nIn_of (by omega))]
      have hk : 0 < k := by
        rcases Nat.eq_zero_or_pos k with rfl | h0
        · simp at hn; omega
        · exact h0
      obtain ⟨k', rfl⟩ : ∃ k', k = k' + 1 := ⟨k - 1, by omega⟩
      rw [show (n : Int) / 2 ^ min (7 : Int).toNat IntKind.u64.bits = ((n / 128 : Nat) : Int) by rw [show min (7 : Int).toNat IntKind.u64.bits = 7 from rfl]; omega]
      rw [Out_Num_l4 K hK k' f (n / 128) _ (by rw [Nat.pow_succ] at hn; omega) (by omega) (by rw [ByteArray.size_push]; omega)]
      congr 2
      apply bl_inj
      simp only [bl_append, bl_push, bl_bs, Int.toNat_natCast, List.append_assoc, List.cons_append, List.nil_append]
theorem Out_Num {b : ByteArray} {n : Nat} (hn : n < 18446744073709551616) (hb : b.size + (numL n).length ≤ 140737488355328) : octet_Out_Num ⟨b⟩ (n : Int) = some ⟨b ++ bs (numL n)⟩ := by
  rw [octet_Out_Num, withK]
  dsimp only
  refine Out_Num_l4 _ (fun n b hn hb => ?_) 9 fuel n b (by omega) (by have := fuel_big; omega) hb
  dsimp only
  rw [need_of (nCap_of hb), (or128 n).1, need_of (nIn_of (by omega)), show n % 256 = n by omega, Int.toNat_natCast]
theorem Out_Num' {b : ByteArray} {n : Int} (h0 : 0 ≤ n) (hn : n < 18446744073709551616) (hb : b.size + (numL n.toNat).length ≤ 140737488355328) : octet_Out_Num ⟨b⟩ n = some ⟨b ++ bs (numL n.toNat)⟩ := by
  have := Out_Num (b := b) (n := n.toNat) (by omega) hb
  rwa [Int.toNat_of_nonneg h0] at this
/-! ### Reading -/
/-- A reader of s before which l stands yet. -/
def mkI (s : ByteArray) (l : List UInt8) (e : Int) : T_octet_In := ⟨s, (s.size : Int) - l.length, e⟩
theorem suf_len {s : ByteArray} {l : List UInt8} (h : l <:+ bl s) : l.length ≤ s.size := by rw [← bl_len]; exact h.length_le
theorem suf_get {s : ByteArray} {b : UInt8} {l : List UInt8} (h : (b :: l) <:+ bl s) : byteAt s (s.size - (l.length + 1)) = (b.toNat : Int) := by
  have hl := suf_len h
  simp only [List.length_cons] at hl
  rw [byteAt_bl s _ (by omega)]
  congr 2
  obtain ⟨t, ht⟩ := h
  have hlen : t.length = s.size - (l.length + 1) := by
    have := congrArg List.length ht
    rw [bl_len] at this
    simp at this
    omega
  simp only [← hlen, ← ht]
  simp
theorem suf_tail {b : UInt8} {l k : List UInt8} (h : (b :: l) <:+ k) : l <:+ k := (List.suffix_cons b l).trans h

theorem In_fail (s : ByteArray) (l : List UInt8) (e x : Int) (he : e ≠ 0 → l = []) : octet_In_fail (mkI s l e) x = some (mkI s [] (if e = 0 then x else e)) := by
  unfold octet_In_fail mkI
  dsimp only
  by_cases h : e = 0
  · rw [iEq_t h, cond_true, if_pos h]; simp
  · have := he h
    subst this
    rw [iEq_f h, cond_false, if_neg h]
theorem In_Byte_nil (s : ByteArray) (e : Int) : octet_In_Byte (mkI s [] e) = some (0, mkI s [] (if e = 0 then 3 else e)) := by
  unfold octet_In_Byte
  rw [iLe_t (by simp [mkI]), cond_true, In_fail s [] e 3 (fun _ => rfl)]
  rfl
theorem In_Byte_cons (s : ByteArray) (hs : s.size ≤ 140737488355328) (b : UInt8) (l : List UInt8) (e : Int) (h : (b :: l) <:+ bl s) : octet_In_Byte (mkI s (b :: l) e) = some ((b.toNat : Int), mkI s l e) := by
  have hl := suf_len h
  have hg := suf_get h
  simp only [List.length_cons] at hl
  unfold octet_In_Byte mkI
  simp only [List.length_cons]
  rw [iLe_f (by omega), cond_false, w64 (a := (s.size : Int) - ((l.length + 1 : Nat) : Int) + 1) (by omega), w64 (by omega), need_of (nIn_of (by omega)), show ((s.size : Int) - ((l.length + 1 : Nat) : Int) + 1 - 1).toNat = s.size - (l.length + 1) by omega, hg]
  have := u8_rng b
  rw [w64 (by omega)]
  congr 3
  omega
theorem valN_0 (l : List UInt8) : valN 0 0 (numR 0 l) = ((numR 0 l).2.1 : Int) := by
  unfold valN
  by_cases he : (numR 0 l).1 = 0
  · rw [iEq_t he, cond_true]; simp
  · rw [iEq_f he, cond_false, (numR_err l 0 he).1]; rfl
theorem In_Num_l2 (s : ByteArray) (hs : s.size ≤ 140737488355328) : ∀ (l : List UInt8) (i f acc : Nat), i ≤ 9 → 9 < f + i → acc < 128 ^ i → l <:+ bl s →
    octet_In_Num_l2 f ((acc : Int), (i : Int), s, (s.size : Int) - l.length, 0) = some (valN acc i (numR i l), mkI s (numR i l).2.2 (numR i l).1)
  | l, i, 0, acc, hi, hf, ha, hsuf => by omega
  | [], i, f + 1, acc, hi, hf, ha, hsuf => by
    rw [octet_In_Num_l2]
    dsimp only
    rw [iLt_t (by omega), cond_true]
    have := In_Byte_nil s 0
    unfold mkI at this
    rw [this, bind_some']
    dsimp only
    rw [iNe_t (by simp), cond_true]
    rfl
  | b :: l, i, f + 1, acc, hi, hf, ha, hsuf => by
    rw [octet_In_Num_l2]
    dsimp only
    rw [iLt_t (by omega), cond_true]
    have h1 := In_Byte_cons s hs b l 0 hsuf
    have hb := u8_rng b
    unfold mkI at h1
    rw [h1, bind_some']
    dsimp only
    rw [iNe_f rfl, cond_false]
    by_cases hbad : (i = 9 ∧ 1 < b.toNat) ∨ (0 < i ∧ b.toNat = 0)
    · rw [numR_bad hbad, show (iEq (i : Int) 9 && iLt 1 (b.toNat : Int) || iLt 0 (i : Int) && iEq (b.toNat : Int) 0) = true by simp only [Bool.or_eq_true, Bool.and_eq_true, iEq_iff, iLt_iff]; omega, cond_true]
      have h2 := In_fail s l 0 2 (fun h => absurd rfl h)
      unfold mkI at h2
      rw [h2]
      rfl
    · rw [show (iEq (i : Int) 9 && iLt 1 (b.toNat : Int) || iLt 0 (i : Int) && iEq (b.toNat : Int) 0) = false by simp only [Bool.or_eq_false_iff, Bool.and_eq_false_iff, iEq_iff', iLt_iff']; omega, cond_false]
      have hst := step7 (acc := acc) (b := b.toNat) (i := i) (by omega) ha (by omega) (by omega)
      rw [need_of (nNn_of (by rw [w64 (by omega)]; omega))]
      by_cases hlt : b.toNat < 128
      · rw [numR_last hbad hlt, iLt_t (by omega), cond_true, hst.1, Nat.mod_eq_of_lt hlt]
        rfl
      · rw [iLt_f (by omega), cond_false, hst.1, w64 (a := (i : Int) + 1) (by omega)]
        have hi9 : i < 9 := by omega
        have ha2 : acc + b.toNat % 128 * 128 ^ i < 128 ^ (i + 1) := by
          rw [Nat.pow_succ]
          have : b.toNat % 128 * 128 ^ i ≤ 127 * 128 ^ i := Nat.mul_le_mul_right _ (by omega)
          omega
        have ih := In_Num_l2 s hs l (i + 1) f (acc + b.toNat % 128 * 128 ^ i) (by omega) (by omega) ha2 (suf_tail hsuf)
        rw [show ((i + 1 : Nat) : Int) = (i : Int) + 1 from by omega] at ih
        rw [ih]
        by_cases he : (numR (i + 1) l).1 = 0
        · rw [numR_more hbad hlt he]
          unfold valN
          dsimp only
          rw [iEq_t he, cond_true, iEq_t rfl, cond_true, he]
          congr 3
          rw [Nat.pow_succ, Nat.add_mul, Nat.add_assoc]
          congr 1
          rw [Nat.mul_comm (128 ^ i) 128, ← Nat.mul_assoc, Nat.mul_comm ((numR (i + 1) l).2.1) 128]
        · rw [numR_off hbad hlt he]
          unfold valN
          dsimp only
          rw [iEq_f he, (numR_err l (i + 1) he).1]
          rfl
theorem In_Num (s : ByteArray) (hs : s.size ≤ 140737488355328) (l : List UInt8) (h : l <:+ bl s) : octet_In_Num (mkI s l 0) = some (((numR 0 l).2.1 : Int), mkI s (numR 0 l).2.2 (numR 0 l).1) := by
  unfold octet_In_Num
  have := In_Num_l2 s hs l 0 fuel 0 (by omega) (by have := fuel_big; omega) (by decide) h
  refine Eq.trans this ?_
  rw [valN_0]
theorem In_Num_err (s : ByteArray) (e : Int) (he : e ≠ 0) : octet_In_Num (mkI s [] e) = some (0, mkI s [] e) := by
  unfold octet_In_Num
  obtain ⟨f, hf⟩ := fuel_pos
  rw [hf, octet_In_Num_l2]
  simp only []
  rw [iLt_t (by decide), cond_true]
  have h1 := In_Byte_nil s e
  rw [if_neg he] at h1
  unfold mkI at h1 ⊢
  dsimp only
  rw [h1, bind_some']
  dsimp only
  rw [iNe_t he, cond_true]
theorem zag_ref {n : Nat} (h : n < 18446744073709551616) : (if Int.tmod (n : Int) 2 = 0 then IntKind.i64.wrap (IntKind.u64.wrap (Int.tdiv (n : Int) 2)) else IntKind.i64.wrap (IntKind.i64.wrap (0 - IntKind.i64.wrap (IntKind.u64.wrap (Int.tdiv (n : Int) 2))) - 1)) = zag n := by
  rw [Int.tmod_eq_emod_of_nonneg (by omega), Int.tdiv_eq_ediv_of_nonneg (by omega), wu64 (by omega), w64 (a := (n : Int) / 2) (by omega), w64 (a := 0 - (n : Int) / 2) (by omega)]
  unfold zag
  split <;> split <;> first | omega | (rw [w64 (by omega)]; omega)
/-! What is left -/
theorem In_Left (s : ByteArray) (hs : s.size ≤ 140737488355328) (l : List UInt8) (e : Int) (h : l <:+ bl s) : octet_In_Left (mkI s l e) = some (l.length : Int) := by
  have := suf_len h
  unfold octet_In_Left mkI
  simp only []
  rw [w64 (by omega)]
  congr 1
  omega
theorem In_Open (s : ByteArray) : octet_Open s = some (mkI s (bl s) 0) := by
  unfold octet_Open mkI
  rw [bl_len]
  simp
end LJ