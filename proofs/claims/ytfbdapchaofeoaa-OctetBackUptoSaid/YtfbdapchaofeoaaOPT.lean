/- Plain laws: texts, written and read. -/
import Derived.Test.YtfbdapchaofeoaaOPB
namespace LJ
open Go Go.RowKit
set_option linter.unusedVariables false
set_option linter.unusedSimpArgs false

theorem Out_Text {b s : ByteArray} (hs : s.size < 18446744073709551616) (hb : b.size + (numL s.size).length + s.size ≤ 140737488355328) : octet_Out_Text ⟨b⟩ s = some ⟨b ++ bs (numL s.size) ++ s⟩ := by
  unfold octet_Out_Text
  rw [wu64 (by omega), Out_Num hs (by omega), bind_some']
  dsimp only
  rw [need_of (nCap_of (by rw [ByteArray.size_append, bs_size]; omega))]
theorem Out_Byte {b : ByteArray} {n : Int} (hb : b.size + 1 ≤ 140737488355328) : octet_Out_Byte ⟨b⟩ n = some ⟨b.push (UInt8.ofNat (n % 256).toNat)⟩ := by
  unfold octet_Out_Byte
  have : IntKind.u8.wrap n = n % 256 := IntKind.wrap_u8 n
  rw [this, need_of (nCap_of hb), need_of (nIn_of (by omega))]
theorem refText {s : ByteArray} (hs : s.size ≤ 4611686018427387904) : ref01_Text s = some (bs (numL s.size) ++ s) := by
  unfold ref01_Text
  have := numL_len10 (n := s.size) (by omega)
  rw [wu64 (by omega), refNum (by omega), bind_some', need_of (nStr_of (by rw [bs_size]; omega))]

/-- What a reader makes of a text. -/
def rdT (l : List UInt8) (e : Int) : Int × List UInt8 × List UInt8 :=
  if (rdN l e).1 ≠ 0 then ((rdN l e).1, [], []) else if (rdN l e).2.2.length < (rdN l e).2.1 then (3, [], []) else (0, (rdN l e).2.2.take (rdN l e).2.1, (rdN l e).2.2.drop (rdN l e).2.1)
theorem RdOK.text {s : ByteArray} {l : List UInt8} {e : Int} (h : RdOK s l e) : RdOK s (rdT l e).2.2 (rdT l e).1 := by
  unfold rdT
  split
  · exact ⟨List.nil_suffix, fun _ => rfl⟩
  · split
    · exact ⟨List.nil_suffix, fun _ => rfl⟩
    · exact ⟨(List.drop_suffix _ _).trans h.num.suf, fun he => absurd rfl he⟩
theorem suf_extract {s : ByteArray} {t : List UInt8} (h : t <:+ bl s) (n : Nat) (hn : n ≤ t.length) : s.extract (s.size - t.length) (s.size - t.length + n) = bs (t.take n) := by
  apply bl_inj
  rw [bl_extract, bl_bs]
  obtain ⟨p, hp⟩ := h
  have hlen : p.length = s.size - t.length := by
    have := congrArg List.length hp
    rw [bl_len] at this
    simp at this
    omega
  rw [← hlen, ← hp, List.drop_take, List.drop_left]
  congr 1
  omega
theorem rdN_zero {l : List UInt8} {e : Int} (h : (rdN l e).1 ≠ 0) : (rdN l e).2 = (0, []) := by
  unfold rdN at h ⊢
  split at h
  · rename_i he; rw [if_pos he]; exact (numR_err l 0 h).1
  · rename_i he; rw [if_neg he]
theorem In_Text_gen {s : ByteArray} (hs : s.size ≤ 140737488355328) {l : List UInt8} {e : Int} (h : RdOK s l e) : octet_In_Text (mkI s l e) = some (bs (rdT l e).2.1, mkI s (rdT l e).2.2 (rdT l e).1) := by
  unfold octet_In_Text
  rw [In_Num_gen hs h, bind_some']
  have hn := h.num
  have hz := rdN_zero (l := l) (e := e)
  have hlt := rdN_lt l e
  unfold rdT
  generalize rdN l e = r at *
  obtain ⟨er, n, t⟩ := r
  have hl := suf_len hn.suf
  dsimp only at *
  unfold mkI
  dsimp only
  rw [w64 (a := (s.size : Int) - ((s.size : Int) - t.length)) (by omega), wu64 (by omega)]
  by_cases he : er = 0
  · rw [if_neg (by simpa using he)]
    by_cases hlt2 : t.length < n
    · rw [if_pos hlt2, iLt_t (by omega), cond_true]
      have hf := In_fail_gen hn 3
      unfold mkI at hf
      rw [hf, bind_some', if_pos he]
      rfl
    · rw [if_neg hlt2, iLt_f (by omega), cond_false, w64 (a := (n : Int)) (by omega), w64 (a := (s.size : Int) - t.length + n) (by omega), w64 (by omega), need_of (nSl_of (by omega)), he]
      rw [show ((s.size : Int) - t.length + n - n).toNat = s.size - t.length by omega, show ((s.size : Int) - t.length + n).toNat = s.size - t.length + n by omega, suf_extract hn.suf n (by omega)]
      simp only [List.length_drop]
      congr 3
      omega
  · rw [if_pos he]
    have hz := hz he
    simp only [Prod.mk.injEq] at hz
    obtain ⟨rfl, rfl⟩ := hz
    rw [iLt_f (by simp), cond_false]
    simp only [List.length_nil]
    rw [show IntKind.i64.wrap ((0 : Nat) : Int) = 0 from by decide, w64 (a := (s.size : Int) - ((0 : Nat) : Int) + 0) (by omega), w64 (by omega), need_of (nSl_of (by omega))]
    have : s.extract ((s.size : Int) - ((0 : Nat) : Int) + 0 - 0).toNat ((s.size : Int) - ((0 : Nat) : Int) + 0).toNat = bs [] := by
      apply bl_inj
      rw [bl_extract, bl_bs]
      apply List.eq_nil_of_length_eq_zero
      simp [bl_len]
    rw [this]
    congr 3
theorem refWords_gen {s : ByteArray} (hs : s.size ≤ 140737488355328) {l : List UInt8} {e : Int} (h : RdOK s l e) : ref01_Words (mkR s l e) = some (bs (rdT l e).2.1, mkR s (rdT l e).2.2 (rdT l e).1) := by
  unfold ref01_Words
  rw [refNumber_gen hs h, bind_some']
  have hn := h.num
  have hz := rdN_zero (l := l) (e := e)
  have hlt := rdN_lt l e
  unfold rdT
  generalize rdN l e = r at *
  obtain ⟨er, n, t⟩ := r
  have hl := suf_len hn.suf
  dsimp only at *
  unfold mkR
  dsimp only
  rw [w64 (a := (s.size : Int) - ((s.size : Int) - t.length)) (by omega), wu64 (by omega)]
  by_cases he : er = 0
  · rw [if_neg (by simpa using he)]
    by_cases hlt2 : t.length < n
    · rw [if_pos hlt2, iLt_t (by omega), cond_true]
      have hf := refFail_gen hn 3
      unfold mkR at hf
      rw [hf, bind_some', if_pos he]
      rfl
    · rw [if_neg hlt2, iLt_f (by omega), cond_false, w64 (a := (n : Int)) (by omega), w64 (a := (s.size : Int) - t.length + n) (by omega), need_of (nSl_of (by omega)), he]
      rw [show ((s.size : Int) - t.length).toNat = s.size - t.length by omega, show ((s.size : Int) - t.length + n).toNat = s.size - t.length + n by omega, suf_extract hn.suf n (by omega)]
      simp only [List.length_drop]
      congr 3
      omega
  · rw [if_pos he]
    have hz := hz he
    simp only [Prod.mk.injEq] at hz
    obtain ⟨rfl, rfl⟩ := hz
    rw [iLt_f (by simp), cond_false]
    simp only [List.length_nil]
    rw [show IntKind.i64.wrap ((0 : Nat) : Int) = 0 from by decide, w64 (a := (s.size : Int) - ((0 : Nat) : Int) + 0) (by omega), need_of (nSl_of (by omega))]
    have : s.extract ((s.size : Int) - ((0 : Nat) : Int)).toNat ((s.size : Int) - ((0 : Nat) : Int) + 0).toNat = bs [] := by
      apply bl_inj
      rw [bl_extract, bl_bs]
      apply List.eq_nil_of_length_eq_zero
      simp [bl_len]
    rw [this]
    congr 3
end LJ
