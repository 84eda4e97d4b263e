/- Plain laws: more of reading numbers. -/
import Derived.Test.YtdgnolnlcflmmaaDoorOPB
namespace LJ
open Go Go.RowKit
set_option linter.unusedVariables false
set_option linter.unusedSimpArgs false

/-- A great number is out of every range. -/
def capN (r : Int × Nat × List UInt8) : Nat := min r.2.1 2147483648
theorem rdN_numL {n : Nat} (h : n < 18446744073709551616) (t : List UInt8) : rdN (numL n ++ t) 0 = (0, n, t) := by
  unfold rdN
  rw [if_pos rfl]
  exact numR_numL t 9 0 n (by omega) (by omega) (by omega)
theorem rdN_inv {l : List UInt8} {n : Nat} {t : List UInt8} (h : rdN l 0 = (0, n, t)) : l = numL n ++ t ∧ n < 18446744073709551616 := by
  unfold rdN at h
  rw [if_pos rfl] at h
  have := numR_inv l 0 n t (by omega) h
  exact ⟨this.1, this.2.1⟩
theorem rdN_inv' {l : List UInt8} (h : (rdN l 0).1 = 0) : l = numL (rdN l 0).2.1 ++ (rdN l 0).2.2 ∧ (rdN l 0).2.1 < 18446744073709551616 := rdN_inv (Prod.ext h rfl)
theorem rdN_trip (l : List UInt8) (e : Int) : rdN l e = ((rdN l e).1, (rdN l e).2.1, (rdN l e).2.2) := rfl
theorem rdN_err {l : List UInt8} {e : Int} (h : (rdN l e).1 = 0) : e = 0 := by
  unfold rdN at h
  split at h
  · assumption
  · exact h
theorem Out_Byte {b : ByteArray} {n : Int} (hb : b.size + 1 ≤ 140737488355328) : octet_Out_Byte ⟨b⟩ n = some ⟨b.push (UInt8.ofNat (n % 256).toNat)⟩ := by
  unfold octet_Out_Byte
  have : IntKind.u8.wrap n = n % 256 := IntKind.wrap_u8 n
  rw [this, need_of (nCap_of hb), need_of (nIn_of (by omega))]
end LJ
