/- Plain laws of bits: how many bits a number has. -/
import Derived.Test.YtjahbgdjejgkpaaDoorPF
import Derived.Test.YtjahbgdjejgkpaaDoorXPB
import Derived.Laws.Bits64b
import Derived.Laws.Bits128
namespace LJ
open Go Go.RowKit
set_option linter.unusedVariables false
set_option linter.unusedSimpArgs false

theorem mask_low (x M k c : Nat) (hk : k ≤ 7) (hM : ∀ i, i < 8 → M.testBit i = c.testBit i) (hc : ∀ i, c.testBit i = true → i + k < 8) : (x >>> k &&& M) % 2 ^ 8 = (x % 2 ^ 8) >>> k &&& c := by
  apply Nat.eq_of_testBit_eq
  intro i
  rw [Nat.testBit_mod_two_pow, Nat.testBit_and, Nat.testBit_and, Nat.testBit_shiftRight, Nat.testBit_shiftRight, Nat.testBit_mod_two_pow]
  by_cases hi : i < 8
  · rw [hM i hi]
    cases h : c.testBit i with
    | false => simp
    | true =>
      have := hc i h
      simp [hi, show k + i < 8 by omega]
  · cases h : c.testBit i with
    | false => simp [hi]
    | true => have := hc i h; omega
theorem mask_high (x M k : Nat) : (x >>> k &&& M) / 2 ^ 8 = (x / 2 ^ 8) >>> k &&& (M / 2 ^ 8) := by
  apply Nat.eq_of_testBit_eq
  intro i
  rw [Nat.testBit_div_two_pow, Nat.testBit_and, Nat.testBit_and, Nat.testBit_shiftRight, Nat.testBit_shiftRight, Nat.testBit_div_two_pow, Nat.testBit_div_two_pow]
  congr 2
/-- The mask of n bytes c. -/
def rep (c : Nat) : Nat → Nat
  | 0 => 0
  | n + 1 => c + 256 * rep c n
/-- A number's n lowest bytes. -/
def digs : Nat → Nat → List Nat
  | 0, _ => []
  | n + 1, x => x % 256 :: digs n (x / 256)
def stepN (k M x : Nat) : Nat := (x >>> k &&& M) + (x &&& M)
theorem rep_mod {c : Nat} (hc : c < 256) (n : Nat) : rep c (n + 1) % 2 ^ 8 = c ∧ rep c (n + 1) / 2 ^ 8 = rep c n := by
  simp only [rep]
  omega
theorem rep_bit {c : Nat} (hc : c < 256) (n i : Nat) (hi : i < 8) : (rep c (n + 1)).testBit i = c.testBit i := by
  have h := (rep_mod hc n).1
  have := Nat.testBit_mod_two_pow (rep c (n + 1)) 8 i
  rw [h] at this
  rw [this]
  simp [hi]
theorem stepN_digs {c k : Nat} (hc : c < 256) (hk : k ≤ 7) (hb : ∀ i, c.testBit i = true → i + k < 8) (hs : ∀ b, b < 256 → stepN k c b < 256) : ∀ n x, digs n (stepN k (rep c n) x) = (digs n x).map (stepN k c)
  | 0, x => rfl
  | n + 1, x => by
    have h1 := mask_low x (rep c (n + 1)) k c hk (fun i hi => rep_bit hc n i hi) hb
    have h2 := mask_low x (rep c (n + 1)) 0 c (by omega) (fun i hi => rep_bit hc n i hi) (fun i h => by have := hb i h; omega)
    have h3 := mask_high x (rep c (n + 1)) k
    have h4 := mask_high x (rep c (n + 1)) 0
    rw [(rep_mod hc n).2] at h3 h4
    have h5 := hs (x % 256) (by omega)
    simp only [Nat.shiftRight_zero] at h2 h4
    unfold stepN at h5
    have e1 : stepN k (rep c (n + 1)) x % 256 = stepN k c (x % 256) := by
      unfold stepN
      simp only [Nat.reducePow] at h1 h2
      omega
    have e2 : stepN k (rep c (n + 1)) x / 256 = stepN k (rep c n) (x / 256) := by
      unfold stepN
      simp only [Nat.reducePow] at h1 h2 h3 h4
      omega
    simp only [digs, List.map_cons]
    rw [e1, e2, stepN_digs hc hk hb hs n (x / 256)]

/-- The third step: nibbles added. -/
theorem third_digs : ∀ n z, (∀ b ∈ digs n z, b / 16 ≤ 4 ∧ b % 16 ≤ 4) → z < 256 ^ n → digs n ((z >>> 4 + z) &&& rep 15 n) = (digs n z).map fun b => b / 16 + b % 16
  | 0, z, _, _ => rfl
  | n + 1, z, hb, hz => by
    have h2 := mask_low (z >>> 4 + z) (rep 15 (n + 1)) 0 15 (by omega) (fun i hi => rep_bit (by decide) n i hi) (fun i h => by
      by_cases hi : i < 8
      · omega
      · rw [show (15 : Nat) = 2 ^ 4 - 1 from rfl, Nat.testBit_two_pow_sub_one] at h
        simp at h
        omega)
    have h4 := mask_high (z >>> 4 + z) (rep 15 (n + 1)) 0
    rw [(rep_mod (by decide) n).2] at h4
    simp only [Nat.shiftRight_zero, Nat.reducePow] at h2 h4
    rw [show (15 : Nat) = 2 ^ 4 - 1 from rfl, Nat.and_two_pow_sub_one_eq_mod] at h2
    obtain ⟨g1, g2⟩ := hb (z % 256) (by simp [digs])
    have hr : (z / 256) % 16 ≤ 4 := by
      cases n with
      | zero => simp at hz; omega
      | succ n =>
        have := (hb (z / 256 % 256) (by simp [digs])).2
        rwa [Nat.mod_mod_of_dvd _ (by decide : 16 ∣ 256)] at this
    have hs : z >>> 4 = z / 16 := by rw [Nat.shiftRight_eq_div_pow]
    have e3 : (z >>> 4 + z) / 256 = (z / 256) >>> 4 + z / 256 := by
      rw [hs, Nat.shiftRight_eq_div_pow]
      omega
    simp only [digs, List.map_cons]
    have hz' : z / 256 < 256 ^ n := by
      rw [Nat.pow_succ] at hz
      exact Nat.div_lt_of_lt_mul (by rw [Nat.mul_comm]; exact hz)
    rw [h4, e3, third_digs n (z / 256) (fun b h => hb b (by simp [digs, h])) hz', h2, hs]
    congr 1
    omega

/-- The last three steps: the bytes' sum. -/
theorem sum8 {z b0 b1 b2 b3 b4 b5 b6 b7 Z1 Z2 Z3 Z4 Z5 Z6 : Nat} (h0 : b0 ≤ 8) (h1 : b1 ≤ 8) (h2 : b2 ≤ 8) (h3 : b3 ≤ 8) (h4 : b4 ≤ 8) (h5 : b5 ≤ 8) (h6 : b6 ≤ 8) (h7 : b7 ≤ 8)
    (e0 : z = b0 + 256 * Z1) (e1 : Z1 = b1 + 256 * Z2) (e2 : Z2 = b2 + 256 * Z3) (e3 : Z3 = b3 + 256 * Z4) (e4 : Z4 = b4 + 256 * Z5) (e5 : Z5 = b5 + 256 * Z6) (e6 : Z6 = b6 + 256 * b7) :
    ∃ y v t, y = z / 256 + z ∧ y < 2 ^ 64 ∧ v = y / 65536 + y ∧ v < 2 ^ 64 ∧ t = v / 4294967296 + v ∧ t < 2 ^ 64 ∧ t % 128 = b0 + b1 + b2 + b3 + b4 + b5 + b6 + b7 := by
  have f0 : z / 256 = Z1 := by omega
  have f2 : (z / 256 + z) / 65536 = Z2 + Z3 := by rw [f0]; omega
  have f4 : ((z / 256 + z) / 65536 + (z / 256 + z)) / 4294967296 = Z4 + Z5 + Z6 + b7 := by rw [f2, f0]; omega
  refine ⟨_, _, _, rfl, by rw [f0]; omega, rfl, by rw [f2, f0]; omega, rfl, by rw [f4, f2, f0]; omega, ?_⟩
  rw [f4, f2, f0]
  omega

/-- How many bits a byte, a number, has. -/
def popB (b : Nat) : Nat := b % 2 + b / 2 % 2 + b / 4 % 2 + b / 8 % 2 + b / 16 % 2 + b / 32 % 2 + b / 64 % 2 + b / 128 % 2
def cntN (x : Nat) : Nat := ((digs 8 x).map popB).sum
theorem byte_fin : ∀ b : Fin 256, stepN 1 85 b < 256 ∧ stepN 2 51 b < 256 ∧ stepN 2 51 (stepN 1 85 b) / 16 ≤ 4 ∧ stepN 2 51 (stepN 1 85 b) % 16 ≤ 4 ∧ stepN 2 51 (stepN 1 85 b) / 16 + stepN 2 51 (stepN 1 85 b) % 16 = popB b := by decide +kernel
theorem digs_lt : ∀ n x, ∀ b ∈ digs n x, b < 256
  | 0, x, b, h => by cases h
  | n + 1, x, b, h => by
    simp only [digs, List.mem_cons] at h
    rcases h with rfl | h
    · omega
    · exact digs_lt n (x / 256) b h
theorem fin_bit (c : Nat) (k : Nat) (hc : c < 256) (h : ∀ i : Fin 8, c.testBit i = true → (i : Nat) + k < 8) : ∀ i, c.testBit i = true → i + k < 8 := fun i hi => by
  by_cases h8 : i < 8
  · exact h ⟨i, h8⟩ hi
  · exfalso
    have : c.testBit i = false := Nat.testBit_lt_two_pow (Nat.lt_of_lt_of_le hc (by rw [show 256 = 2 ^ 8 from rfl]; exact Nat.pow_le_pow_right (by decide) (by omega)))
    rw [this] at hi
    cases hi
theorem digs_third {x : Nat} : digs 8 ((stepN 2 (rep 51 8) (stepN 1 (rep 85 8) x))) = (digs 8 x).map fun b => stepN 2 51 (stepN 1 85 b) := by
  rw [stepN_digs (by decide) (by decide) (fin_bit 51 2 (by decide) (by decide)) (fun b hb => (byte_fin ⟨b, hb⟩).2.1), stepN_digs (by decide) (by decide) (fin_bit 85 1 (by decide) (by decide)) (fun b hb => (byte_fin ⟨b, hb⟩).1), List.map_map]
  rfl

def stepC (x : Nat) : Nat := (stepN 2 (rep 51 8) (stepN 1 (rep 85 8) x) >>> 4 + stepN 2 (rep 51 8) (stepN 1 (rep 85 8) x)) &&& rep 15 8
theorem stepN_lt {k M x : Nat} (h : M + M < 18446744073709551616) : stepN k M x < 18446744073709551616 := by
  have h1 := Nat.and_le_right (n := x >>> k) (m := M)
  have h2 := Nat.and_le_right (n := x) (m := M)
  unfold stepN
  omega
theorem stepC_digs (x : Nat) : digs 8 (stepC x) = (digs 8 x).map popB := by
  have hlt : stepN 2 (rep 51 8) (stepN 1 (rep 85 8) x) < 256 ^ 8 := stepN_lt (by decide)
  unfold stepC
  rw [third_digs 8 _ (fun b hb => ?_) hlt, digs_third, List.map_map]
  · refine List.map_congr_left fun b hb => ?_
    exact (byte_fin ⟨b, digs_lt 8 x b hb⟩).2.2.2.2
  · rw [digs_third] at hb
    obtain ⟨c, hc, rfl⟩ := List.mem_map.1 hb
    have := byte_fin ⟨c, digs_lt 8 x c hc⟩
    exact ⟨this.2.2.1, this.2.2.2.1⟩
theorem cnt_steps (x : Nat) : ∃ y v t, y = stepC x / 256 + stepC x ∧ y < 2 ^ 64 ∧ v = y / 65536 + y ∧ v < 2 ^ 64 ∧ t = v / 4294967296 + v ∧ t < 2 ^ 64 ∧ t % 128 = cntN x := by
  have hd := stepC_digs x
  have hC : stepC x < 18446744073709551616 := Nat.lt_of_le_of_lt Nat.and_le_right (by decide : rep 15 8 < 18446744073709551616)
  have hle : ∀ b ∈ digs 8 (stepC x), b ≤ 8 := fun b hb => by
    rw [hd] at hb
    obtain ⟨c, hc, rfl⟩ := List.mem_map.1 hb
    unfold popB
    omega
  have hs : cntN x = (digs 8 (stepC x)).sum := by rw [hd]; rfl
  rw [hs]
  generalize stepC x = C at *
  simp only [digs, List.mem_cons, List.not_mem_nil, or_false, forall_eq_or_imp, forall_eq] at hle
  obtain ⟨g0, g1, g2, g3, g4, g5, g6, g7⟩ := hle
  obtain ⟨y, v, t, a1, a2, a3, a4, a5, a6, a7⟩ := sum8 (z := C) (Z1 := C / 256) (Z2 := C / 256 / 256) (Z3 := C / 256 / 256 / 256) (Z4 := C / 256 / 256 / 256 / 256) (Z5 := C / 256 / 256 / 256 / 256 / 256) (Z6 := C / 256 / 256 / 256 / 256 / 256 / 256) g0 g1 g2 g3 g4 g5 g6 g7 (by omega) (by omega) (by omega) (by omega) (by omega) (by omega) (by omega)
  refine ⟨y, v, t, a1, a2, a3, a4, a5, a6, ?_⟩
  rw [a7]
  simp only [digs, List.sum_cons, List.sum_nil]
  omega

theorem wu {n : Nat} (h : n < 18446744073709551616) : IntKind.u64.wrap (n : Int) = (n : Int) := by rw [IntKind.wrap_u64]; omega
theorem sh1 (a : Nat) : (a : Int) / (2 : Int) ^ min (1 : Int).toNat IntKind.u64.bits = ((a >>> 1 : Nat) : Int) := by
  rw [show min (1 : Int).toNat IntKind.u64.bits = 1 from rfl, Nat.shiftRight_eq_div_pow]; simp
theorem sh2 (a : Nat) : (a : Int) / (2 : Int) ^ min (2 : Int).toNat IntKind.u64.bits = ((a >>> 2 : Nat) : Int) := by
  rw [show min (2 : Int).toNat IntKind.u64.bits = 2 from rfl, Nat.shiftRight_eq_div_pow]; simp
theorem sh4 (a : Nat) : (a : Int) / (2 : Int) ^ min (4 : Int).toNat IntKind.u64.bits = ((a >>> 4 : Nat) : Int) := by
  rw [show min (4 : Int).toNat IntKind.u64.bits = 4 from rfl, Nat.shiftRight_eq_div_pow]; simp
theorem sh8 (a : Nat) : (a : Int) / (2 : Int) ^ min (8 : Int).toNat IntKind.u64.bits = ((a / 256 : Nat) : Int) := by
  rw [show min (8 : Int).toNat IntKind.u64.bits = 8 from rfl]; simp
theorem sh16 (a : Nat) : (a : Int) / (2 : Int) ^ min (16 : Int).toNat IntKind.u64.bits = ((a / 65536 : Nat) : Int) := by
  rw [show min (16 : Int).toNat IntKind.u64.bits = 16 from rfl]; simp
theorem sh32 (a : Nat) : (a : Int) / (2 : Int) ^ min (32 : Int).toNat IntKind.u64.bits = ((a / 4294967296 : Nat) : Int) := by
  rw [show min (32 : Int).toNat IntKind.u64.bits = 32 from rfl]; simp

theorem add_u {p q : Nat} (h : p + q < 18446744073709551616) : IntKind.u64.wrap ((p : Int) + (q : Int)) = ((p + q : Nat) : Int) := by
  rw [← Int.natCast_add, wu h]
theorem wrap127 (t : Int) : ((t + 9223372036854775808) % 18446744073709551616 - 9223372036854775808) % 128 = t % 128 := by
  rw [Int.emod_def (t + 9223372036854775808)]
  generalize (t + 9223372036854775808) / 18446744073709551616 = q
  omega
set_option maxRecDepth 100000 in
/-- OnesCount64 counts the bits. -/
theorem count64 {x : Nat} (hx : x < 18446744073709551616) : bits_OnesCount64 (x : Int) = some ((cntN x : Nat) : Int) := by
  obtain ⟨y, v, t, a1, a2, a3, a4, a5, a6, a7⟩ := cnt_steps x
  have r0 : rep 85 8 = 6148914691236517205 := by decide
  have r1 : rep 51 8 = 3689348814741910323 := by decide
  have r2 : rep 15 8 = 1085102592571150095 := by decide
  have and_u : ∀ (a b : Nat), a < 18446744073709551616 → b < 18446744073709551616 → Go.bits .and .u64 (a : Int) (b : Int) = ((a &&& b : Nat) : Int) := fun a b ha hb => bits_and_u64_nat a b ha hb
  have shlt : ∀ (a k : Nat), a < 18446744073709551616 → a >>> k < 18446744073709551616 := fun a k h => by rw [Nat.shiftRight_eq_div_pow]; exact Nat.lt_of_le_of_lt (Nat.div_le_self _ _) h
  generalize hA : stepN 1 (rep 85 8) x = A at *
  have hAlt : A < 18446744073709551616 := by rw [← hA]; exact stepN_lt (by decide)
  have s1 : IntKind.u64.wrap (Go.bits .and .u64 ((x : Int) / (2 : Int) ^ min (1 : Int).toNat IntKind.u64.bits) 6148914691236517205 + Go.bits .and .u64 (x : Int) 6148914691236517205) = (A : Int) := by
    rw [sh1, show (6148914691236517205 : Int) = ((6148914691236517205 : Nat) : Int) from rfl, and_u _ _ (shlt x 1 hx) (by decide), and_u _ _ hx (by decide), ← r0]
    unfold stepN at hA
    rw [add_u (by rw [hA]; exact hAlt), hA]
  generalize hB : stepN 2 (rep 51 8) A = B at *
  have hBlt : B < 18446744073709551616 := by rw [← hB]; exact stepN_lt (by decide)
  have s2 : IntKind.u64.wrap (Go.bits .and .u64 ((A : Int) / (2 : Int) ^ min (2 : Int).toNat IntKind.u64.bits) 3689348814741910323 + Go.bits .and .u64 (A : Int) 3689348814741910323) = (B : Int) := by
    rw [sh2, show (3689348814741910323 : Int) = ((3689348814741910323 : Nat) : Int) from rfl, and_u _ _ (shlt A 2 hAlt) (by decide), and_u _ _ hAlt (by decide), ← r1]
    unfold stepN at hB
    rw [add_u (by rw [hB]; exact hBlt), hB]
  have hBB : B ≤ rep 51 8 + rep 51 8 := by
    rw [← hB]
    unfold stepN
    exact Nat.add_le_add Nat.and_le_right Nat.and_le_right
  have hS : B >>> 4 + B < 18446744073709551616 := by
    rw [Nat.shiftRight_eq_div_pow]
    rw [r1] at hBB
    omega
  have hCd : stepC x = (B >>> 4 + B) &&& rep 15 8 := by unfold stepC; rw [hA, hB]
  have s3 : Go.bits .and .u64 (IntKind.u64.wrap ((B : Int) / (2 : Int) ^ min (4 : Int).toNat IntKind.u64.bits + (B : Int))) 1085102592571150095 = ((stepC x : Nat) : Int) := by
    rw [sh4, add_u hS, show (1085102592571150095 : Int) = ((1085102592571150095 : Nat) : Int) from rfl, and_u _ _ hS (by decide), hCd, r2]
  generalize stepC x = C at *
  have s4 : IntKind.u64.wrap ((C : Int) + (C : Int) / (2 : Int) ^ min (8 : Int).toNat IntKind.u64.bits) = (y : Int) := by
    rw [sh8, add_u (by omega), a1, Nat.add_comm]
  have s5 : IntKind.u64.wrap ((y : Int) + (y : Int) / (2 : Int) ^ min (16 : Int).toNat IntKind.u64.bits) = (v : Int) := by
    rw [sh16, add_u (by omega), a3, Nat.add_comm]
  have s6 : IntKind.u64.wrap ((v : Int) + (v : Int) / (2 : Int) ^ min (32 : Int).toNat IntKind.u64.bits) = (t : Int) := by
    rw [sh32, add_u (by omega), a5, Nat.add_comm]
  rw [bits_OnesCount64]
  rw [s1, s2, s3, s4, s5, s6, i64_and127, IntKind.wrap_i64, ← a7, wrap127]
  rfl
end LJ
