/- Plain laws of objects as bytes. -/
import Derived.Test.YthcinpgklihaoaaD8A
namespace LJ
open Go Go.RowKit
set_option linter.unusedVariables false
set_option linter.unusedSimpArgs false

/-- Numbers of an object that may be put. -/
structure RngD (d : T_api_Decl) : Prop where
  k : 1 ≤ d.Kind ∧ d.Kind ≤ 7
  a : -2147483648 ≤ d.A ∧ d.A < 2147483648
  b : 0 ≤ d.B ∧ d.B < 2147483648
  a0 : d.Kind ≠ 7 → 0 ≤ d.A
  az : d.Kind ≠ 3 → d.Kind ≠ 6 → d.Kind ≠ 7 → d.A = 0
  bz : d.Kind ≠ 3 → d.Kind ≠ 7 → d.B = 0
theorem fitD_rng {L : List T_api_Decl} {c o : Int} (h : fitD L c o = true) : 0 ≤ o ∧ o < L.length := by
  unfold fitD at h
  cases hb : (iLt o 0 || iLe (L.length : Int) o) with
  | true => rw [hb] at h; cases h
  | false => simp only [Bool.or_eq_false_iff, iLt_iff', iLe_iff'] at hb; omega
theorem RngD.of {L : List T_api_Decl} (hL : L.length ≤ 32) {d : T_api_Decl} (h : badD L d = 0) : RngD d := by
  unfold badD at h
  by_cases h3 : d.Kind = 3
  · rw [iEq_t h3, cond_true] at h
    cases hb : (iLe 1 d.B && iLe d.B 1000 && iLe 0 d.A && iLe d.A d.B) with
    | false => rw [hb] at h; cases h
    | true =>
      simp only [Bool.and_eq_true, iLe_iff] at hb
      constructor <;> omega
  · rw [iEq_f h3, cond_false] at h
    by_cases h6 : d.Kind = 6
    · rw [iEq_t h6, cond_true] at h
      cases hb : (iLe 1 d.A && iLe d.A 1000) with
      | false => rw [hb] at h; cases h
      | true =>
        rw [hb, cond_true] at h
        cases hz : iEq d.B 0 with
        | false => rw [hz] at h; cases h
        | true =>
          simp only [Bool.and_eq_true, iLe_iff] at hb
          rw [iEq_iff] at hz
          constructor <;> omega
    · rw [iEq_f h6, cond_false] at h
      by_cases h7 : d.Kind = 7
      · rw [iEq_t h7, cond_true] at h
        cases hb : (fitW d.A && fitD L 117 d.B) with
        | false => rw [hb] at h; cases h
        | true =>
          simp only [Bool.and_eq_true] at hb
          have h2 := fitD_rng hb.2
          have h1 := hb.1
          unfold fitW at h1
          simp only [Bool.and_eq_true, iLe_iff, iLt_iff] at h1
          constructor <;> omega
      · rw [iEq_f h7, cond_false] at h
        cases hb : (iEq d.Kind 1 || iEq d.Kind 2 || iEq d.Kind 4 || iEq d.Kind 5) with
        | false => rw [hb] at h; cases h
        | true =>
          rw [hb, cond_true] at h
          cases hz : (iEq d.A 0 && iEq d.B 0) with
          | false => rw [hz] at h; cases h
          | true =>
            simp only [Bool.or_eq_true, Bool.and_eq_true, iEq_iff] at hb hz
            constructor <;> omega
theorem chkD_ok {L : List T_api_Decl} : ∀ {M : List T_api_Decl} {i : Int}, (chkD L M i).2 = 0 → ∀ d ∈ M, badD L d = 0
  | [], i, h => fun d hd => by cases hd
  | x :: M, i, h => by
    unfold chkD at h
    by_cases hx : badD L x = 0
    · rw [iNe_f hx, cond_false] at h
      intro d hd
      rcases List.mem_cons.1 hd with rfl | hd
      · exact hx
      · exact chkD_ok h d hd
    · rw [iNe_t hx, cond_true] at h
      exact absurd h hx
theorem chkD_zero {L : List T_api_Decl} : ∀ {M : List T_api_Decl} {i : Int}, (∀ d ∈ M, badD L d = 0) → chkD L M i = (0, 0)
  | [], i, h => rfl
  | x :: M, i, h => by
    unfold chkD
    rw [iNe_f (h x (List.mem_cons_self ..)), cond_false]
    exact chkD_zero fun d hd => h d (List.mem_cons_of_mem _ hd)
theorem chkL_ok {L : List T_api_Decl} (h : (chkL L).2 = 0) : L.length ≤ 32 ∧ chkL L = (0, 0) ∧ (∀ d ∈ L, badD L d = 0) ∧ ∀ d ∈ L, RngD d := by
  unfold chkL at h ⊢
  by_cases hl : 32 < (L.length : Int)
  · rw [iLt_t hl, cond_true] at h; cases h
  · rw [iLt_f (by omega), cond_false] at h ⊢
    have h1 := chkD_ok h
    exact ⟨by omega, chkD_zero h1, h1, fun d hd => RngD.of (by omega) (h1 d hd)⟩

/-! ### Their bytes -/
def putD (d : T_api_Decl) : List UInt8 := UInt8.ofNat d.Kind.toNat :: (if d.Kind = 3 then numL d.A.toNat ++ numL d.B.toNat else if d.Kind = 6 then numL d.A.toNat else if d.Kind = 7 then numL (zig d.A) ++ numL d.B.toNat else [])
def putDs (L : List T_api_Decl) : List UInt8 := numL L.length ++ L.flatMap putD
theorem putD_len {d : T_api_Decl} (h : RngD d) : (putD d).length ≤ 21 := by
  have ⟨_, ha, hb, _, _, _⟩ := h
  have h1 := numL_len10 (n := d.A.toNat) (by omega)
  have h2 := numL_len10 (n := d.B.toNat) (by omega)
  have h3 := numL_len10 (n := zig d.A) (zig_lt (by omega) (by omega))
  unfold putD
  rw [List.length_cons]
  split
  · rw [List.length_append]; omega
  · split
    · omega
    · split
      · rw [List.length_append]; omega
      · simp
theorem flat_len {α : Type} (f : α → List UInt8) (m : Nat) : ∀ {L : List α}, (∀ d ∈ L, (f d).length ≤ m) → (L.flatMap f).length ≤ m * L.length
  | [], h => by simp
  | x :: L, h => by
    rw [List.flatMap_cons, List.length_append, List.length_cons]
    have h1 := h x (List.mem_cons_self ..)
    have h2 := flat_len f m (L := L) fun d hd => h d (List.mem_cons_of_mem _ hd)
    have : m * (L.length + 1) = m * L.length + m := by rw [Nat.mul_add, Nat.mul_one]
    omega
theorem putDs_len {L : List T_api_Decl} (hL : L.length ≤ 32) (h : ∀ d ∈ L, RngD d) : (putDs L).length ≤ 1000 := by
  unfold putDs
  rw [List.length_append]
  have := numL_len10 (n := L.length) (by omega)
  have := flat_len putD 21 (fun d hd => putD_len (h d hd))
  omega
theorem ba_assoc (a b c : ByteArray) : a ++ b ++ c = a ++ (b ++ c) := ByteArray.append_assoc
theorem decl_Put_l5_eq (L : List T_api_Decl) (hL : L.length ≤ 32) (h : ∀ d ∈ L, RngD d) : ∀ (n i f : Nat) (b : ByteArray), i + n = L.length → n < f → b.size + 21 * n ≤ 10000 →
    decl_Put_l5 L f ((i : Int), b) = some (b ++ bs ((L.drop i).flatMap putD), 0)
  | n, i, 0, b, hi, hf, hb => by omega
  | 0, i, f + 1, b, hi, hf, hb => by
    rw [decl_Put_l5]
    dsimp only
    rw [iLt_f (by omega), cond_false, List.drop_eq_nil_of_le (by omega)]
    show some (b, (0 : Int)) = _
    congr 2
    apply bl_inj
    simp
  | n + 1, i, f + 1, b, hi, hf, hb => by
    rw [decl_Put_l5]
    dsimp only
    have hm : L.getD i default ∈ L := by
      rw [List.getD_eq_getElem?_getD, List.getElem?_eq_getElem (by omega)]
      exact List.getElem_mem _
    have hd := h _ hm
    rw [iLt_t (by omega), cond_true, need_of (nIn_of ⟨by omega, by omega⟩), Int.toNat_natCast, getD_drop L i (by omega), List.flatMap_cons]
    generalize L.getD i default = d at *
    have hlen := putD_len hd
    have ⟨hk, ha, hbb, ha0, haz, hbz⟩ := hd
    have h1 := numL_len10 (n := d.A.toNat) (by omega)
    have h2 := numL_len10 (n := d.B.toNat) (by omega)
    have h3 := numL_len10 (n := zig d.A) (zig_lt (by omega) (by omega))
    unfold octet_Out_Byte
    rw [wu8 (by omega), need_of (nCap_of (by dsimp only; omega)), need_of (nIn_of (by omega)), bind_some']
    dsimp only
    have w : IntKind.i64.wrap ((i : Int) + 1) = ((i + 1 : Nat) : Int) := by rw [w64 (by omega)]; omega
    have sz : (b.push (UInt8.ofNat d.Kind.toNat)).size = b.size + 1 := ByteArray.size_push
    have go : ∀ (x : List UInt8), UInt8.ofNat d.Kind.toNat :: x = putD d → decl_Put_l5 L f (IntKind.i64.wrap ((i : Int) + 1), b.push (UInt8.ofNat d.Kind.toNat) ++ bs x) = some (b ++ bs (putD d ++ (L.drop (i + 1)).flatMap putD), 0) := fun x hx => by
      have hxl : x.length ≤ 20 := by rw [← hx] at hlen; simpa using hlen
      rw [w, decl_Put_l5_eq L hL h n (i + 1) f _ (by omega) (by omega) (by rw [ByteArray.size_append, sz, bs_size]; omega)]
      congr 2
      apply bl_inj
      rw [← hx]
      simp
    by_cases k3 : d.Kind = 3
    · have a0 := ha0 (by omega)
      rw [iEq_t k3, cond_true, wu64 (a := d.A) (by omega), wu64 (a := d.B) (by omega), Out_Num' a0 (by omega) (by omega), bind_some', Out_Num' hbb.1 (by omega) (by rw [ByteArray.size_append, bs_size]; omega), bind_some']
      dsimp only
      rw [ba_assoc, ← bs_append]
      exact go _ (by unfold putD; rw [if_pos k3])
    · rw [iEq_f k3, cond_false]
      by_cases k6 : d.Kind = 6
      · have a0 := ha0 (by omega)
        rw [iEq_t k6, cond_true, wu64 (a := d.A) (by omega), Out_Num' a0 (by omega) (by omega), bind_some']
        exact go _ (by unfold putD; rw [if_neg k3, if_pos k6])
      · rw [iEq_f k6, cond_false]
        by_cases k7 : d.Kind = 7
        · rw [iEq_t k7, cond_true, wu64 (a := d.B) (by omega), Out_Int (by omega) (by omega) (by omega), bind_some', Out_Num' hbb.1 (by omega) (by rw [ByteArray.size_append, bs_size]; omega), bind_some']
          dsimp only
          rw [ba_assoc, ← bs_append]
          exact go _ (by unfold putD; rw [if_neg k3, if_neg k6, if_pos k7])
        · rw [iEq_f k7, cond_false]
          have := go [] (by unfold putD; rw [if_neg k3, if_neg k6, if_neg k7])
          have e : b.push (UInt8.ofNat d.Kind.toNat) ++ bs [] = b.push (UInt8.ofNat d.Kind.toNat) := bl_inj (by simp)
          rwa [e] at this
theorem decl_Put_ok {L : List T_api_Decl} (h : (chkL L).2 = 0) : decl_Put L = some (bs (putDs L), 0) := by
  obtain ⟨h1, h2, h3, h4⟩ := chkL_ok h
  unfold decl_Put
  rw [decl_Check_eq, bind_some', iNe_f h, cond_false, wu64 (by omega), Out_Num (by omega) (by have := numL_len10 (n := L.length) (by omega); simp; omega), bind_some']
  dsimp only
  have := numL_len10 (n := L.length) (by omega)
  rw [show (0 : Int) = ((0 : Nat) : Int) from rfl, decl_Put_l5_eq L h1 h4 L.length 0 fuel _ (by omega) (by have := fuel_big; omega) (by rw [ByteArray.size_append, bs_size]; simp; omega)]
  exact congrArg (fun z => some (z, (0 : Int))) (bl_inj (by unfold putDs; simp))
theorem decl_Put_bad {L : List T_api_Decl} (h : (chkL L).2 ≠ 0) : decl_Put L = some (ByteArray.empty, (chkL L).2) := by
  unfold decl_Put
  rw [decl_Check_eq, bind_some', iNe_t h, cond_true]
theorem ref08_Put_l3_eq (L : List T_api_Decl) (hL : L.length ≤ 32) (h : ∀ d ∈ L, RngD d) : ∀ (n i f : Nat) (b : ByteArray), i + n = L.length → n < f → b.size + 21 * n ≤ 10000 →
    ref08_Put_l3 L f (b, (i : Int)) = some (b ++ bs ((L.drop i).flatMap putD))
  | n, i, 0, b, hi, hf, hb => by omega
  | 0, i, f + 1, b, hi, hf, hb => by
    rw [ref08_Put_l3]
    dsimp only
    rw [iLt_f (by omega), cond_false, List.drop_eq_nil_of_le (by omega)]
    congr 1
    apply bl_inj
    simp
  | n + 1, i, f + 1, b, hi, hf, hb => by
    rw [ref08_Put_l3, withK]
    dsimp only
    have hm : L.getD i default ∈ L := by
      rw [List.getD_eq_getElem?_getD, List.getElem?_eq_getElem (by omega)]
      exact List.getElem_mem _
    have hd := h _ hm
    rw [iLt_t (by omega), cond_true, need_of (nIn_of ⟨by omega, by omega⟩), Int.toNat_natCast, getD_drop L i (by omega), List.flatMap_cons]
    generalize L.getD i default = d at *
    have hlen := putD_len hd
    have ⟨hk, ha, hbb, ha0, haz, hbz⟩ := hd
    have h1 := numL_len10 (n := d.A.toNat) (by omega)
    have h2 := numL_len10 (n := d.B.toNat) (by omega)
    have h3 := numL_len10 (n := zig d.A) (zig_lt (by omega) (by omega))
    have w : IntKind.i64.wrap ((i : Int) + 1) = ((i + 1 : Nat) : Int) := by rw [w64 (by omega)]; omega
    have sz : (ByteArray.empty.push (UInt8.ofNat d.Kind.toNat)).size = 1 := rfl
    have sz2 : (b ++ ByteArray.empty.push (UInt8.ofNat d.Kind.toNat)).size = b.size + 1 := by rw [ByteArray.size_append, sz]
    rw [wu8 (by omega), need_of (nIn_of (by omega)), sz, need_of (nStr_of (by omega))]
    have go : ∀ (x : List UInt8), UInt8.ofNat d.Kind.toNat :: x = putD d → ref08_Put_l3 L f (b ++ ByteArray.empty.push (UInt8.ofNat d.Kind.toNat) ++ bs x, IntKind.i64.wrap ((i : Int) + 1)) = some (b ++ bs (putD d ++ (L.drop (i + 1)).flatMap putD)) := fun x hx => by
      have hxl : x.length ≤ 20 := by rw [← hx] at hlen; simpa using hlen
      rw [w, ref08_Put_l3_eq L hL h n (i + 1) f _ (by omega) (by omega) (by rw [ByteArray.size_append, sz2, bs_size]; omega)]
      congr 1
      apply bl_inj
      rw [← hx]
      simp
    by_cases k3 : d.Kind = 3
    · have a0 := ha0 (by omega)
      rw [iEq_t k3, iEq_f (show d.Kind ≠ 6 by omega), iEq_f (show d.Kind ≠ 7 by omega)]
      simp only [Bool.true_or, Bool.or_false, cond_true, cond_false]
      rw [wu64 (a := d.A) (by omega), wu64 (a := d.B) (by omega), refNum' a0 (by omega), bind_some', bs_size, sz2, need_of (nStr_of (by omega)), refNum' hbb.1 (by omega), bind_some', bs_size, ByteArray.size_append, bs_size, sz2, need_of (nStr_of (by omega)), ba_assoc (b ++ _), ← bs_append]
      exact go _ (by unfold putD; rw [if_pos k3])
    · by_cases k6 : d.Kind = 6
      · have a0 := ha0 (by omega)
        rw [iEq_f k3, iEq_t k6, iEq_f (show d.Kind ≠ 7 by omega)]
        simp only [Bool.or_true, Bool.or_false, cond_true, cond_false]
        rw [wu64 (a := d.A) (by omega), refNum' a0 (by omega), bind_some', bs_size, sz2, need_of (nStr_of (by omega))]
        exact go _ (by unfold putD; rw [if_neg k3, if_pos k6])
      · by_cases k7 : d.Kind = 7
        · rw [iEq_f k3, iEq_f k6, iEq_t k7]
          simp only [Bool.or_true, Bool.or_false, cond_true, cond_false]
          rw [wu64 (a := d.B) (by omega), refInt (by omega) (by omega), bind_some', bs_size, sz2, need_of (nStr_of (by omega)), refNum' hbb.1 (by omega), bind_some', bs_size, ByteArray.size_append, bs_size, sz2, need_of (nStr_of (by omega)), ba_assoc (b ++ _), ← bs_append]
          exact go _ (by unfold putD; rw [if_neg k3, if_neg k6, if_pos k7])
        · rw [iEq_f k3, iEq_f k6, iEq_f k7]
          simp only [Bool.or_false, cond_true, cond_false]
          have := go [] (by unfold putD; rw [if_neg k3, if_neg k6, if_neg k7])
          have e : b ++ ByteArray.empty.push (UInt8.ofNat d.Kind.toNat) ++ bs [] = b ++ ByteArray.empty.push (UInt8.ofNat d.Kind.toNat) := bl_inj (by simp)
          rwa [e] at this
theorem ref08_Put_ok {L : List T_api_Decl} (h : (chkL L).2 = 0) : ref08_Put L = some (bs (putDs L)) := by
  obtain ⟨h1, h2, h3, h4⟩ := chkL_ok h
  unfold ref08_Put
  have := numL_len10 (n := L.length) (by omega)
  rw [wu64 (by omega), refNum (by omega), bind_some', show (0 : Int) = ((0 : Nat) : Int) from rfl, ref08_Put_l3_eq L h1 h4 L.length 0 fuel _ (by omega) (by have := fuel_big; omega) (by rw [bs_size]; omega)]
  exact congrArg some (bl_inj (by unfold putDs; simp))
end LJ
