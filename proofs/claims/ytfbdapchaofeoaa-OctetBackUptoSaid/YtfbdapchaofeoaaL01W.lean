/- The laws OctetWrites and OctetBack, plainly. -/
import Derived.Test.YtfbdapchaofeoaaL01A
import Derived.Test.YtfbdapchaofeoaaCF
namespace LJ
open Go Go.RowKit
set_option linter.unusedVariables false
set_option linter.unusedSimpArgs false

/-- What a call puts. -/
def opL (x : T_ref01_Op) : List UInt8 :=
  if x.Kind = 0 then [UInt8.ofNat (x.N % 256).toNat] else if x.Kind = 1 then numL x.N.toNat else if x.Kind = 2 then numL (zig x.I) else numL x.S.size ++ bl x.S
theorem opL_len {x : T_ref01_Op} (w : wf_ref01_Op x) (hs : x.S.size ≤ 2000000) : (opL x).length ≤ x.S.size + 10 := by
  obtain ⟨w0, w1, w2, w3⟩ := w
  unfold inI64 inU64 at *
  unfold opL
  split
  · simp
  · split
    · have := numL_len10 (n := x.N.toNat) (by omega); omega
    · split
      · have := numL_len10 (n := zig x.I) (zig_lt w2.1 w2.2); omega
      · have := numL_len10 (n := x.S.size) (by omega)
        rw [List.length_append, bl_len]
        omega
theorem put_eq {b : ByteArray} {x : T_ref01_Op} (w : wf_ref01_Op x) (hs : x.S.size ≤ 2000000) (hb : b.size + x.S.size + 10 ≤ 140737488355328) : law01_put ⟨b⟩ x = some ⟨b ++ bs (opL x)⟩ := by
  obtain ⟨w0, w1, w2, w3⟩ := w
  unfold inI64 inU64 at *
  unfold law01_put opL
  by_cases h0 : x.Kind = 0
  · rw [iEq_t h0, cond_true, if_pos h0, Out_Byte (by omega), bind_some', Int.tmod_eq_emod_of_nonneg w1.1, w64 (by omega)]
    congr 2
    apply bl_inj
    simp
  · rw [iEq_f h0, cond_false, if_neg h0]
    by_cases h1 : x.Kind = 1
    · have := numL_len10 (n := x.N.toNat) (by omega)
      rw [iEq_t h1, cond_true, if_pos h1, Out_Num' w1.1 w1.2 (by omega)]
      rfl
    · rw [iEq_f h1, cond_false, if_neg h1]
      by_cases h2 : x.Kind = 2
      · have := numL_len10 (n := zig x.I) (zig_lt w2.1 w2.2)
        rw [iEq_t h2, cond_true, if_pos h2, Out_Int w2.1 w2.2 (by omega)]
        rfl
      · have := numL_len10 (n := x.S.size) (by omega)
        rw [iEq_f h2, cond_false, if_neg h2, Out_Text (by omega) (by omega), bind_some', bs_append, bs_bl, ByteArray.append_assoc]
theorem refPut_eq {x : T_ref01_Op} (w : wf_ref01_Op x) (hs : x.S.size ≤ 2000000) : ref01_Put x = some (bs (opL x)) := by
  obtain ⟨w0, w1, w2, w3⟩ := w
  unfold inI64 inU64 at *
  unfold ref01_Put opL
  by_cases h0 : x.Kind = 0
  · rw [iEq_t h0, cond_true, if_pos h0, Int.tmod_eq_emod_of_nonneg w1.1, wu8 (by omega), need_of (nIn_of (by omega))]
    congr 1
  · rw [iEq_f h0, cond_false, if_neg h0]
    by_cases h1 : x.Kind = 1
    · rw [iEq_t h1, cond_true, if_pos h1, refNum' w1.1 w1.2]
      rfl
    · rw [iEq_f h1, cond_false, if_neg h1]
      by_cases h2 : x.Kind = 2
      · rw [iEq_t h2, cond_true, if_pos h2, refInt w2.1 w2.2]
        rfl
      · rw [iEq_f h2, cond_false, if_neg h2, refText (by omega), bind_some', bs_append, bs_bl]

/-- How much the texts of a list are. -/
def szs (l : List T_ref01_Op) : Nat := (l.map fun x => x.S.size).sum
theorem bulk_szs (l : List T_ref01_Op) : szs l + 1 ≤ (slT enc_ref01_Op l).bulk := by
  rw [bulk_slT]
  unfold szs
  have : ∀ l : List T_ref01_Op, (l.map fun x => x.S.size).sum ≤ (l.map fun x => bulkL (enc_ref01_Op x)).sum := fun l => by
    induction l with
    | nil => simp
    | cons x l ih =>
      have : bulkL (enc_ref01_Op x) = x.S.size + 4 := by simp [enc_ref01_Op]; omega
      simp only [List.map_cons, List.sum_cons, this]
      omega
  have := this l
  omega
theorem drop_get {α : Type} [Inhabited α] {l : List α} {k : Nat} (h : k < l.length) : l.drop k = l.getD k default :: l.drop (k + 1) := by
  rw [List.drop_eq_getElem_cons h, List.getD_eq_getElem?_getD, List.getElem?_eq_getElem h]
  rfl
theorem getD_mem' {α : Type} [Inhabited α] {l : List α} {k : Nat} (h : k < l.length) : l.getD k default ∈ l := by
  rw [List.getD_eq_getElem?_getD, List.getElem?_eq_getElem h]
  exact List.getElem_mem h
theorem szs_step {l : List T_ref01_Op} {k : Nat} (h : k < l.length) : szs (l.drop k) = (l.getD k default).S.size + szs (l.drop (k + 1)) := by
  rw [drop_get h]
  rfl

theorem writes_l3 (l : List T_ref01_Op) (w : ∀ x ∈ l, wf_ref01_Op x) : ∀ (j f k : Nat) (b : ByteArray), j + k = 100 → j < f → b.size + 10 * j + szs (l.drop k) ≤ 1050000 →
    law01_OctetWrites_l3 l f (b, (k : Int), b) = some true
  | j, 0, k, b, hj, hf, hb => by omega
  | j, f + 1, k, b, hj, hf, hb => by
    rw [law01_OctetWrites_l3]
    dsimp only
    by_cases hk : (k : Int) < l.length ∧ (k : Int) < 100
    · have hk' : k < l.length := by omega
      have hst := szs_step hk'
      have hw := w _ (getD_mem' hk')
      rw [iLt_t hk.1, iLt_t hk.2, Bool.and_self, cond_true, need_of (nIn_of ⟨by omega, hk.1⟩), Int.toNat_natCast, put_eq hw (by omega) (by omega), bind_some', need_of (nIn_of ⟨by omega, hk.1⟩), refPut_eq hw (by omega), bind_some']
      have hl := opL_len hw (by omega)
      rw [need_of (nStr_of (by rw [bs_size]; omega)), w64 (by omega), show (k : Int) + 1 = ((k + 1 : Nat) : Int) by omega]
      exact writes_l3 l w (j - 1) f (k + 1) _ (by omega) (by omega) (by rw [ByteArray.size_append, bs_size]; omega)
    · have : (iLt (k : Int) (l.length : Int) && iLt (k : Int) 100) = false := by
        simp only [Bool.and_eq_false_iff, iLt_iff']
        omega
      rw [this, cond_false]
      show ((cond (sEq b b) (law01_lives) (some default)).bind fun (x11 : Bool) => some ((sEq b b) && x11)) = some true
      rw [sEq_t rfl, cond_true, lives01]
      rfl
theorem OctetWrites_pure {l : List T_ref01_Op} (w : ∀ x ∈ l, wf_ref01_Op x) (hb : (slT enc_ref01_Op l).bulk ≤ 1048576) : law01_OctetWrites l = some true := by
  unfold law01_OctetWrites
  have := bulk_szs l
  exact writes_l3 l w 100 fuel 0 _ (by omega) (by have := fuel_big; omega) (by simp; omega)

/-- What the next calls put, of those below the hundredth. -/
def putL (l : List T_ref01_Op) (k : Nat) : List UInt8 := ((l.take 100).drop k).flatMap opL
theorem putL_step {l : List T_ref01_Op} {k : Nat} (h : k < l.length) (h2 : k < 100) : putL l k = opL (l.getD k default) ++ putL l (k + 1) := by
  unfold putL
  have hk : k < (l.take 100).length := by simp; omega
  rw [drop_get hk, List.flatMap_cons]
  congr 2
  rw [List.getD_eq_getElem?_getD, List.getD_eq_getElem?_getD, List.getElem?_take_of_lt h2]
theorem putL_end {l : List T_ref01_Op} {k : Nat} (h : ¬ (k < l.length ∧ k < 100)) : putL l k = [] := by
  unfold putL
  rw [List.drop_eq_nil_of_le (by simp; omega)]
  rfl
theorem back_l11 {s more : ByteArray} (hs : s.size ≤ 140737488355328) (l : List T_ref01_Op) (w : ∀ x ∈ l, wf_ref01_Op x) (hz : ∀ x ∈ l, x.S.size ≤ 2000000) : ∀ (j f k : Nat), j + k = 100 → j < f → putL l k ++ bl more <:+ bl s →
    law01_OctetBack_l11 l more f ((k : Int), (mkI s (putL l k ++ bl more) 0).s, (mkI s (putL l k ++ bl more) 0).at_, (mkI s (putL l k ++ bl more) 0).err) = some true
  | j, 0, k, hj, hf, h => by omega
  | j, f + 1, k, hj, hf, h => by
    rw [law01_OctetBack_l11]
    dsimp only
    have hI : (⟨(mkI s (putL l k ++ bl more) 0).s, (mkI s (putL l k ++ bl more) 0).at_, (mkI s (putL l k ++ bl more) 0).err⟩ : T_octet_In) = mkI s (putL l k ++ bl more) 0 := rfl
    rw [hI]
    by_cases hk : (k : Int) < l.length ∧ (k : Int) < 100
    · have hk' : k < l.length := by omega
      have hw := w _ (getD_mem' hk')
      have hx := hz _ (getD_mem' hk')
      rw [putL_step hk' (by omega), List.append_assoc] at h ⊢
      rw [iLt_t hk.1, iLt_t hk.2, Bool.and_self, cond_true, need_of (nIn_of ⟨by omega, hk.1⟩), Int.toNat_natCast]
      generalize l.getD k default = x at *
      obtain ⟨w0, w1, w2, w3⟩ := hw
      unfold inI64 inU64 at *
      have ht : putL l (k + 1) ++ bl more <:+ bl s := (List.suffix_append _ _).trans h
      have go : law01_OctetBack_l11 l more f (IntKind.i64.wrap ((k : Int) + 1), (mkI s (putL l (k + 1) ++ bl more) 0).s, (mkI s (putL l (k + 1) ++ bl more) 0).at_, (mkI s (putL l (k + 1) ++ bl more) 0).err) = some true := by
        rw [w64 (by omega), show (k : Int) + 1 = ((k + 1 : Nat) : Int) by omega]
        exact back_l11 hs l w hz (j - 1) f (k + 1) (by omega) (by omega) ht
      by_cases h0 : x.Kind = 0
      · have e : opL x = [UInt8.ofNat (x.N % 256).toNat] := by unfold opL; rw [if_pos h0]
        rw [e, List.cons_append, List.nil_append] at h ⊢
        rw [iEq_t h0, cond_true, In_Byte_cons s hs _ _ 0 h, bind_some']
        dsimp only
        have hu : (UInt8.ofNat (x.N % 256).toNat).toNat = (x.N % 256).toNat := by simp [UInt8.toNat_ofNat]; omega
        rw [iEq_t (show ((UInt8.ofNat (x.N % 256).toNat).toNat : Int) = IntKind.i64.wrap (Int.tmod x.N 256) by rw [hu, Int.tmod_eq_emod_of_nonneg w1.1, w64 (by omega)]; omega), Bool.not_true, cond_false]
        exact go
      · rw [iEq_f h0, cond_false]
        by_cases h1 : x.Kind = 1
        · have e : opL x = numL x.N.toNat := by unfold opL; rw [if_neg h0, if_pos h1]
          rw [e] at h ⊢
          have hr := numR_numL (putL l (k + 1) ++ bl more) 9 0 x.N.toNat (by omega) (by omega) (by omega)
          rw [iEq_t h1, cond_true, In_Num s hs _ h, bind_some', hr]
          dsimp only
          rw [iEq_t (by omega), Bool.not_true, cond_false]
          exact go
        · rw [iEq_f h1, cond_false]
          by_cases h2 : x.Kind = 2
          · have e : opL x = numL (zig x.I) := by unfold opL; rw [if_neg h0, if_neg h1, if_pos h2]
            rw [e] at h ⊢
            have hr := numR_numL (putL l (k + 1) ++ bl more) 9 0 (zig x.I) (by omega) (by have := zig_lt w2.1 w2.2; omega) (by omega)
            rw [iEq_t h2, cond_true, In_Int s hs _ h, bind_some', hr]
            dsimp only
            rw [zag_zig, iEq_t rfl, Bool.not_true, cond_false]
            exact go
          · have e : opL x = numL x.S.size ++ bl x.S := by unfold opL; rw [if_neg h0, if_neg h1, if_neg h2]
            rw [e, List.append_assoc] at h ⊢
            have hr := numR_numL (bl x.S ++ (putL l (k + 1) ++ bl more)) 9 0 x.S.size (by omega) (by omega) (by omega)
            have hT : rdT (numL x.S.size ++ (bl x.S ++ (putL l (k + 1) ++ bl more))) 0 = (0, bl x.S, putL l (k + 1) ++ bl more) := by
              have hN : rdN (numL x.S.size ++ (bl x.S ++ (putL l (k + 1) ++ bl more))) 0 = (0, x.S.size, bl x.S ++ (putL l (k + 1) ++ bl more)) := by
                unfold rdN; rw [if_pos rfl, hr]
              unfold rdT
              rw [hN]
              dsimp only
              rw [if_neg (by simp), if_neg (by rw [List.length_append, bl_len]; omega), ← bl_len, List.take_left, List.drop_left]
            rw [iEq_f h2, cond_false, In_Text_gen hs ⟨h, fun hh => absurd rfl hh⟩, bind_some', hT]
            dsimp only
            rw [bs_bl, sEq_t rfl, Bool.not_true, cond_false]
            exact go
    · have : (iLt (k : Int) (l.length : Int) && iLt (k : Int) 100) = false := by
        simp only [Bool.and_eq_false_iff, iLt_iff']
        omega
      rw [this, cond_false]
      rw [putL_end (by omega), List.nil_append] at h ⊢
      rw [In_Left s hs _ 0 h, bind_some', iEq_t (by rw [bl_len]), cond_true, In_Err_gen, bind_some', iEq_t rfl, cond_true, lives01]
      rfl
theorem back_l3 (l : List T_ref01_Op) (more : ByteArray) (w : ∀ x ∈ l, wf_ref01_Op x) (hz : ∀ x ∈ l, x.S.size ≤ 2000000) (hm : more.size ≤ 1048576) : ∀ (j f k : Nat) (b : ByteArray), j + k = 100 → j < f → b.size + 10 * j + szs (l.drop k) ≤ 1050000 →
    (bl b ++ putL l k = putL l 0) → law01_OctetBack_l3 l more f ((k : Int), b) = some true
  | j, 0, k, b, hj, hf, hb, he => by omega
  | j, f + 1, k, b, hj, hf, hb, he => by
    rw [law01_OctetBack_l3]
    dsimp only
    by_cases hk : (k : Int) < l.length ∧ (k : Int) < 100
    · have hk' : k < l.length := by omega
      have hst := szs_step hk'
      have hw := w _ (getD_mem' hk')
      rw [iLt_t hk.1, iLt_t hk.2, Bool.and_self, cond_true, need_of (nIn_of ⟨by omega, hk.1⟩), Int.toNat_natCast, put_eq hw (by omega) (by omega), bind_some']
      have hl := opL_len hw (by omega)
      rw [w64 (by omega), show (k : Int) + 1 = ((k + 1 : Nat) : Int) by omega]
      exact back_l3 l more w hz hm (j - 1) f (k + 1) _ (by omega) (by omega) (by rw [ByteArray.size_append, bs_size]; omega) (by rw [← he, putL_step hk' (by omega), bl_append, bl_bs, List.append_assoc])
    · have : (iLt (k : Int) (l.length : Int) && iLt (k : Int) 100) = false := by
        simp only [Bool.and_eq_false_iff, iLt_iff']
        omega
      rw [this, cond_false]
      have hd : octet_Out_Done ⟨b⟩ = some b := rfl
      rw [putL_end (by omega), List.append_nil] at he
      rw [hd, bind_some', need_of (nStr_of (by omega)), In_Open, bind_some', bl_append, he]
      refine back_l11 (by rw [ByteArray.size_append]; omega) l w hz 100 fuel 0 (by omega) (by have := fuel_big; omega) ?_
      rw [bl_append, he]
      exact List.suffix_refl _
theorem OctetBack_pure {l : List T_ref01_Op} {more : ByteArray} (w : ∀ x ∈ l, wf_ref01_Op x) (hb : (slT enc_ref01_Op l).bulk + (more.size + 1) ≤ 1048576) : law01_OctetBack l more = some true := by
  unfold law01_OctetBack
  have h0 := bulk_szs l
  have hz : ∀ x ∈ l, x.S.size ≤ 2000000 := fun x hx => by
    have : ∀ l : List T_ref01_Op, x ∈ l → x.S.size ≤ szs l := fun l h => by
      unfold szs
      induction l with
      | nil => cases h
      | cons y l ih =>
        simp only [List.map_cons, List.sum_cons]
        rcases List.mem_cons.1 h with rfl | h
        · omega
        · have := ih h; omega
    have := this l hx
    omega
  exact back_l3 l more w hz (by omega) 100 fuel 0 _ (by omega) (by have := fuel_big; omega) (by simp; omega) (by simp)
end LJ
