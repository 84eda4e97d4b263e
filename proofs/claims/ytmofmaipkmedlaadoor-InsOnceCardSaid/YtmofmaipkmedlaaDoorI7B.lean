/- Plain laws of instructions that are read. -/
import Derived.Test.YtmofmaipkmedlaaDoorI7A
namespace LJ
open Go Go.RowKit
set_option linter.unusedVariables false
set_option linter.unusedSimpArgs false

abbrev GI := T_api_Ins × Int × List UInt8
/-- An operand that was read. -/
def valA (c : Int) (r : Int × Nat × List UInt8) : Int := cond (iEq c 110) (zag r.2.1) (capN r)
def finI (k a b : Int) (t : List UInt8) : GI := cond (iEq (chkI ⟨k, a, b⟩) 0) (⟨k, a, b⟩, 0, t) (⟨0, 0, 0⟩, chkI ⟨k, a, b⟩, [])
/-- The operands behind an operation's byte. -/
def getIA (k : Int) (f : ByteArray) (t : List UInt8) : GI :=
  cond (iEq (f.size : Int) 0) (finI k 0 0 t)
    (cond (iEq (rdN t 0).1 0)
      (cond (iEq (f.size : Int) 1) (finI k (valA (byteAt f 0) (rdN t 0)) 0 (rdN t 0).2.2)
        (cond (iEq (rdN (rdN t 0).2.2 0).1 0) (finI k (valA (byteAt f 0) (rdN t 0)) (valA (byteAt f 1) (rdN (rdN t 0).2.2 0)) (rdN (rdN t 0).2.2 0).2.2) (⟨0, 0, 0⟩, (rdN (rdN t 0).2.2 0).1, [])))
      (⟨0, 0, 0⟩, (rdN t 0).1, []))
def getIC (b : UInt8) (t : List UInt8) : GI := cond (opK (b.toNat : Int)) (getIA (b.toNat : Int) (formL (b.toNat : Int)) t) (⟨0, 0, 0⟩, 6, [])
/-- The instruction with which bytes begin; the error; what is left. -/
def getI : List UInt8 → GI
  | [] => (⟨0, 0, 0⟩, 3, [])
  | b :: t => getIC b t
theorem getI_cons (b : UInt8) (t : List UInt8) : getI (b :: t) = getIC b t := rfl
def outI (s : ByteArray) (r : GI) : Option (T_api_Ins × Int × Int) := some (r.1, cond (iEq r.2.1 0) ((s.size : Int) - r.2.2.length) 0, r.2.1)
theorem capN_wrap (r : Int × Nat × List UInt8) (h : r.2.1 < 18446744073709551616) : IntKind.i64.wrap (iMin (r.2.1 : Int) 2147483648) = (capN r : Int) := by
  unfold capN iMin
  split
  · rw [w64 (by omega)]; omega
  · rw [w64 (by omega)]; omega
theorem get_step {s : ByteArray} (hs : s.size ≤ 140737488355328) {x2 : Int × T_octet_In} {f : ByteArray} {F i : Nat} {acc : List Int} {l : List UInt8} (hi : i < f.size) (hf : f.size ≤ 2) (hl : l <:+ bl s) :
    ins_Get_l9 s x2 f (F + 1) ((i : Int), acc, (mkI s l 0).s, (mkI s l 0).at_, (mkI s l 0).err) = cond (iEq (rdN l 0).1 0) (ins_Get_l9 s x2 f F (((i + 1 : Nat) : Int), aset 2 acc i (valA (byteAt f i) (rdN l 0)), (mkI s (rdN l 0).2.2 0).s, (mkI s (rdN l 0).2.2 0).at_, (mkI s (rdN l 0).2.2 0).err)) (outI s (⟨0, 0, 0⟩, (rdN l 0).1, [])) := by
  have h0 : RdOK s l 0 := ⟨hl, fun h => absurd rfl h⟩
  have hI : (⟨(mkI s l 0).s, (mkI s l 0).at_, (mkI s l 0).err⟩ : T_octet_In) = mkI s l 0 := rfl
  rw [ins_Get_l9]
  dsimp only
  rw [iLt_t (by omega), cond_true, need_of (nIn_of (by omega)), Int.toNat_natCast, hI, In_Int_gen hs h0, In_Num_gen hs h0, bind_some', bind_some', need_of (nIn_of (by omega)), need_of (nIn_of (by omega)), In_Err_gen, bind_some', bind_some', w64 (by omega), show (i : Int) + 1 = ((i + 1 : Nat) : Int) by omega]
  dsimp only
  rw [capN_wrap _ (rdN_lt l 0)]
  unfold valA outI
  by_cases he : (rdN l 0).1 = 0
  · rw [iNe_f he, iEq_t he, cond_true, cond_false, cond_false, he]
    cases iEq (byteAt f i) 110 <;> rfl
  · rw [iNe_t he, iEq_f he, cond_false, cond_true, cond_true]
    cases iEq (byteAt f i) 110 <;> rfl
theorem get_end {s : ByteArray} (hs : s.size ≤ 140737488355328) {x2 : Int × T_octet_In} {f : ByteArray} {F i : Nat} {acc : List Int} {l : List UInt8} (hi : ¬ i < f.size) (hl : l <:+ bl s) :
    ins_Get_l9 s x2 f (F + 1) ((i : Int), acc, (mkI s l 0).s, (mkI s l 0).at_, (mkI s l 0).err) = outI s (finI x2.1 (acc.getD 0 default) (acc.getD 1 default) l) := by
  have hI : (⟨(mkI s l 0).s, (mkI s l 0).at_, (mkI s l 0).err⟩ : T_octet_In) = mkI s l 0 := rfl
  have := suf_len hl
  rw [ins_Get_l9]
  dsimp only
  rw [iLt_f (by omega), cond_false, need_of (nIn_of (by decide)), need_of (nIn_of (by decide)), ins_Check_eq, bind_some', hI, In_Left s hs l 0 hl, bind_some', w64 (by omega)]
  show cond (iNe (chkI ⟨x2.1, acc.getD 0 default, acc.getD 1 default⟩) 0) _ _ = _
  unfold outI finI
  by_cases he : chkI ⟨x2.1, acc.getD 0 default, acc.getD 1 default⟩ = 0
  · rw [iNe_f he, iEq_t he, cond_false, cond_true]
    rfl
  · rw [iNe_t he, iEq_f he, cond_true, cond_false]
    dsimp only
    rw [iEq_f he, cond_false]
    rfl
theorem suf_rdN {s : ByteArray} {l : List UInt8} (h : l <:+ bl s) : (rdN l 0).2.2 <:+ bl s := (RdOK.num (s := s) (l := l) (e := 0) ⟨h, fun h => absurd rfl h⟩).suf
theorem ins_Get_eq {s : ByteArray} (hs : s.size ≤ 140737488355328) : ins_Get s = outI s (getI (bl s)) := by
  unfold ins_Get
  have h0 := RdOK.start s
  rw [In_Open, bind_some', In_Byte_gen hs h0, bind_some', In_Err_gen, bind_some']
  cases hb : bl s with
  | nil => rfl
  | cons b t =>
    have hl : (b :: t) <:+ bl s := by rw [hb]; exact List.suffix_refl _
    have ht := suf_tail hl
    have hbb := u8_rng b
    show cond (iNe (0 : Int) 0) _ ((op_Name (b.toNat : Int)).bind _) = _
    rw [iNe_f rfl, cond_false, op_Name_eq, bind_some', nameL_empty, getI_cons]
    unfold getIC
    dsimp only [rdB]
    rw [op_Form_eq, bind_some']
    cases hk : opK (b.toNat : Int) with
    | false => rfl
    | true =>
      rw [Bool.not_true, cond_false, cond_true]
      have hf := formL_size (b.toNat : Int)
      generalize formL (b.toNat : Int) = f at *
      obtain ⟨F, hF⟩ := fuel3
      rw [hF]
      unfold getIA
      have e0 : ((0 : Nat) : Int) = 0 := rfl
      rcases size3 hf with h | h | h
      · refine (get_end hs (f := f) (i := 0) (by omega) ht).trans ?_
        rw [iEq_t (show (f.size : Int) = 0 by omega), cond_true]
        rfl
      · refine (get_step hs (f := f) (i := 0) (by omega) hf ht).trans ?_
        rw [iEq_f (show (f.size : Int) ≠ 0 by omega), cond_false, iEq_t (show (f.size : Int) = 1 by omega), cond_true, get_end hs (by omega) (suf_rdN ht)]
        cases iEq (rdN t 0).1 0 <;> rfl
      · refine (get_step hs (f := f) (i := 0) (by omega) hf ht).trans ?_
        rw [iEq_f (show (f.size : Int) ≠ 0 by omega), cond_false, iEq_f (show (f.size : Int) ≠ 1 by omega), cond_false, get_step hs (by omega) hf (suf_rdN ht), get_end hs (by omega) (suf_rdN (suf_rdN ht))]
        cases iEq (rdN t 0).1 0 <;> cases iEq (rdN (rdN t 0).2.2 0).1 0 <;> rfl

/-! ### The document's reader -/
/-- What the document's reader gives, its reader anywhere behind an error. -/
def RdI (s : ByteArray) (r : GI) (z : Option (T_api_Ins × T_ref01_R × Int)) : Prop := ∃ l' e', z = some (r.1, mkR s l' e', r.2.1) ∧ (r.2.1 = 0 → l' = r.2.2 ∧ e' = 0 ∧ l' <:+ bl s)
theorem rget_step {s : ByteArray} (hs : s.size ≤ 140737488355328) {x1 : Int × T_ref01_R} {f : ByteArray} {F i : Nat} {acc : List Int} {l : List UInt8} (hi : i < f.size) (hf : f.size ≤ 2) (ha : acc.length = 2) (hl : l <:+ bl s) :
    ref07_Read_l7 x1 f (F + 1) ((i : Int), (mkR s l 0).S, (mkR s l 0).At, (mkR s l 0).Err, acc) = cond (iEq (rdN l 0).1 0) (ref07_Read_l7 x1 f F (((i + 1 : Nat) : Int), (mkR s (rdN l 0).2.2 0).S, (mkR s (rdN l 0).2.2 0).At, (mkR s (rdN l 0).2.2 0).Err, acc.set i (valA (byteAt f i) (rdN l 0)))) (some (⟨0, 0, 0⟩, mkR s (rdN l 0).2.2 (rdN l 0).1, (rdN l 0).1)) := by
  have h0 : RdOK s l 0 := ⟨hl, fun h => absurd rfl h⟩
  have hR : (⟨(mkR s l 0).S, (mkR s l 0).At, (mkR s l 0).Err⟩ : T_ref01_R) = mkR s l 0 := rfl
  rw [ref07_Read_l7]
  dsimp only
  rw [iLt_t (by omega), cond_true, need_of (nIn_of (by omega)), Int.toNat_natCast, hR, refSigned_gen hs h0, refNumber_gen hs h0, bind_some', bind_some', need_of (nIn_of (by omega)), need_of (nIn_of (by omega)), w64 (by omega), show (i : Int) + 1 = ((i + 1 : Nat) : Int) by omega]
  dsimp only
  rw [mkR_Err, capN_wrap _ (rdN_lt l 0)]
  unfold valA
  by_cases he : (rdN l 0).1 = 0
  · rw [iNe_f he, iEq_t he, cond_true, cond_false, cond_false, he]
    cases iEq (byteAt f i) 110 <;> rfl
  · rw [iNe_t he, iEq_f he, cond_false, cond_true, cond_true]
    cases iEq (byteAt f i) 110 <;> rfl
theorem rget_end {s : ByteArray} {x1 : Int × T_ref01_R} {f : ByteArray} {F i : Nat} {acc : List Int} {l : List UInt8} (hi : ¬ i < f.size) (ha : acc.length = 2) (hl : l <:+ bl s) :
    RdI s (finI x1.1 (acc.getD 0 default) (acc.getD 1 default) l) (ref07_Read_l7 x1 f (F + 1) ((i : Int), (mkR s l 0).S, (mkR s l 0).At, (mkR s l 0).Err, acc)) := by
  have hR : (⟨(mkR s l 0).S, (mkR s l 0).At, (mkR s l 0).Err⟩ : T_ref01_R) = mkR s l 0 := rfl
  rw [ref07_Read_l7]
  dsimp only
  rw [iLt_f (by omega), cond_false, need_of (nIn_of (by omega)), need_of (nIn_of (by omega)), ref07_Check_eq, bind_some', hR]
  show RdI s _ (cond (iNe (chkI ⟨x1.1, acc.getD 0 default, acc.getD 1 default⟩) 0) _ _)
  unfold RdI finI
  by_cases he : chkI ⟨x1.1, acc.getD 0 default, acc.getD 1 default⟩ = 0
  · rw [iNe_f he, iEq_t he, cond_false, cond_true]
    exact ⟨l, 0, rfl, fun _ => ⟨rfl, rfl, hl⟩⟩
  · rw [iNe_t he, iEq_f he, cond_true, cond_false]
    exact ⟨l, 0, rfl, fun h => absurd h he⟩
theorem RdI.cond {s : ByteArray} {b : Bool} {r r' : GI} {z z' : Option (T_api_Ins × T_ref01_R × Int)} (h : b = true → RdI s r z) (h' : b = false → RdI s r' z') : RdI s (cond b r r') (cond b z z') := by
  cases b with
  | true => exact h rfl
  | false => exact h' rfl
theorem RdI.err {s : ByteArray} {e : Int} {l' : List UInt8} {e' : Int} (h : e ≠ 0) : RdI s (⟨0, 0, 0⟩, e, []) (some (⟨0, 0, 0⟩, mkR s l' e', e)) := ⟨l', e', rfl, fun h' => absurd h' h⟩
theorem ref07_Read_eq {s : ByteArray} (hs : s.size ≤ 140737488355328) {l : List UInt8} (hl : l <:+ bl s) : RdI s (getI l) (ref07_Read (mkR s l 0)) := by
  have h0 : RdOK s l 0 := ⟨hl, fun h => absurd rfl h⟩
  unfold ref07_Read
  rw [refByte_gen hs h0, bind_some']
  dsimp only
  rw [mkR_Err]
  cases l with
  | nil => exact RdI.err (by decide)
  | cons b t =>
    have ht := suf_tail hl
    have hbb := u8_rng b
    rw [getI_cons]
    unfold getIC
    dsimp only [rdB]
    rw [iNe_f rfl, cond_false, ref06_Known_eq, bind_some', ref06_Form_eq, bind_some', cond_not]
    refine RdI.cond (fun hk => ?_) (fun _ => RdI.err (by decide))
    have hf := formL_size (b.toNat : Int)
    generalize formL (b.toNat : Int) = f at *
    obtain ⟨F, hF⟩ := fuel3
    rw [hF]
    unfold getIA
    rcases size3 hf with h | h | h
    · rw [iEq_t (show (f.size : Int) = 0 by omega), cond_true]
      exact rget_end (i := 0) (by omega) rfl ht
    · rw [iEq_f (show (f.size : Int) ≠ 0 by omega), cond_false, iEq_t (show (f.size : Int) = 1 by omega), cond_true]
      have := rget_step hs (x1 := ((b.toNat : Int), mkR s t 0)) (F := F + 1 + 1) (i := 0) (acc := [0, 0]) (by omega) hf rfl ht
      rw [show ((0 : Nat) : Int) = 0 from rfl, show (mkR s t 0).Err = 0 from mkR_Err _ _ _] at this
      rw [this]
      refine RdI.cond (fun he => ?_) (fun he => RdI.err (by rw [iEq_iff'] at he; exact he))
      exact rget_end (i := 1) (by omega) rfl (suf_rdN ht)
    · rw [iEq_f (show (f.size : Int) ≠ 0 by omega), cond_false, iEq_f (show (f.size : Int) ≠ 1 by omega), cond_false]
      have := rget_step hs (x1 := ((b.toNat : Int), mkR s t 0)) (F := F + 1 + 1) (i := 0) (acc := [0, 0]) (by omega) hf rfl ht
      rw [show ((0 : Nat) : Int) = 0 from rfl, show (mkR s t 0).Err = 0 from mkR_Err _ _ _] at this
      rw [this]
      refine RdI.cond (fun he => ?_) (fun he => RdI.err (by rw [iEq_iff'] at he; exact he))
      rw [rget_step hs (by omega) hf rfl (suf_rdN ht)]
      refine RdI.cond (fun he => ?_) (fun he => RdI.err (by rw [iEq_iff'] at he; exact he))
      exact rget_end (i := 2) (by omega) rfl (suf_rdN (suf_rdN ht))
theorem getI_err {l : List UInt8} (h : (getI l).2.1 ≠ 0) : (getI l).1 = ⟨0, 0, 0⟩ := by
  have fin : ∀ k a b t, (finI k a b t).2.1 ≠ 0 → (finI k a b t).1 = ⟨0, 0, 0⟩ := fun k a b t h => by
    unfold finI at h ⊢
    cases hc : iEq (chkI ⟨k, a, b⟩) 0 with
    | false => rfl
    | true => rw [hc, cond_true] at h; exact absurd rfl h
  cases l with
  | nil => rfl
  | cons b t =>
    rw [getI_cons] at h ⊢
    unfold getIC at h ⊢
    cases hk : opK (b.toNat : Int) with
    | false => rfl
    | true =>
      rw [hk, cond_true] at h
      rw [cond_true]
      unfold getIA at h ⊢
      cases h1 : iEq ((formL (b.toNat : Int)).size : Int) 0 with
      | true => rw [h1, cond_true] at h; exact fin _ _ _ _ h
      | false =>
        rw [h1, cond_false] at h
        rw [cond_false]
        cases h2 : iEq (rdN t 0).1 0 with
        | false => rfl
        | true =>
          rw [h2, cond_true] at h
          rw [cond_true]
          cases h3 : iEq ((formL (b.toNat : Int)).size : Int) 1 with
          | true => rw [h3, cond_true] at h; exact fin _ _ _ _ h
          | false =>
            rw [h3, cond_false] at h
            rw [cond_false]
            cases h4 : iEq (rdN (rdN t 0).2.2 0).1 0 with
            | false => rfl
            | true => rw [h4, cond_true] at h; exact fin _ _ _ _ h
theorem ref07_Get_eq {s : ByteArray} (hs : s.size ≤ 140737488355328) : ref07_Get s = outI s (getI (bl s)) := by
  unfold ref07_Get
  obtain ⟨l', e', h1, h2⟩ := ref07_Read_eq hs (List.suffix_refl (bl s))
  rw [ref_Open, h1, bind_some']
  dsimp only
  unfold outI
  by_cases he : (getI (bl s)).2.1 = 0
  · obtain ⟨rfl, rfl, _⟩ := h2 he
    rw [iNe_f he, cond_false, iEq_t he, cond_true, he]
    rfl
  · rw [iNe_t he, cond_true, iEq_f he, cond_false, getI_err he]

/-! ### There and back -/
theorem rdN_put {c n : Int} (h : inL c n = true) (t : List UInt8) : (rdN (putA c n ++ t) 0).1 = 0 ∧ (rdN (putA c n ++ t) 0).2.2 = t ∧ valA c (rdN (putA c n ++ t) 0) = n := by
  obtain ⟨h1, h2, h3⟩ := inL_rng h
  unfold putA valA
  by_cases hc : c = 110
  · rw [iEq_t hc, cond_true, cond_true, rdN_numL (zig_lt (by omega) (by omega))]
    exact ⟨rfl, rfl, zag_zig n⟩
  · have := h3 hc
    rw [iEq_f hc, cond_false, cond_false, rdN_numL (by omega)]
    refine ⟨rfl, rfl, ?_⟩
    unfold capN
    dsimp only
    omega
theorem getI_put {x : T_api_Ins} (h : chkI x = 0) (t : List UInt8) : getI (putI x ++ t) = (x, 0, t) := by
  have ⟨hop, ha, hb, ha0, hb0⟩ := chkI_ok h
  have hf := formL_size x.Op
  unfold putI
  rw [List.cons_append, getI_cons]
  unfold getIC
  have hu : ((UInt8.ofNat x.Op.toNat).toNat : Int) = x.Op := by simp [UInt8.toNat_ofNat]; omega
  rw [hu, opK_iff.2 hop, cond_true]
  have fin : ∀ a b t', a = x.A → b = x.B → t' = t → finI x.Op a b t' = (x, 0, t) := fun a b t' e1 e2 e3 => by
    subst e1; subst e2; subst e3
    unfold finI
    rw [iEq_t (show chkI ⟨x.Op, x.A, x.B⟩ = 0 from h), cond_true]
  unfold getIA
  generalize formL x.Op = f at *
  rcases size3 hf with hs | hs | hs
  · rw [iEq_t (show (f.size : Int) = 0 by omega), cond_true, iLt_f (by omega), iLt_f (by omega)]
    exact fin _ _ _ (ha0 hs).symm (hb0 (by omega)).symm rfl
  · obtain ⟨r1, r2, r3⟩ := rdN_put (ha (by omega)) t
    rw [iEq_f (show (f.size : Int) ≠ 0 by omega), cond_false, iLt_t (show 0 < (f.size : Int) by omega), iLt_f (by omega), cond_true, cond_false, List.append_nil, iEq_t r1, cond_true, iEq_t (show (f.size : Int) = 1 by omega), cond_true]
    exact fin _ _ _ r3 (hb0 (by omega)).symm r2
  · obtain ⟨r1, r2, r3⟩ := rdN_put (ha (by omega)) (putA (byteAt f 1) x.B ++ t)
    obtain ⟨q1, q2, q3⟩ := rdN_put (hb (by omega)) t
    rw [iEq_f (show (f.size : Int) ≠ 0 by omega), cond_false, iLt_t (show 0 < (f.size : Int) by omega), iLt_t (show 1 < (f.size : Int) by omega), cond_true, cond_true, List.append_assoc, iEq_t r1, cond_true, iEq_f (show (f.size : Int) ≠ 1 by omega), cond_false, r2, iEq_t q1, cond_true]
    exact fin _ _ _ r3 q3 q2
theorem val_inv {c : Int} {l : List UInt8} (h : (rdN l 0).1 = 0) (hin : inL c (valA c (rdN l 0)) = true) : l = putA c (valA c (rdN l 0)) ++ (rdN l 0).2.2 := by
  obtain ⟨h1, h2⟩ := rdN_inv' h
  obtain ⟨g1, g2, g3⟩ := inL_rng hin
  unfold putA valA at *
  by_cases hc : c = 110
  · rw [iEq_t hc, cond_true, cond_true, zig_zag]
    exact h1
  · have := g3 hc
    rw [iEq_f hc, cond_false] at *
    rw [cond_false]
    have : ((capN (rdN l 0) : Nat) : Int).toNat = (rdN l 0).2.1 := by unfold capN at *; omega
    rw [this]
    exact h1
theorem finI_inv {k a b : Int} {t : List UInt8} (h : (finI k a b t).2.1 = 0) : chkI ⟨k, a, b⟩ = 0 ∧ finI k a b t = (⟨k, a, b⟩, 0, t) := by
  unfold finI at h ⊢
  by_cases hc : chkI ⟨k, a, b⟩ = 0
  · rw [iEq_t hc, cond_true]; exact ⟨hc, rfl⟩
  · rw [iEq_f hc, cond_false] at h; exact absurd h hc
theorem getI_inv {l : List UInt8} (h : (getI l).2.1 = 0) : chkI (getI l).1 = 0 ∧ l = putI (getI l).1 ++ (getI l).2.2 := by
  cases l with
  | nil => exact absurd h (by decide : (3 : Int) ≠ 0)
  | cons b t =>
    have hu : UInt8.ofNat b.toNat = b := ofNat_toNat b
    rw [getI_cons] at h ⊢
    unfold getIC at h ⊢
    cases hk : opK (b.toNat : Int) with
    | false => rw [hk, cond_false] at h; exact absurd h (by decide : (6 : Int) ≠ 0)
    | true =>
      rw [hk, cond_true] at h
      rw [cond_true]
      have hf := formL_size (b.toNat : Int)
      unfold getIA at h ⊢
      rcases size3 hf with hs | hs | hs
      · rw [iEq_t (show ((formL (b.toNat : Int)).size : Int) = 0 by omega), cond_true] at h ⊢
        obtain ⟨c1, c2⟩ := finI_inv h
        rw [c2]
        refine ⟨c1, ?_⟩
        unfold putI
        dsimp only
        rw [iLt_f (by omega), iLt_f (by omega), Int.toNat_natCast, hu]
        rfl
      · rw [iEq_f (show ((formL (b.toNat : Int)).size : Int) ≠ 0 by omega), cond_false] at h ⊢
        by_cases h2 : (rdN t 0).1 = 0
        · rw [iEq_t h2, cond_true, iEq_t (show ((formL (b.toNat : Int)).size : Int) = 1 by omega), cond_true] at h ⊢
          obtain ⟨c1, c2⟩ := finI_inv h
          rw [c2]
          refine ⟨c1, ?_⟩
          have ho := chkI_ok c1
          have := val_inv h2 (ho.a1 (by dsimp only; omega))
          unfold putI
          dsimp only at this ⊢
          rw [iLt_t (by omega), iLt_f (by omega), Int.toNat_natCast, hu, cond_true, cond_false, List.append_nil, List.cons_append, ← this]
        · rw [iEq_f h2, cond_false] at h; exact absurd h h2
      · rw [iEq_f (show ((formL (b.toNat : Int)).size : Int) ≠ 0 by omega), cond_false] at h ⊢
        by_cases h2 : (rdN t 0).1 = 0
        · rw [iEq_t h2, cond_true, iEq_f (show ((formL (b.toNat : Int)).size : Int) ≠ 1 by omega), cond_false] at h ⊢
          by_cases h3 : (rdN (rdN t 0).2.2 0).1 = 0
          · rw [iEq_t h3, cond_true] at h ⊢
            obtain ⟨c1, c2⟩ := finI_inv h
            rw [c2]
            refine ⟨c1, ?_⟩
            have ho := chkI_ok c1
            have v1 := val_inv h2 (ho.a1 (by dsimp only; omega))
            have v2 := val_inv h3 (ho.b1 (by dsimp only; omega))
            unfold putI
            dsimp only at v1 v2 ⊢
            rw [iLt_t (by omega), iLt_t (by omega), Int.toNat_natCast, hu, cond_true, cond_true, List.cons_append, List.append_assoc, ← v2, ← v1]
          · rw [iEq_f h3, cond_false] at h; exact absurd h h3
        · rw [iEq_f h2, cond_false] at h; exact absurd h h2
end LJ
