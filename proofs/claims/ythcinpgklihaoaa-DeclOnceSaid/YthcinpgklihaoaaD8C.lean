/- Plain laws of objects that are read. -/
import Derived.Test.YthcinpgklihaoaaD8B
namespace LJ
open Go Go.RowKit
set_option linter.unusedVariables false
set_option linter.unusedSimpArgs false

/-- A great number is out of every range. -/
def capN (r : Int × Nat × List UInt8) : Nat := min r.2.1 2147483648
theorem decl_num_gen {s : ByteArray} (hs : s.size ≤ 140737488355328) {l : List UInt8} {e : Int} (h : RdOK s l e) : decl_num (mkI s l e) = some ((capN (rdN l e) : Int), mkI s (rdN l e).2.2 (rdN l e).1) := by
  unfold decl_num
  rw [In_Num_gen hs h, bind_some']
  dsimp only
  congr 2
  unfold capN iMin
  have := rdN_lt l e
  split
  · rw [w64 (by omega)]; omega
  · rw [w64 (by omega)]; omega
theorem ref08_num_gen {s : ByteArray} (hs : s.size ≤ 140737488355328) {l : List UInt8} {e : Int} (h : RdOK s l e) : ref08_num (mkR s l e) = some ((capN (rdN l e) : Int), mkR s (rdN l e).2.2 (rdN l e).1) := by
  unfold ref08_num
  rw [refNumber_gen hs h, bind_some']
  dsimp only
  congr 2
  unfold capN iMin
  have := rdN_lt l e
  split
  · rw [w64 (by omega)]; omega
  · rw [w64 (by omega)]; omega
/-- The object with which bytes begin: it, the error, what is left. -/
def rdDeclC (b : UInt8) (t : List UInt8) : T_api_Decl × Int × List UInt8 :=
  cond (iLt (b.toNat : Int) 1 || iLt 7 (b.toNat : Int)) (⟨b.toNat, 0, 0⟩, 6, t)
    (cond (iEq (b.toNat : Int) 3) (⟨b.toNat, capN (rdN t 0), capN (rdN (rdN t 0).2.2 (rdN t 0).1)⟩, (rdN (rdN t 0).2.2 (rdN t 0).1).1, (rdN (rdN t 0).2.2 (rdN t 0).1).2.2)
    (cond (iEq (b.toNat : Int) 6) (⟨b.toNat, capN (rdN t 0), 0⟩, (rdN t 0).1, (rdN t 0).2.2)
    (cond (iEq (b.toNat : Int) 7) (⟨b.toNat, zag (rdN t 0).2.1, capN (rdN (rdN t 0).2.2 (rdN t 0).1)⟩, (rdN (rdN t 0).2.2 (rdN t 0).1).1, (rdN (rdN t 0).2.2 (rdN t 0).1).2.2)
    (⟨b.toNat, 0, 0⟩, 0, t))))
def rdDecl : List UInt8 → T_api_Decl × Int × List UInt8
  | [] => (⟨0, 0, 0⟩, 3, [])
  | b :: t => rdDeclC b t
theorem rdDecl_cons (b : UInt8) (t : List UInt8) : rdDecl (b :: t) = rdDeclC b t := rfl
theorem decl_Name_empty {k : Int} : ∃ z, decl_Name k = some z ∧ sEq z ByteArray.empty = (iLt k 1 || iLt 7 k) := by
  by_cases h : 1 ≤ k ∧ k ≤ 7
  · have h7 : k = 1 ∨ k = 2 ∨ k = 3 ∨ k = 4 ∨ k = 5 ∨ k = 6 ∨ k = 7 := by omega
    rcases h7 with rfl | rfl | rfl | rfl | rfl | rfl | rfl <;> exact ⟨_, rfl, by decide +kernel⟩
  · refine ⟨ByteArray.empty, ?_, ?_⟩
    · unfold decl_Name
      rw [iEq_f (show k ≠ 1 by omega), iEq_f (show k ≠ 2 by omega), iEq_f (show k ≠ 3 by omega), iEq_f (show k ≠ 4 by omega), iEq_f (show k ≠ 5 by omega), iEq_f (show k ≠ 6 by omega), iEq_f (show k ≠ 7 by omega)]
      rfl
    · rw [sEq_t rfl]
      exact (by simp only [Bool.or_eq_true, iLt_iff]; omega : (iLt k 1 || iLt 7 k) = true).symm
theorem decl_read_eq {s : ByteArray} (hs : s.size ≤ 140737488355328) {l : List UInt8} (h : l <:+ bl s) : ∃ er, decl_read (mkI s l 0) = some ((rdDecl l).1, (rdDecl l).2.1, mkI s (rdDecl l).2.2 er) ∧ ((rdDecl l).2.1 = 0 → er = 0 ∧ (rdDecl l).2.2 <:+ bl s) := by
  have h0 : RdOK s l 0 := ⟨h, fun h => absurd rfl h⟩
  unfold decl_read
  cases l with
  | nil =>
    rw [In_Byte_nil, bind_some']
    dsimp only
    rw [In_Err_gen, bind_some', if_pos rfl, iEq_f (by decide), cond_false, bind_some', Bool.false_and, cond_false, iEq_f (by decide), cond_false, iEq_f (by decide), cond_false, iEq_f (by decide), cond_false]
    exact ⟨3, rfl, fun h => absurd h (by decide : (3 : Int) ≠ 0)⟩
  | cons b t =>
    have ht : RdOK s t 0 := h0.byte
    have hb := u8_rng b
    rw [In_Byte_cons s hs b t 0 h, bind_some']
    dsimp only
    rw [In_Err_gen, bind_some', iEq_t rfl, cond_true]
    obtain ⟨z, hz, hz2⟩ := decl_Name_empty (k := (b.toNat : Int))
    rw [hz, bind_some', Bool.true_and, hz2, rdDecl_cons]
    unfold rdDeclC
    cases hk : (iLt (b.toNat : Int) 1 || iLt 7 (b.toNat : Int)) with
    | true => exact ⟨_, rfl, fun h => absurd h (by decide : (6 : Int) ≠ 0)⟩
    | false =>
      rw [cond_false, cond_false]
      cases k3 : iEq (b.toNat : Int) 3 with
      | true =>
        rw [cond_true, cond_true, decl_num_gen hs ht, bind_some', decl_num_gen hs ht.num, bind_some', In_Err_gen, bind_some']
        exact ⟨_, rfl, fun h => ⟨h, ht.num.num.suf⟩⟩
      | false =>
        rw [cond_false, cond_false]
        cases k6 : iEq (b.toNat : Int) 6 with
        | true =>
          rw [cond_true, cond_true, decl_num_gen hs ht, bind_some', In_Err_gen, bind_some']
          exact ⟨_, rfl, fun h => ⟨h, ht.num.suf⟩⟩
        | false =>
          rw [cond_false, cond_false]
          cases k7 : iEq (b.toNat : Int) 7 with
          | true =>
            rw [cond_true, cond_true, In_Int_gen hs ht, bind_some', decl_num_gen hs ht.num, bind_some', In_Err_gen, bind_some']
            exact ⟨_, rfl, fun h => ⟨h, ht.num.num.suf⟩⟩
          | false =>
            rw [cond_false, cond_false]
            exact ⟨_, rfl, fun h => ⟨rfl, ht.suf⟩⟩
/-- n objects behind those that were read. -/
def rdDecls : Nat → List UInt8 → List T_api_Decl → List T_api_Decl × Int × List UInt8
  | 0, l, acc => (acc, 0, l)
  | n + 1, l, acc => cond (iEq (rdDecl l).2.1 0) (rdDecls n (rdDecl l).2.2 (acc ++ [(rdDecl l).1])) ([], (rdDecl l).2.1, [])
/-- The objects with which bytes begin; the error; what is left. -/
def getDs (l : List UInt8) : List T_api_Decl × Int × List UInt8 :=
  cond (iEq (rdN l 0).1 0) (cond (iLt 32 ((rdN l 0).2.1 : Int)) ([], 4, [])
    (cond (iEq (rdDecls (rdN l 0).2.1 (rdN l 0).2.2 []).2.1 0)
      (cond (iEq (chkL (rdDecls (rdN l 0).2.1 (rdN l 0).2.2 []).1).2 0) ((rdDecls (rdN l 0).2.1 (rdN l 0).2.2 []).1, 0, (rdDecls (rdN l 0).2.1 (rdN l 0).2.2 []).2.2) ([], (chkL (rdDecls (rdN l 0).2.1 (rdN l 0).2.2 []).1).2, []))
      ([], (rdDecls (rdN l 0).2.1 (rdN l 0).2.2 []).2.1, [])))
    ([], (rdN l 0).1, [])
theorem Get_l8 {s : ByteArray} (hs : s.size ≤ 140737488355328) (x2 : Int × T_octet_In) (N : Nat) (hN : x2.1 = (N : Int)) (hN2 : N ≤ 32) : ∀ (n i f : Nat) (acc : List T_api_Decl) (l : List UInt8), i + n = N → n < f → acc.length = i → l <:+ bl s →
    decl_Get_l8 s x2 f ((i : Int), acc, (mkI s l 0).s, (mkI s l 0).at_, (mkI s l 0).err) =
      cond (iEq (rdDecls n l acc).2.1 0) (cond (iEq (chkL (rdDecls n l acc).1).2 0) (some ((rdDecls n l acc).1, (s.size : Int) - (rdDecls n l acc).2.2.length, 0)) (some ([], 0, (chkL (rdDecls n l acc).1).2))) (some ([], 0, (rdDecls n l acc).2.1))
  | n, i, 0, acc, l, hi, hf, ha, hl => by omega
  | 0, i, f + 1, acc, l, hi, hf, ha, hl => by
    have := suf_len hl
    rw [decl_Get_l8]
    dsimp only
    have hI : (⟨(mkI s l 0).s, (mkI s l 0).at_, (mkI s l 0).err⟩ : T_octet_In) = mkI s l 0 := rfl
    rw [hN, iLt_f (by omega), cond_false, decl_Check_eq, bind_some', hI, show rdDecls 0 l acc = (acc, 0, l) from rfl, iEq_t rfl, cond_true]
    dsimp only
    by_cases hc : (chkL acc).2 = 0
    · rw [iNe_f hc, cond_false, iEq_t hc, cond_true, In_Left s hs l 0 hl, bind_some', w64 (by omega)]
    · rw [iNe_t hc, cond_true, iEq_f hc, cond_false]
  | n + 1, i, f + 1, acc, l, hi, hf, ha, hl => by
    rw [decl_Get_l8]
    dsimp only
    have hI : (⟨(mkI s l 0).s, (mkI s l 0).at_, (mkI s l 0).err⟩ : T_octet_In) = mkI s l 0 := rfl
    obtain ⟨er, h1, h2⟩ := decl_read_eq hs hl
    rw [hN, iLt_t (by omega), cond_true, hI, h1, bind_some']
    dsimp only
    rw [rdDecls]
    by_cases he : (rdDecl l).2.1 = 0
    · obtain ⟨rfl, h3⟩ := h2 he
      rw [iNe_f he, cond_false, iEq_t he, cond_true, need_of (nCap_of (by simp only [List.length_cons, List.length_nil]; omega)), wu64 (by omega), show (i : Int) + 1 = ((i + 1 : Nat) : Int) by omega]
      exact Get_l8 hs x2 N hN hN2 n (i + 1) f _ _ (by omega) (by omega) (by simp; omega) h3
    · rw [iNe_t he, cond_true, iEq_f he, cond_false, iEq_f he, cond_false]
theorem decl_Get_eq {s : ByteArray} (hs : s.size ≤ 140737488355328) : decl_Get s = some ((getDs (bl s)).1, cond (iEq (getDs (bl s)).2.1 0) ((s.size : Int) - (getDs (bl s)).2.2.length) 0, (getDs (bl s)).2.1) := by
  unfold decl_Get
  have h0 := RdOK.start s
  rw [In_Open, bind_some', In_Num_gen hs h0, bind_some', In_Err_gen, bind_some']
  have hn := h0.num
  dsimp only
  unfold getDs
  by_cases he : (rdN (bl s) 0).1 = 0
  · rw [iNe_f he, cond_false, iEq_t he, cond_true]
    by_cases hl : 32 < ((rdN (bl s) 0).2.1 : Int)
    · rw [iLt_t hl, cond_true, cond_true]; rfl
    · rw [iLt_f (by omega), cond_false, cond_false, he]
      have := Get_l8 hs (((rdN (bl s) 0).2.1 : Int), mkI s (rdN (bl s) 0).2.2 0) (rdN (bl s) 0).2.1 rfl (by omega) (rdN (bl s) 0).2.1 0 fuel [] (rdN (bl s) 0).2.2 (by omega) (by have := fuel_big; omega) rfl hn.suf
      refine Eq.trans this ?_
      generalize rdDecls (rdN (bl s) 0).2.1 (rdN (bl s) 0).2.2 [] = r
      by_cases h1 : r.2.1 = 0
      · rw [iEq_t h1, cond_true, cond_true]
        by_cases h2 : (chkL r.1).2 = 0
        · rw [iEq_t h2, cond_true, cond_true]; rfl
        · rw [iEq_f h2, cond_false, cond_false]; dsimp only; rw [iEq_f h2, cond_false]
      · rw [iEq_f h1, cond_false, cond_false]; dsimp only; rw [iEq_f h1, cond_false]
  · rw [iNe_t he, cond_true, iEq_f he, cond_false]; dsimp only; rw [iEq_f he, cond_false]

/-! ### The document's reader -/
def outR (s : ByteArray) (r : List T_api_Decl × Int × List UInt8) (l' : List UInt8) (e' : Int) : Option (List T_api_Decl × T_ref01_R × Int) :=
  cond (iEq r.2.1 0) (cond (iEq (chkL r.1).2 0) (some (r.1, mkR s l' e', 0)) (some ([], mkR s l' e', (chkL r.1).2))) (some ([], mkR s l' e', r.2.1))
theorem mkR_Err (s : ByteArray) (l : List UInt8) (e : Int) : (mkR s l e).Err = e := rfl
theorem Read_l5 {s : ByteArray} (hs : s.size ≤ 140737488355328) (x1 : Int × T_ref01_R) (N : Nat) (hN : x1.1 = (N : Int)) (hN2 : N ≤ 32) : ∀ (n i f : Nat) (acc : List T_api_Decl) (l : List UInt8), i + n = N → n < f → acc.length = i → l <:+ bl s →
    ∃ l' e', ref08_Read_l5 x1 f ((i : Int), (mkR s l 0).S, (mkR s l 0).At, (mkR s l 0).Err, acc) = outR s (rdDecls n l acc) l' e' ∧ ((rdDecls n l acc).2.1 = 0 → l' = (rdDecls n l acc).2.2 ∧ e' = 0 ∧ l' <:+ bl s)
  | n, i, 0, acc, l, hi, hf, ha, hl => by omega
  | 0, i, f + 1, acc, l, hi, hf, ha, hl => by
    have hR : (⟨(mkR s l 0).S, (mkR s l 0).At, (mkR s l 0).Err⟩ : T_ref01_R) = mkR s l 0 := rfl
    refine ⟨l, 0, ?_, fun _ => ⟨rfl, rfl, hl⟩⟩
    rw [ref08_Read_l5]
    dsimp only
    rw [hN, iLt_f (by omega), cond_false, ref08_Check_eq, bind_some', hR, show rdDecls 0 l acc = (acc, 0, l) from rfl]
    unfold outR
    dsimp only
    rw [iEq_t rfl, cond_true]
    by_cases hc : (chkL acc).2 = 0
    · rw [iNe_f hc, cond_false, iEq_t hc, cond_true]
    · rw [iNe_t hc, cond_true, iEq_f hc, cond_false]
  | n + 1, i, f + 1, acc, l, hi, hf, ha, hl => by
    have hR : (⟨(mkR s l 0).S, (mkR s l 0).At, (mkR s l 0).Err⟩ : T_ref01_R) = mkR s l 0 := rfl
    have h0 : RdOK s l 0 := ⟨hl, fun h => absurd rfl h⟩
    have go : ∀ (d : T_api_Decl) (l2 : List UInt8), rdDecl l = (d, 0, l2) → l2 <:+ bl s → ∃ l' e', need (nCap ((acc.length + ([d] : List T_api_Decl).length) * 24)) (ref08_Read_l5 x1 f (IntKind.i64.wrap ((i : Int) + 1), (mkR s l2 0).S, (mkR s l2 0).At, (mkR s l2 0).Err, acc ++ [d])) =
      outR s (rdDecls (n + 1) l acc) l' e' ∧ ((rdDecls (n + 1) l acc).2.1 = 0 → l' = (rdDecls (n + 1) l acc).2.2 ∧ e' = 0 ∧ l' <:+ bl s) := fun d l2 he h2 => by
      obtain ⟨l', e', h3, h4⟩ := Read_l5 hs x1 N hN hN2 n (i + 1) f (acc ++ [d]) l2 (by omega) (by omega) (by simp; omega) h2
      have e : rdDecls (n + 1) l acc = rdDecls n l2 (acc ++ [d]) := by rw [rdDecls, he]; rfl
      rw [e]
      refine ⟨l', e', ?_, h4⟩
      rw [need_of (nCap_of (by simp only [List.length_cons, List.length_nil]; omega)), w64 (by omega), show (i : Int) + 1 = ((i + 1 : Nat) : Int) by omega, h3]
    have stop : ∀ (d : T_api_Decl) (er : Int) (l2 l3 : List UInt8) (e3 : Int), rdDecl l = (d, er, l2) → er ≠ 0 → ∃ l' e', some (([] : List T_api_Decl), mkR s l3 e3, er) =
      outR s (rdDecls (n + 1) l acc) l' e' ∧ ((rdDecls (n + 1) l acc).2.1 = 0 → l' = (rdDecls (n + 1) l acc).2.2 ∧ e' = 0 ∧ l' <:+ bl s) := fun d er l2 l3 e3 he hne => by
      have e : rdDecls (n + 1) l acc = ([], er, []) := by rw [rdDecls, he]; dsimp only; rw [iEq_f hne, cond_false]
      rw [e]
      refine ⟨l3, e3, ?_, fun h => absurd h hne⟩
      unfold outR
      dsimp only
      rw [iEq_f hne, cond_false]
    rw [ref08_Read_l5]
    dsimp only
    rw [hN, iLt_t (by omega), cond_true, withK, hR]
    cases l with
    | nil =>
      rw [refByte_nil, bind_some', if_pos rfl]
      dsimp only
      rw [mkR_Err, iEq_f (by decide), Bool.false_and, cond_false, iEq_f (show (0 : Int) ≠ 3 by decide), iEq_f (show (0 : Int) ≠ 6 by decide), iEq_f (show (0 : Int) ≠ 7 by decide)]
      simp only [Bool.or_false, cond_false]
      rw [iNe_t (by decide), cond_true]
      exact stop _ 3 _ [] 3 rfl (by decide)
    | cons b t =>
      have ht : RdOK s t 0 := h0.byte
      have hb := u8_rng b
      rw [refByte_cons s hs b t 0 hl, bind_some']
      dsimp only
      rw [mkR_Err, iEq_t rfl, Bool.true_and]
      cases hk : (iLt (b.toNat : Int) 1 || iLt 7 (b.toNat : Int)) with
      | true =>
        rw [cond_true]
        have hd : rdDecl (b :: t) = (⟨b.toNat, 0, 0⟩, 6, t) := by rw [rdDecl_cons]; unfold rdDeclC; rw [hk, cond_true]
        exact stop _ 6 _ _ _ hd (by decide)
      | false =>
        rw [cond_false]
        by_cases k3 : b.toNat = 3
        · have hd : rdDecl (b :: t) = (⟨b.toNat, capN (rdN t 0), capN (rdN (rdN t 0).2.2 (rdN t 0).1)⟩, (rdN (rdN t 0).2.2 (rdN t 0).1).1, (rdN (rdN t 0).2.2 (rdN t 0).1).2.2) := by
            rw [rdDecl_cons]; unfold rdDeclC; rw [hk, cond_false, iEq_t (by omega), cond_true]
          rw [iEq_t (show (b.toNat : Int) = 3 by omega), iEq_f (show (b.toNat : Int) ≠ 6 by omega), iEq_f (show (b.toNat : Int) ≠ 7 by omega)]
          simp only [Bool.true_or, cond_true, cond_false]
          rw [ref08_num_gen hs ht, bind_some', ref08_num_gen hs ht.num, bind_some', mkR_Err]
          by_cases he : (rdN (rdN t 0).2.2 (rdN t 0).1).1 = 0
          · rw [iNe_f he, cond_false]
            have := ht.num.num
            rw [he] at hd this ⊢
            exact go _ _ hd this.suf
          · rw [iNe_t he, cond_true]
            exact stop _ _ _ _ _ hd he
        · by_cases k6 : b.toNat = 6
          · have hd : rdDecl (b :: t) = (⟨b.toNat, capN (rdN t 0), 0⟩, (rdN t 0).1, (rdN t 0).2.2) := by
              rw [rdDecl_cons]; unfold rdDeclC; rw [hk, cond_false, iEq_f (by omega), cond_false, iEq_t (by omega), cond_true]
            rw [iEq_f (show (b.toNat : Int) ≠ 3 by omega), iEq_t (show (b.toNat : Int) = 6 by omega), iEq_f (show (b.toNat : Int) ≠ 7 by omega)]
            simp only [Bool.or_true, Bool.or_false, cond_true, cond_false]
            rw [ref08_num_gen hs ht, bind_some', mkR_Err]
            by_cases he : (rdN t 0).1 = 0
            · rw [iNe_f he, cond_false]
              have := ht.num
              rw [he] at hd this ⊢
              exact go _ _ hd this.suf
            · rw [iNe_t he, cond_true]
              exact stop _ _ _ _ _ hd he
          · by_cases k7 : b.toNat = 7
            · have hd : rdDecl (b :: t) = (⟨b.toNat, zag (rdN t 0).2.1, capN (rdN (rdN t 0).2.2 (rdN t 0).1)⟩, (rdN (rdN t 0).2.2 (rdN t 0).1).1, (rdN (rdN t 0).2.2 (rdN t 0).1).2.2) := by
                rw [rdDecl_cons]; unfold rdDeclC; rw [hk, cond_false, iEq_f (by omega), cond_false, iEq_f (by omega), cond_false, iEq_t (by omega), cond_true]
              rw [iEq_f (show (b.toNat : Int) ≠ 3 by omega), iEq_f (show (b.toNat : Int) ≠ 6 by omega), iEq_t (show (b.toNat : Int) = 7 by omega)]
              simp only [Bool.or_true, Bool.or_false, cond_true, cond_false]
              rw [refSigned_gen hs ht, bind_some', ref08_num_gen hs ht.num, bind_some', mkR_Err]
              by_cases he : (rdN (rdN t 0).2.2 (rdN t 0).1).1 = 0
              · rw [iNe_f he, cond_false]
                have := ht.num.num
                rw [he] at hd this ⊢
                exact go _ _ hd this.suf
              · rw [iNe_t he, cond_true]
                exact stop _ _ _ _ _ hd he
            · have hd : rdDecl (b :: t) = (⟨b.toNat, 0, 0⟩, 0, t) := by
                rw [rdDecl_cons]; unfold rdDeclC; rw [hk, cond_false, iEq_f (by omega), cond_false, iEq_f (by omega), cond_false, iEq_f (by omega), cond_false]
              rw [iEq_f (show (b.toNat : Int) ≠ 3 by omega), iEq_f (show (b.toNat : Int) ≠ 6 by omega), iEq_f (show (b.toNat : Int) ≠ 7 by omega)]
              simp only [Bool.or_false, cond_false]
              rw [iNe_f rfl, cond_false]
              exact go _ _ hd ht.suf
theorem ref08_Read_eq {s : ByteArray} (hs : s.size ≤ 140737488355328) {l : List UInt8} (h : l <:+ bl s) : ∃ l' e', ref08_Read (mkR s l 0) = some ((getDs l).1, mkR s l' e', (getDs l).2.1) ∧ ((getDs l).2.1 = 0 → l' = (getDs l).2.2 ∧ e' = 0 ∧ l' <:+ bl s) := by
  have h0 : RdOK s l 0 := ⟨h, fun h => absurd rfl h⟩
  unfold ref08_Read
  rw [ref08_num_gen hs h0, bind_some']
  have hn := h0.num
  dsimp only
  rw [mkR_Err]
  unfold getDs
  by_cases he : (rdN l 0).1 = 0
  · rw [iNe_f he, cond_false, iEq_t he, cond_true]
    by_cases hl : 32 < ((rdN l 0).2.1 : Int)
    · rw [iLt_t (by unfold capN; omega), cond_true, iLt_t hl, cond_true]
      exact ⟨_, _, rfl, fun h => absurd h (by decide : (4 : Int) ≠ 0)⟩
    · have hc : capN (rdN l 0) = (rdN l 0).2.1 := by unfold capN; omega
      rw [iLt_f (by rw [hc]; omega), cond_false, iLt_f (by omega), cond_false, he]
      obtain ⟨l', e', h1, h2⟩ := Read_l5 hs ((capN (rdN l 0) : Int), mkR s (rdN l 0).2.2 0) (rdN l 0).2.1 (by rw [hc]) (by omega) (rdN l 0).2.1 0 fuel [] (rdN l 0).2.2 (by omega) (by have := fuel_big; omega) rfl hn.suf
      refine ⟨l', e', Eq.trans h1 ?_, ?_⟩
      · unfold outR
        generalize rdDecls (rdN l 0).2.1 (rdN l 0).2.2 [] = r
        by_cases g1 : r.2.1 = 0
        · rw [iEq_t g1, cond_true, cond_true]
          by_cases g2 : (chkL r.1).2 = 0
          · rw [iEq_t g2, cond_true, cond_true]
          · rw [iEq_f g2, cond_false, cond_false]
        · rw [iEq_f g1, cond_false, cond_false]
      · generalize rdDecls (rdN l 0).2.1 (rdN l 0).2.2 [] = r at *
        by_cases g1 : r.2.1 = 0
        · rw [iEq_t g1, cond_true]
          by_cases g2 : (chkL r.1).2 = 0
          · rw [iEq_t g2, cond_true]; exact fun _ => h2 g1
          · rw [iEq_f g2, cond_false]; exact fun h => absurd h g2
        · rw [iEq_f g1, cond_false]; exact fun h => absurd h g1
  · rw [iNe_t he, cond_true, iEq_f he, cond_false]
    exact ⟨_, _, rfl, fun h => absurd h he⟩
theorem getDs_err {l : List UInt8} (h : (getDs l).2.1 ≠ 0) : (getDs l).1 = [] := by
  unfold getDs at h ⊢
  cases c1 : iEq (rdN l 0).1 0 with
  | false => rfl
  | true =>
    rw [c1, cond_true] at h
    rw [cond_true]
    cases c2 : iLt 32 ((rdN l 0).2.1 : Int) with
    | true => rfl
    | false =>
      rw [c2, cond_false] at h
      rw [cond_false]
      generalize rdDecls (rdN l 0).2.1 (rdN l 0).2.2 [] = r at *
      cases c3 : iEq r.2.1 0 with
      | false => rfl
      | true =>
        rw [c3, cond_true] at h
        rw [cond_true]
        cases c4 : iEq (chkL r.1).2 0 with
        | false => rfl
        | true => rw [c4, cond_true] at h; exact absurd rfl h
theorem ref08_Get_eq {s : ByteArray} (hs : s.size ≤ 140737488355328) : ref08_Get s = some ((getDs (bl s)).1, cond (iEq (getDs (bl s)).2.1 0) ((s.size : Int) - (getDs (bl s)).2.2.length) 0, (getDs (bl s)).2.1) := by
  unfold ref08_Get
  obtain ⟨l', e', h1, h2⟩ := ref08_Read_eq hs (List.suffix_refl (bl s))
  rw [ref_Open, h1, bind_some']
  dsimp only
  by_cases he : (getDs (bl s)).2.1 = 0
  · obtain ⟨rfl, rfl, _⟩ := h2 he
    rw [iNe_f he, cond_false, iEq_t he, cond_true, he]
    rfl
  · rw [iNe_t he, cond_true, iEq_f he, cond_false, getDs_err he]

/-! ### What was put comes back; what is read is what was put -/
theorem rdN_numL {n : Nat} (h : n < 18446744073709551616) (t : List UInt8) : rdN (numL n ++ t) 0 = (0, n, t) := by
  unfold rdN
  rw [if_pos rfl]
  exact numR_numL t 9 0 n (by omega) (by omega) (by omega)
theorem rdDecl_putD {d : T_api_Decl} (h : RngD d) (t : List UInt8) : rdDecl (putD d ++ t) = (d, 0, t) := by
  have ⟨hk, ha, hb, ha0, haz, hbz⟩ := h
  obtain ⟨K, A, B⟩ := d
  dsimp only at *
  unfold putD
  dsimp only
  have hu : (UInt8.ofNat K.toNat).toNat = K.toNat := by simp [UInt8.toNat_ofNat]; omega
  rw [List.cons_append, rdDecl_cons]
  unfold rdDeclC
  rw [hu, show (K.toNat : Int) = K by omega, show (iLt K 1 || iLt 7 K) = false by simp only [Bool.or_eq_false_iff, iLt_iff']; omega, cond_false]
  by_cases k3 : K = 3
  · have a0 := ha0 (by omega)
    rw [iEq_t k3, cond_true, if_pos k3, List.append_assoc, rdN_numL (by omega), rdN_numL (by omega)]
    simp only [Prod.mk.injEq, and_true, T_api_Decl.mk.injEq, true_and]
    unfold capN
    dsimp only
    omega
  · rw [iEq_f k3, cond_false, if_neg k3]
    by_cases k6 : K = 6
    · have a0 := ha0 (by omega)
      rw [iEq_t k6, cond_true, if_pos k6, rdN_numL (by omega)]
      simp only [Prod.mk.injEq, and_true, T_api_Decl.mk.injEq, true_and]
      unfold capN
      dsimp only
      omega
    · rw [iEq_f k6, cond_false, if_neg k6]
      by_cases k7 : K = 7
      · have hz := zig_lt (x := A) (by omega) (by omega)
        rw [iEq_t k7, cond_true, if_pos k7, List.append_assoc, rdN_numL hz, rdN_numL (by omega)]
        simp only [Prod.mk.injEq, and_true, T_api_Decl.mk.injEq, true_and]
        unfold capN
        dsimp only
        rw [zag_zig]
        omega
      · rw [iEq_f k7, cond_false, if_neg k7]
        simp only [Prod.mk.injEq, and_true, T_api_Decl.mk.injEq, List.nil_append, true_and]
        omega
theorem rdDecls_put : ∀ (L acc : List T_api_Decl) (t : List UInt8), (∀ d ∈ L, RngD d) → rdDecls L.length (L.flatMap putD ++ t) acc = (acc ++ L, 0, t)
  | [], acc, t, h => by simp [rdDecls]
  | d :: L, acc, t, h => by
    rw [List.length_cons, rdDecls, List.flatMap_cons, List.append_assoc, rdDecl_putD (h d (List.mem_cons_self ..))]
    dsimp only
    rw [iEq_t rfl, cond_true, rdDecls_put L _ t fun x hx => h x (List.mem_cons_of_mem _ hx)]
    simp
theorem getDs_put {L : List T_api_Decl} (h : (chkL L).2 = 0) (t : List UInt8) : getDs (putDs L ++ t) = (L, 0, t) := by
  obtain ⟨h1, h2, h3, h4⟩ := chkL_ok h
  unfold getDs putDs
  rw [List.append_assoc, rdN_numL (by omega)]
  dsimp only
  rw [iEq_t rfl, cond_true, iLt_f (by omega), cond_false, rdDecls_put L [] t h4]
  dsimp only
  rw [iEq_t rfl, cond_true, List.nil_append, iEq_t h, cond_true]
theorem rdN_inv {l : List UInt8} {n : Nat} {t : List UInt8} (h : rdN l 0 = (0, n, t)) : l = numL n ++ t ∧ n < 18446744073709551616 := by
  unfold rdN at h
  rw [if_pos rfl] at h
  have := numR_inv l 0 n t (by omega) h
  exact ⟨this.1, this.2.1⟩
theorem rdN_inv' {l : List UInt8} (h : (rdN l 0).1 = 0) : l = numL (rdN l 0).2.1 ++ (rdN l 0).2.2 ∧ (rdN l 0).2.1 < 18446744073709551616 := rdN_inv (Prod.ext h rfl)
theorem rdN_trip (l : List UInt8) (e : Int) : rdN l e = ((rdN l e).1, (rdN l e).2.1, (rdN l e).2.2) := rfl
theorem rdN_err {l : List UInt8} {e : Int} (h : (rdN l e).1 = 0) : e = 0 := by
  unfold rdN at h
  split at h
  · assumption
  · exact h
theorem rdDecl_inv {l : List UInt8} (h : (rdDecl l).2.1 = 0) (hr : RngD (rdDecl l).1) : l = putD (rdDecl l).1 ++ (rdDecl l).2.2 := by
  cases l with
  | nil => exact absurd h (by decide : (3 : Int) ≠ 0)
  | cons b t =>
    have hu : UInt8.ofNat b.toNat = b := ofNat_toNat b
    have hb := u8_rng b
    rw [rdDecl_cons] at h hr ⊢
    unfold rdDeclC at h hr ⊢
    cases hk : (iLt (b.toNat : Int) 1 || iLt 7 (b.toNat : Int)) with
    | true => rw [hk, cond_true] at h; exact absurd h (by decide : (6 : Int) ≠ 0)
    | false =>
      rw [hk, cond_false] at h hr
      rw [cond_false]
      by_cases k3 : (b.toNat : Int) = 3
      · rw [iEq_t k3, cond_true] at h hr ⊢
        dsimp only at h
        have e1 := rdN_err h
        obtain ⟨i1, j1⟩ := rdN_inv' (l := t) e1
        rw [e1] at h
        obtain ⟨i2, j2⟩ := rdN_inv' (l := (rdN t 0).2.2) h
        rw [e1] at hr ⊢
        have ⟨_, ha, hbb, _, _, _⟩ := hr
        generalize (rdN (rdN t 0).2.2 0) = r2 at *
        generalize (rdN t 0) = r1 at *
        obtain ⟨x1, n1, t1⟩ := r1
        obtain ⟨x2, n2, t2⟩ := r2
        unfold putD capN at *
        dsimp only at *
        rw [if_pos k3, Int.toNat_natCast, hu, show ((min n1 2147483648 : Nat) : Int).toNat = n1 by omega, show ((min n2 2147483648 : Nat) : Int).toNat = n2 by omega, List.cons_append, List.append_assoc, ← i2, ← i1]
      · rw [iEq_f k3, cond_false] at h hr ⊢
        by_cases k6 : (b.toNat : Int) = 6
        · rw [iEq_t k6, cond_true] at h hr ⊢
          dsimp only at h
          obtain ⟨i1, j1⟩ := rdN_inv' (l := t) h
          have ⟨_, ha, hbb, _, _, _⟩ := hr
          generalize (rdN t 0) = r1 at *
          obtain ⟨x1, n1, t1⟩ := r1
          unfold putD capN at *
          dsimp only at *
          rw [if_neg k3, if_pos k6, Int.toNat_natCast, hu, show ((min n1 2147483648 : Nat) : Int).toNat = n1 by omega, List.cons_append, ← i1]
        · rw [iEq_f k6, cond_false] at h hr ⊢
          by_cases k7 : (b.toNat : Int) = 7
          · rw [iEq_t k7, cond_true] at h hr ⊢
            dsimp only at h
            have e1 := rdN_err h
            obtain ⟨i1, j1⟩ := rdN_inv' (l := t) e1
            rw [e1] at h
            obtain ⟨i2, j2⟩ := rdN_inv' (l := (rdN t 0).2.2) h
            rw [e1] at hr ⊢
            have ⟨_, ha, hbb, _, _, _⟩ := hr
            generalize (rdN (rdN t 0).2.2 0) = r2 at *
            generalize (rdN t 0) = r1 at *
            obtain ⟨x1, n1, t1⟩ := r1
            obtain ⟨x2, n2, t2⟩ := r2
            unfold putD capN at *
            dsimp only at *
            rw [if_neg k3, if_neg k6, if_pos k7, Int.toNat_natCast, hu, zig_zag, show ((min n2 2147483648 : Nat) : Int).toNat = n2 by omega, List.cons_append, List.append_assoc, ← i2, ← i1]
          · rw [iEq_f k7, cond_false]
            unfold putD
            dsimp only
            rw [if_neg k3, if_neg k6, if_neg k7, Int.toNat_natCast, hu]
            rfl
theorem rdDecls_inv : ∀ (n : Nat) (l : List UInt8) (acc : List T_api_Decl), (rdDecls n l acc).2.1 = 0 → (∀ d ∈ (rdDecls n l acc).1, RngD d) → ∃ L, (rdDecls n l acc).1 = acc ++ L ∧ L.length = n ∧ l = L.flatMap putD ++ (rdDecls n l acc).2.2
  | 0, l, acc, h, hr => ⟨[], by simp [rdDecls]⟩
  | n + 1, l, acc, h, hr => by
    rw [rdDecls] at h hr ⊢
    by_cases he : (rdDecl l).2.1 = 0
    · rw [iEq_t he, cond_true] at h hr ⊢
      obtain ⟨L, h1, h2, h3⟩ := rdDecls_inv n _ _ h hr
      have hd : RngD (rdDecl l).1 := hr _ (by rw [h1]; simp)
      refine ⟨(rdDecl l).1 :: L, by rw [h1]; simp, by simp [h2], ?_⟩
      rw [List.flatMap_cons, List.append_assoc, ← h3]
      exact rdDecl_inv he hd
    · rw [iEq_f he, cond_false] at h
      exact absurd h he
theorem getDs_inv {l : List UInt8} (h : (getDs l).2.1 = 0) : (chkL (getDs l).1).2 = 0 ∧ l = putDs (getDs l).1 ++ (getDs l).2.2 := by
  unfold getDs at h ⊢
  by_cases a1 : (rdN l 0).1 = 0
  · rw [iEq_t a1, cond_true] at h ⊢
    cases a2 : iLt 32 ((rdN l 0).2.1 : Int) with
    | true => rw [a2, cond_true] at h; exact absurd h (by decide : (4 : Int) ≠ 0)
    | false =>
      rw [a2, cond_false] at h
      rw [cond_false]
      by_cases a3 : (rdDecls (rdN l 0).2.1 (rdN l 0).2.2 []).2.1 = 0
      · rw [iEq_t a3, cond_true] at h ⊢
        by_cases a4 : (chkL (rdDecls (rdN l 0).2.1 (rdN l 0).2.2 []).1).2 = 0
        · rw [iEq_t a4, cond_true]
          refine ⟨a4, ?_⟩
          obtain ⟨c1, c2, c3, c4⟩ := chkL_ok a4
          obtain ⟨L, h1, h2, h3⟩ := rdDecls_inv _ _ _ a3 c4
          obtain ⟨i1, j1⟩ := rdN_inv' (l := l) a1
          dsimp only
          unfold putDs
          rw [h1, List.nil_append, h2, List.append_assoc, ← h3]
          exact i1
        · rw [iEq_f a4, cond_false] at h; exact absurd h a4
      · rw [iEq_f a3, cond_false] at h; exact absurd h a3
  · rw [iEq_f a1, cond_false] at h; exact absurd h a1
end LJ
