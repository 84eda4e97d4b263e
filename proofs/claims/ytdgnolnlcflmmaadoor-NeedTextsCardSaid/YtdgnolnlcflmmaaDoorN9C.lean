/- Plain laws of waits that are read. -/
import Derived.Test.YtdgnolnlcflmmaaDoorN9B
namespace LJ
open Go Go.RowKit
set_option linter.unusedVariables false
set_option linter.unusedSimpArgs false

theorem cap_eq {n : Nat} (h : n < 18446744073709551616) : IntKind.i64.wrap (iMin (n : Int) (2147483648 : Int)) = ((min n 2147483648 : Nat) : Int) := by
  unfold iMin
  split
  · rw [w64 (by omega)]; omega
  · rw [w64 (by omega)]; omega
/-- The need with which bytes begin: it, the error, what is left. -/
def rdNeedC (b : UInt8) (t : List UInt8) : T_api_Need × Int × List UInt8 :=
  cond (iLt (b.toNat : Int) 1 || iLt 5 (b.toNat : Int)) (⟨b.toNat, 0, 0⟩, 6, t)
    (cond (iLt 3 (b.toNat : Int)) (⟨b.toNat, capN (rdN t 0), capN (rdN (rdN t 0).2.2 (rdN t 0).1)⟩, (rdN (rdN t 0).2.2 (rdN t 0).1).1, (rdN (rdN t 0).2.2 (rdN t 0).1).2.2)
    (⟨b.toNat, capN (rdN t 0), 0⟩, (rdN t 0).1, (rdN t 0).2.2))
def rdNeed : List UInt8 → T_api_Need × Int × List UInt8
  | [] => (⟨0, 0, 0⟩, 3, [])
  | b :: t => rdNeedC b t
theorem rdNeed_cons (b : UInt8) (t : List UInt8) : rdNeed (b :: t) = rdNeedC b t := rfl
theorem need_read_eq {s : ByteArray} (hs : s.size ≤ 140737488355328) {l : List UInt8} (h : l <:+ bl s) : ∃ er, need_read (mkI s l 0) = some ((rdNeed l).1, (rdNeed l).2.1, mkI s (rdNeed l).2.2 er) ∧ ((rdNeed l).2.1 = 0 → er = 0 ∧ (rdNeed l).2.2 <:+ bl s) := by
  have h0 : RdOK s l 0 := ⟨h, fun h => absurd rfl h⟩
  unfold need_read need_counted
  cases l with
  | nil =>
    rw [In_Byte_nil, bind_some']
    dsimp only
    rw [In_Err_gen, bind_some', if_pos rfl, iNe_t (by decide), cond_true]
    exact ⟨3, rfl, fun h => absurd h (by decide : (3 : Int) ≠ 0)⟩
  | cons b t =>
    have ht : RdOK s t 0 := h0.byte
    have hb := u8_rng b
    rw [In_Byte_cons s hs b t 0 h, bind_some']
    dsimp only
    rw [In_Err_gen, bind_some', iNe_f rfl, cond_false, rdNeed_cons]
    unfold rdNeedC
    cases hk : (iLt (b.toNat : Int) 1 || iLt 5 (b.toNat : Int)) with
    | true => exact ⟨_, rfl, fun h => absurd h (by decide : (6 : Int) ≠ 0)⟩
    | false =>
      simp only [Bool.or_eq_false_iff, iLt_iff'] at hk
      rw [cond_false, cond_false, In_Num_gen hs ht, bind_some', bind_some']
      dsimp only
      rw [cap_eq (rdN_lt t 0)]
      by_cases k3 : 3 < (b.toNat : Int)
      · rw [show (iEq (b.toNat : Int) 4 || iEq (b.toNat : Int) 5) = true by rw [Bool.or_eq_true, iEq_iff, iEq_iff]; omega, cond_true, iLt_t k3, cond_true, In_Num_gen hs ht.num, bind_some']
        dsimp only
        rw [In_Err_gen, bind_some', cap_eq (rdN_lt _ _)]
        exact ⟨_, rfl, fun h => ⟨h, ht.num.num.suf⟩⟩
      · rw [show (iEq (b.toNat : Int) 4 || iEq (b.toNat : Int) 5) = false by rw [iEq_f (by omega), iEq_f (by omega)]; rfl, cond_false, iLt_f (by omega), cond_false, In_Err_gen, bind_some']
        exact ⟨_, rfl, fun h => ⟨h, ht.num.suf⟩⟩
/-- A number of at most 4: it, the error, what is left. -/
def rdM (l : List UInt8) : Nat × Int × List UInt8 := cond (iLt 4 ((rdN l 0).2.1 : Int)) (0, 4, []) ((rdN l 0).2.1, (rdN l 0).1, (rdN l 0).2.2)
theorem need_many_eq {s : ByteArray} (hs : s.size ≤ 140737488355328) {l : List UInt8} (h : l <:+ bl s) : ∃ S, need_many (mkI s l 0) 4 = some (((rdM l).1 : Int), (rdM l).2.1, S) ∧ ((rdM l).2.1 = 0 → S = mkI s (rdM l).2.2 0 ∧ (rdM l).2.2 <:+ bl s ∧ (rdM l).1 ≤ 4) := by
  have h0 : RdOK s l 0 := ⟨h, fun h => absurd rfl h⟩
  unfold need_many rdM
  rw [In_Num_gen hs h0, bind_some']
  dsimp only
  by_cases h4 : 4 < ((rdN l 0).2.1 : Int)
  · rw [iLt_t h4, cond_true, cond_true]
    exact ⟨_, rfl, fun h => absurd h (by decide : (4 : Int) ≠ 0)⟩
  · rw [iLt_f (by omega), cond_false, cond_false, In_Err_gen, bind_some', w64 (by omega)]
    refine ⟨_, rfl, fun he => ?_⟩
    dsimp only at he ⊢
    exact ⟨by rw [he], h0.num.suf, by omega⟩
/-- n needs behind those that were read. -/
def rdNeeds : Nat → List UInt8 → List T_api_Need → List T_api_Need × Int × List UInt8
  | 0, l, acc => (acc, 0, l)
  | n + 1, l, acc => cond (iEq (rdNeed l).2.1 0) (rdNeeds n (rdNeed l).2.2 (acc ++ [(rdNeed l).1])) ([], (rdNeed l).2.1, [])
/-- A way. -/
def rdWay (l : List UInt8) : List T_api_Need × Int × List UInt8 := cond (iEq (rdM l).2.1 0) (rdNeeds (rdM l).1 (rdM l).2.2 []) ([], (rdM l).2.1, [])
def rdWays : Nat → List UInt8 → List (List T_api_Need) → List (List T_api_Need) × Int × List UInt8
  | 0, l, acc => (acc, 0, l)
  | n + 1, l, acc => cond (iEq (rdWay l).2.1 0) (rdWays n (rdWay l).2.2 (acc ++ [(rdWay l).1])) ([], (rdWay l).2.1, [])
/-- The wait with which bytes begin; the error; what is left. -/
def getNs (L : List T_api_Decl) (l : List UInt8) : List (List T_api_Need) × Int × List UInt8 :=
  cond (iEq (rdM l).2.1 0)
    (cond (iEq (rdWays (rdM l).1 (rdM l).2.2 []).2.1 0)
      (cond (iEq (chkW L (rdWays (rdM l).1 (rdM l).2.2 []).1) 0) ((rdWays (rdM l).1 (rdM l).2.2 []).1, 0, (rdWays (rdM l).1 (rdM l).2.2 []).2.2) ([], chkW L (rdWays (rdM l).1 (rdM l).2.2 []).1, []))
      ([], (rdWays (rdM l).1 (rdM l).2.2 []).2.1, []))
    ([], (rdM l).2.1, [])
theorem mkI_eta (s : ByteArray) (l : List UInt8) (e : Int) : (⟨(mkI s l e).s, (mkI s l e).at_, (mkI s l e).err⟩ : T_octet_In) = mkI s l e := rfl
theorem Get_l14 {s : ByteArray} (hs : s.size ≤ 140737488355328) {s5 : Int × (List (List T_api_Need)) × ByteArray × Int × Int} {K : ((List (List T_api_Need)) × ByteArray × Int × Int) → Option ((List (List T_api_Need)) × Int × Int)} {x10 : Int × Int × T_octet_In} {N : Nat} (hN : x10.1 = (N : Int)) (hN4 : N ≤ 4) (h5 : s5.2.1.length ≤ 4) : ∀ (n i f : Nat) (acc : List T_api_Need) (l : List UInt8), i + n = N → n < f → acc.length = i → l <:+ bl s →
    need_Get_l14 s5 K x10 f ((i : Int), acc, (mkI s l 0).s, (mkI s l 0).at_, (mkI s l 0).err) = cond (iEq (rdNeeds n l acc).2.1 0) (K (s5.2.1 ++ [(rdNeeds n l acc).1], (mkI s (rdNeeds n l acc).2.2 0).s, (mkI s (rdNeeds n l acc).2.2 0).at_, (mkI s (rdNeeds n l acc).2.2 0).err)) (some ([], 0, (rdNeeds n l acc).2.1)) ∧ ((rdNeeds n l acc).2.1 = 0 → (rdNeeds n l acc).2.2 <:+ bl s)
  | n, i, 0, acc, l, hi, hf, ha, hl => by omega
  | 0, i, f + 1, acc, l, hi, hf, ha, hl => by
    refine ⟨?_, fun _ => hl⟩
    rw [need_Get_l14]
    dsimp only
    rw [hN, iLt_f (by omega), cond_false, need_of (nCap_of (by simp only [List.length_cons, List.length_nil]; omega)), show rdNeeds 0 l acc = (acc, 0, l) from rfl, iEq_t rfl, cond_true]
  | n + 1, i, f + 1, acc, l, hi, hf, ha, hl => by
    rw [need_Get_l14]
    dsimp only
    obtain ⟨er, h1, h2⟩ := need_read_eq hs hl
    rw [hN, iLt_t (by omega), cond_true, mkI_eta, h1, bind_some', rdNeeds]
    dsimp only
    by_cases he : (rdNeed l).2.1 = 0
    · obtain ⟨rfl, h3⟩ := h2 he
      rw [iNe_f he, cond_false, iEq_t he, cond_true, need_of (nCap_of (by simp only [List.length_cons, List.length_nil]; omega)), w64 (by omega), show (i : Int) + 1 = ((i + 1 : Nat) : Int) by omega]
      exact Get_l14 hs hN hN4 h5 n (i + 1) f _ _ (by omega) (by omega) (by simp; omega) h3
    · rw [iNe_t he, cond_true, iEq_f he, cond_false, iEq_f he, cond_false]
      exact ⟨rfl, fun h => absurd h he⟩
theorem Get_l6 {L : List T_api_Decl} (hL : L.length ≤ 32) {s : ByteArray} (hs : s.size ≤ 140737488355328) {x2 : Int × Int × T_octet_In} {N : Nat} (hN : x2.1 = (N : Int)) (hN4 : N ≤ 4) : ∀ (n i f : Nat) (acc : List (List T_api_Need)) (l : List UInt8), i + n = N → n < f → acc.length = i → l <:+ bl s →
    need_Get_l6 L s x2 f ((i : Int), acc, (mkI s l 0).s, (mkI s l 0).at_, (mkI s l 0).err) = cond (iEq (rdWays n l acc).2.1 0) (cond (iEq (chkW L (rdWays n l acc).1) 0) (some ((rdWays n l acc).1, (s.size : Int) - (rdWays n l acc).2.2.length, 0)) (some ([], 0, chkW L (rdWays n l acc).1))) (some ([], 0, (rdWays n l acc).2.1))
  | n, i, 0, acc, l, hi, hf, ha, hl => by omega
  | 0, i, f + 1, acc, l, hi, hf, ha, hl => by
    have := suf_len hl
    rw [need_Get_l6]
    dsimp only
    rw [hN, iLt_f (by omega), cond_false, need_Check_eq hL, bind_some', mkI_eta, show rdWays 0 l acc = (acc, 0, l) from rfl, iEq_t rfl, cond_true]
    dsimp only
    by_cases hc : chkW L acc = 0
    · rw [iNe_f hc, cond_false, iEq_t hc, cond_true, In_Left s hs l 0 hl, bind_some', w64 (by omega)]
    · rw [iNe_t hc, cond_true, iEq_f hc, cond_false]
  | n + 1, i, f + 1, acc, l, hi, hf, ha, hl => by
    rw [need_Get_l6]
    dsimp only
    obtain ⟨S, h1, h2⟩ := need_many_eq hs hl
    rw [hN, iLt_t (by omega), cond_true, withK_eq, mkI_eta, h1, bind_some', rdWays, rdWay]
    dsimp only
    by_cases he : (rdM l).2.1 = 0
    · obtain ⟨rfl, h3, h4⟩ := h2 he
      rw [iNe_f he, cond_false, iEq_t he, cond_true]
      obtain ⟨g1, g2⟩ := Get_l14 hs (s5 := ((i : Int), acc, (mkI s l 0).s, (mkI s l 0).at_, (mkI s l 0).err)) (K := fun s9 => need_Get_l6 L s x2 f (IntKind.i64.wrap ((i : Int) + 1), s9.1, s9.2.1, s9.2.2.1, s9.2.2.2)) (x10 := (((rdM l).1 : Int), (rdM l).2.1, mkI s (rdM l).2.2 0)) (N := (rdM l).1) rfl h4 (by dsimp only; omega) (rdM l).1 0 fuel [] (rdM l).2.2 (by omega) (by have := fuel_big; omega) rfl h3
      refine Eq.trans g1 ?_
      dsimp only
      by_cases hr : (rdNeeds (rdM l).1 (rdM l).2.2 []).2.1 = 0
      · rw [iEq_t hr, cond_true, cond_true, w64 (by omega), show (i : Int) + 1 = ((i + 1 : Nat) : Int) by omega]
        exact Get_l6 hL hs hN hN4 n (i + 1) f _ _ (by omega) (by omega) (by simp; omega) (g2 hr)
      · rw [iEq_f hr, cond_false, cond_false, iEq_f hr, cond_false]
    · rw [iNe_t he, cond_true, iEq_f he, cond_false]
      dsimp only
      rw [iEq_f he, cond_false, iEq_f he, cond_false]
theorem need_Get_eq {L : List T_api_Decl} (hL : L.length ≤ 32) {s : ByteArray} (hs : s.size ≤ 140737488355328) : need_Get L s = some ((getNs L (bl s)).1, cond (iEq (getNs L (bl s)).2.1 0) ((s.size : Int) - (getNs L (bl s)).2.2.length) 0, (getNs L (bl s)).2.1) := by
  unfold need_Get
  obtain ⟨S, h1, h2⟩ := need_many_eq hs (List.suffix_refl (bl s))
  rw [In_Open, bind_some', h1, bind_some']
  dsimp only
  unfold getNs
  by_cases he : (rdM (bl s)).2.1 = 0
  · obtain ⟨rfl, h3, h4⟩ := h2 he
    rw [iNe_f he, cond_false, iEq_t he, cond_true]
    have := Get_l6 hL hs (x2 := (((rdM (bl s)).1 : Int), (rdM (bl s)).2.1, mkI s (rdM (bl s)).2.2 0)) (N := (rdM (bl s)).1) rfl h4 (rdM (bl s)).1 0 fuel [] (rdM (bl s)).2.2 (by omega) (by have := fuel_big; omega) rfl h3
    refine Eq.trans this ?_
    generalize rdWays (rdM (bl s)).1 (rdM (bl s)).2.2 [] = r
    by_cases h1 : r.2.1 = 0
    · rw [iEq_t h1, cond_true, cond_true]
      by_cases h2 : chkW L r.1 = 0
      · rw [iEq_t h2, cond_true, cond_true]; rfl
      · rw [iEq_f h2, cond_false, cond_false]; dsimp only; rw [iEq_f h2, cond_false]
    · rw [iEq_f h1, cond_false, cond_false]; dsimp only; rw [iEq_f h1, cond_false]
  · rw [iNe_t he, cond_true, iEq_f he, cond_false]; dsimp only; rw [iEq_f he, cond_false]

/-! ### The document's reader -/
/-! ### What was put comes back; what is read is what was put -/
theorem rdNeed_putN {x : T_api_Need} (h : RngN x) (t : List UInt8) : rdNeed (putN x ++ t) = (x, 0, t) := by
  have ⟨hk, ho, hn, hz⟩ := h
  obtain ⟨K, O, M⟩ := x
  dsimp only at *
  unfold putN
  dsimp only
  have hu : (UInt8.ofNat K.toNat).toNat = K.toNat := by simp [UInt8.toNat_ofNat]; omega
  rw [List.cons_append, rdNeed_cons]
  unfold rdNeedC
  rw [hu, show (K.toNat : Int) = K by omega, show (iLt K 1 || iLt 5 K) = false by simp only [Bool.or_eq_false_iff, iLt_iff']; omega, cond_false]
  by_cases k3 : 3 < K
  · rw [iLt_t k3, cond_true, if_pos k3, List.append_assoc, rdN_numL (by omega), rdN_numL (by omega)]
    simp only [Prod.mk.injEq, and_true, T_api_Need.mk.injEq, true_and]
    unfold capN
    dsimp only
    omega
  · have := hz (by omega)
    rw [iLt_f (by omega), cond_false, if_neg k3, List.append_nil, rdN_numL (by omega)]
    simp only [Prod.mk.injEq, and_true, T_api_Need.mk.injEq, true_and]
    unfold capN
    dsimp only
    omega
theorem rdNeeds_put : ∀ (l acc : List T_api_Need) (t : List UInt8), (∀ x ∈ l, RngN x) → rdNeeds l.length (l.flatMap putN ++ t) acc = (acc ++ l, 0, t)
  | [], acc, t, h => by simp [rdNeeds]
  | d :: L, acc, t, h => by
    rw [List.length_cons, rdNeeds, List.flatMap_cons, List.append_assoc, rdNeed_putN (h d (List.mem_cons_self ..))]
    dsimp only
    rw [iEq_t rfl, cond_true, rdNeeds_put L _ t fun x hx => h x (List.mem_cons_of_mem _ hx)]
    simp
theorem rdM_put {n : Nat} (h : n ≤ 4) (t : List UInt8) : rdM (numL n ++ t) = (n, 0, t) := by
  unfold rdM
  rw [rdN_numL (by omega), iLt_f (by dsimp only; omega), cond_false]
theorem rdWay_put {l : List T_api_Need} (h4 : l.length ≤ 4) (h : ∀ x ∈ l, RngN x) (t : List UInt8) : rdWay (putW l ++ t) = (l, 0, t) := by
  unfold rdWay putW
  rw [List.append_assoc, rdM_put h4]
  dsimp only
  rw [iEq_t rfl, cond_true, rdNeeds_put l [] t h, List.nil_append]
theorem rdWays_put : ∀ (W acc : List (List T_api_Need)) (t : List UInt8), (∀ l ∈ W, l.length ≤ 4 ∧ ∀ x ∈ l, RngN x) → rdWays W.length (W.flatMap putW ++ t) acc = (acc ++ W, 0, t)
  | [], acc, t, h => by simp [rdWays]
  | d :: L, acc, t, h => by
    obtain ⟨h1, h2⟩ := h d (List.mem_cons_self ..)
    rw [List.length_cons, rdWays, List.flatMap_cons, List.append_assoc, rdWay_put h1 h2]
    dsimp only
    rw [iEq_t rfl, cond_true, rdWays_put L _ t fun x hx => h x (List.mem_cons_of_mem _ hx)]
    simp
theorem getNs_put {L : List T_api_Decl} (hL : (chkL L).2 = 0) {W : List (List T_api_Need)} (h : chkW L W = 0) (t : List UInt8) : getNs L (putWs W ++ t) = (W, 0, t) := by
  have g := GoodW.of hL h
  unfold getNs putWs
  rw [List.append_assoc, rdM_put g.len.2]
  dsimp only
  rw [iEq_t rfl, cond_true, rdWays_put W [] t fun l hl => ⟨(g.ways l hl).1.2, (g.ways l hl).2⟩]
  dsimp only
  rw [iEq_t rfl, cond_true, List.nil_append, iEq_t h, cond_true]
theorem rdNeed_inv {l : List UInt8} (h : (rdNeed l).2.1 = 0) (hr : RngN (rdNeed l).1) : l = putN (rdNeed l).1 ++ (rdNeed l).2.2 := by
  cases l with
  | nil => exact absurd h (by decide : (3 : Int) ≠ 0)
  | cons b t =>
    have hu : UInt8.ofNat b.toNat = b := ofNat_toNat b
    have hb := u8_rng b
    rw [rdNeed_cons] at h hr ⊢
    unfold rdNeedC at h hr ⊢
    cases hk : (iLt (b.toNat : Int) 1 || iLt 5 (b.toNat : Int)) with
    | true => rw [hk, cond_true] at h; exact absurd h (by decide : (6 : Int) ≠ 0)
    | false =>
      rw [hk, cond_false] at h hr
      rw [cond_false]
      by_cases k3 : 3 < (b.toNat : Int)
      · rw [iLt_t k3, cond_true] at h hr ⊢
        dsimp only at h
        have e1 := rdN_err h
        obtain ⟨i1, j1⟩ := rdN_inv' (l := t) e1
        rw [e1] at h
        obtain ⟨i2, j2⟩ := rdN_inv' (l := (rdN t 0).2.2) h
        rw [e1] at hr ⊢
        have ⟨_, ha, hbb, _⟩ := hr
        generalize (rdN (rdN t 0).2.2 0) = r2 at *
        generalize (rdN t 0) = r1 at *
        obtain ⟨x1, n1, t1⟩ := r1
        obtain ⟨x2, n2, t2⟩ := r2
        unfold putN capN at *
        dsimp only at *
        rw [if_pos k3, Int.toNat_natCast, hu, show ((min n1 2147483648 : Nat) : Int).toNat = n1 by omega, show ((min n2 2147483648 : Nat) : Int).toNat = n2 by omega, List.cons_append, List.append_assoc, ← i2, ← i1]
      · rw [iLt_f (by omega), cond_false] at h hr ⊢
        dsimp only at h
        obtain ⟨i1, j1⟩ := rdN_inv' (l := t) h
        have ⟨_, ha, hbb, _⟩ := hr
        generalize (rdN t 0) = r1 at *
        obtain ⟨x1, n1, t1⟩ := r1
        unfold putN capN at *
        dsimp only at *
        rw [if_neg k3, Int.toNat_natCast, hu, show ((min n1 2147483648 : Nat) : Int).toNat = n1 by omega, List.append_nil, List.cons_append, ← i1]
theorem rdNeeds_inv : ∀ (n : Nat) (l : List UInt8) (acc : List T_api_Need), (rdNeeds n l acc).2.1 = 0 → (∀ x ∈ (rdNeeds n l acc).1, RngN x) → ∃ L, (rdNeeds n l acc).1 = acc ++ L ∧ L.length = n ∧ l = L.flatMap putN ++ (rdNeeds n l acc).2.2
  | 0, l, acc, h, hr => ⟨[], by simp [rdNeeds]⟩
  | n + 1, l, acc, h, hr => by
    rw [rdNeeds] at h hr ⊢
    by_cases he : (rdNeed l).2.1 = 0
    · rw [iEq_t he, cond_true] at h hr ⊢
      obtain ⟨L, h1, h2, h3⟩ := rdNeeds_inv n _ _ h hr
      have hd : RngN (rdNeed l).1 := hr _ (by rw [h1]; simp)
      refine ⟨(rdNeed l).1 :: L, by rw [h1]; simp, by simp [h2], ?_⟩
      rw [List.flatMap_cons, List.append_assoc, ← h3]
      exact rdNeed_inv he hd
    · rw [iEq_f he, cond_false] at h
      exact absurd h he
theorem rdM_inv {l : List UInt8} (h : (rdM l).2.1 = 0) : l = numL (rdM l).1 ++ (rdM l).2.2 := by
  unfold rdM at h ⊢
  by_cases h4 : 4 < ((rdN l 0).2.1 : Int)
  · rw [iLt_t h4, cond_true] at h; exact absurd h (by decide : (4 : Int) ≠ 0)
  · rw [iLt_f (by omega), cond_false] at h ⊢
    exact (rdN_inv' h).1
theorem rdWay_inv {l : List UInt8} (h : (rdWay l).2.1 = 0) (hr : ∀ x ∈ (rdWay l).1, RngN x) : l = putW (rdWay l).1 ++ (rdWay l).2.2 := by
  unfold rdWay at h hr ⊢
  by_cases he : (rdM l).2.1 = 0
  · rw [iEq_t he, cond_true] at h hr ⊢
    obtain ⟨L, h1, h2, h3⟩ := rdNeeds_inv _ _ _ h hr
    unfold putW
    rw [h1, List.nil_append, h2, List.append_assoc, ← h3]
    exact rdM_inv he
  · rw [iEq_f he, cond_false] at h; exact absurd h he
theorem rdWays_inv : ∀ (n : Nat) (l : List UInt8) (acc : List (List T_api_Need)), (rdWays n l acc).2.1 = 0 → (∀ w ∈ (rdWays n l acc).1, ∀ x ∈ w, RngN x) → ∃ L, (rdWays n l acc).1 = acc ++ L ∧ L.length = n ∧ l = L.flatMap putW ++ (rdWays n l acc).2.2
  | 0, l, acc, h, hr => ⟨[], by simp [rdWays]⟩
  | n + 1, l, acc, h, hr => by
    rw [rdWays] at h hr ⊢
    by_cases he : (rdWay l).2.1 = 0
    · rw [iEq_t he, cond_true] at h hr ⊢
      obtain ⟨L, h1, h2, h3⟩ := rdWays_inv n _ _ h hr
      have hd : ∀ x ∈ (rdWay l).1, RngN x := hr _ (by rw [h1]; simp)
      refine ⟨(rdWay l).1 :: L, by rw [h1]; simp, by simp [h2], ?_⟩
      rw [List.flatMap_cons, List.append_assoc, ← h3]
      exact rdWay_inv he hd
    · rw [iEq_f he, cond_false] at h
      exact absurd h he
theorem getNs_inv {L : List T_api_Decl} (hL : (chkL L).2 = 0) {l : List UInt8} (h : (getNs L l).2.1 = 0) : chkW L (getNs L l).1 = 0 ∧ l = putWs (getNs L l).1 ++ (getNs L l).2.2 := by
  unfold getNs at h ⊢
  by_cases a1 : (rdM l).2.1 = 0
  · rw [iEq_t a1, cond_true] at h ⊢
    by_cases a3 : (rdWays (rdM l).1 (rdM l).2.2 []).2.1 = 0
    · rw [iEq_t a3, cond_true] at h ⊢
      by_cases a4 : chkW L (rdWays (rdM l).1 (rdM l).2.2 []).1 = 0
      · rw [iEq_t a4, cond_true]
        refine ⟨a4, ?_⟩
        have g := GoodW.of hL a4
        obtain ⟨M, h1, h2, h3⟩ := rdWays_inv _ _ _ a3 fun w hw => (g.ways w hw).2
        dsimp only
        unfold putWs
        rw [h1, List.nil_append, h2, List.append_assoc, ← h3]
        exact rdM_inv a1
      · rw [iEq_f a4, cond_false] at h; exact absurd h a4
    · rw [iEq_f a3, cond_false] at h; exact absurd h a3
  · rw [iEq_f a1, cond_false] at h; exact absurd h a1
theorem getNs_err {L : List T_api_Decl} {l : List UInt8} (h : (getNs L l).2.1 ≠ 0) : (getNs L l).1 = [] := by
  unfold getNs at h ⊢
  by_cases a1 : (rdM l).2.1 = 0
  · rw [iEq_t a1, cond_true] at h ⊢
    by_cases a3 : (rdWays (rdM l).1 (rdM l).2.2 []).2.1 = 0
    · rw [iEq_t a3, cond_true] at h ⊢
      by_cases a4 : chkW L (rdWays (rdM l).1 (rdM l).2.2 []).1 = 0
      · rw [iEq_t a4, cond_true] at h; exact absurd rfl h
      · rw [iEq_f a4, cond_false]
    · rw [iEq_f a3, cond_false]
  · rw [iEq_f a1, cond_false]
end LJ
