/- Plain laws of waits as bytes. -/
import Derived.Test.YtdgnolnlcflmmaaDoorN9A
import Derived.Test.YtdgnolnlcflmmaaDoorOPC
namespace LJ
open Go Go.RowKit
set_option linter.unusedVariables false
set_option linter.unusedSimpArgs false

/-- Numbers of a need that may be put. -/
structure RngN (x : T_api_Need) : Prop where
  k : 1 ≤ x.Kind ∧ x.Kind ≤ 5
  o : 0 ≤ x.Obj ∧ x.Obj < 2147483648
  n : 0 ≤ x.N ∧ x.N < 2147483648
  nz : x.Kind ≤ 3 → x.N = 0
structure GoodW (W : List (List T_api_Need)) : Prop where
  len : 1 ≤ W.length ∧ W.length ≤ 4
  ways : ∀ l ∈ W, (1 ≤ l.length ∧ l.length ≤ 4) ∧ ∀ x ∈ l, RngN x
theorem badD_most {L : List T_api_Decl} {d : T_api_Decl} (h : badD L d = 0) : (d.Kind = 3 → d.B ≤ 1000) ∧ (d.Kind = 6 → d.A ≤ 1000) := by
  unfold badD at h
  constructor
  · intro k
    rw [iEq_t k, cond_true] at h
    cases hb : (iLe 1 d.B && iLe d.B 1000 && iLe 0 d.A && iLe d.A d.B) with
    | false => rw [hb] at h; cases h
    | true => simp only [Bool.and_eq_true, iLe_iff] at hb; omega
  · intro k
    rw [iEq_f (show d.Kind ≠ 3 by omega), cond_false, iEq_t k, cond_true] at h
    cases hb : (iLe 1 d.A && iLe d.A 1000) with
    | false => rw [hb] at h; cases h
    | true => simp only [Bool.and_eq_true, iLe_iff] at hb; omega
theorem chkL_len {L : List T_api_Decl} (h : (chkL L).2 = 0) : L.length ≤ 32 ∧ ∀ d ∈ L, badD L d = 0 := by
  unfold chkL at h
  by_cases hl : 32 < (L.length : Int)
  · rw [iLt_t hl, cond_true] at h; cases h
  · rw [iLt_f (by omega), cond_false] at h
    exact ⟨by omega, chkD_ok h⟩
theorem RngN.of {L : List T_api_Decl} (hL : (chkL L).2 = 0) {x : T_api_Need} (h : badN L x = 0) : RngN x := by
  obtain ⟨h1, h2⟩ := chkL_len hL
  obtain ⟨a, b, c, d, e, f, g⟩ := badN_ok h
  have hm : L.getD x.Obj.toNat default ∈ L := by
    rw [List.getD_eq_getElem?_getD, List.getElem?_eq_getElem (by omega)]
    exact List.getElem_mem _
  obtain ⟨i, j⟩ := badD_most (h2 _ hm)
  rw [c] at i j
  refine ⟨a, by omega, ⟨d, ?_⟩, g⟩
  by_cases k4 : x.Kind = 4
  · have := i (by rw [k4]; rfl)
    have := e k4
    omega
  · by_cases k5 : x.Kind = 5
    · have := j (by rw [k5]; rfl)
      have := f k5
      omega
    · have := g (by omega)
      omega
theorem badW_ok {L : List T_api_Decl} {l : List T_api_Need} (h : badW L l = 0) : (1 ≤ l.length ∧ l.length ≤ 4) ∧ ∀ x ∈ l, badN L x = 0 := by
  unfold badW at h
  by_cases h0 : (l.length : Int) = 0
  · rw [iEq_t h0, cond_true] at h; cases h
  · rw [iEq_f h0, cond_false] at h
    by_cases h4 : 4 < (l.length : Int)
    · rw [iLt_t h4, cond_true] at h; cases h
    · rw [iLt_f (by omega), cond_false] at h
      by_cases hb : firstN L l = 0
      · exact ⟨by omega, firstN_ok hb⟩
      · rw [iNe_t hb, cond_true] at h; exact absurd h hb
theorem firstW_ok {L : List T_api_Decl} : ∀ {W : List (List T_api_Need)}, firstW L W = 0 → ∀ l ∈ W, badW L l = 0
  | [], h => fun x hx => by cases hx
  | y :: t, h => by
    unfold firstW at h
    by_cases hy : badW L y = 0
    · rw [iNe_f hy, cond_false] at h
      intro x hx
      rcases List.mem_cons.1 hx with rfl | hx
      · exact hy
      · exact firstW_ok h x hx
    · rw [iNe_t hy, cond_true] at h; exact absurd h hy
theorem GoodW.of {L : List T_api_Decl} (hL : (chkL L).2 = 0) {W : List (List T_api_Need)} (h : chkW L W = 0) : GoodW W := by
  unfold chkW at h
  by_cases h0 : (W.length : Int) = 0
  · rw [iEq_t h0, cond_true] at h; cases h
  · rw [iEq_f h0, cond_false] at h
    by_cases h4 : 4 < (W.length : Int)
    · rw [iLt_t h4, cond_true] at h; cases h
    · rw [iLt_f (by omega), cond_false] at h
      refine ⟨by omega, fun l hl => ?_⟩
      obtain ⟨a, b⟩ := badW_ok (firstW_ok h l hl)
      exact ⟨a, fun x hx => RngN.of hL (b x hx)⟩

/-! ### Their bytes -/
def putN (x : T_api_Need) : List UInt8 := UInt8.ofNat x.Kind.toNat :: (numL x.Obj.toNat ++ if 3 < x.Kind then numL x.N.toNat else [])
def putW (l : List T_api_Need) : List UInt8 := numL l.length ++ l.flatMap putN
def putWs (W : List (List T_api_Need)) : List UInt8 := numL W.length ++ W.flatMap putW
theorem putN_len {x : T_api_Need} (h : RngN x) : (putN x).length ≤ 21 := by
  have ⟨_, ha, hb, _⟩ := h
  have h1 := numL_len10 (n := x.Obj.toNat) (by omega)
  have h2 := numL_len10 (n := x.N.toNat) (by omega)
  unfold putN
  rw [List.length_cons, List.length_append]
  split
  · omega
  · simp; omega
theorem flat_len {α : Type} (f : α → List UInt8) (m : Nat) : ∀ {L : List α}, (∀ d ∈ L, (f d).length ≤ m) → (L.flatMap f).length ≤ m * L.length
  | [], h => by simp
  | x :: L, h => by
    rw [List.flatMap_cons, List.length_append, List.length_cons]
    have h1 := h x (List.mem_cons_self ..)
    have h2 := flat_len f m (L := L) fun d hd => h d (List.mem_cons_of_mem _ hd)
    have : m * (L.length + 1) = m * L.length + m := by rw [Nat.mul_add, Nat.mul_one]
    omega
theorem putW_len {l : List T_api_Need} (h4 : l.length ≤ 4) (h : ∀ x ∈ l, RngN x) : (putW l).length ≤ 94 := by
  unfold putW
  rw [List.length_append]
  have := numL_len10 (n := l.length) (by omega)
  have := flat_len putN 21 (fun d hd => putN_len (h d hd))
  omega
theorem putWs_len {W : List (List T_api_Need)} (h : GoodW W) : (putWs W).length ≤ 386 := by
  have hl := h.len
  unfold putWs
  rw [List.length_append]
  have := numL_len10 (n := W.length) (by omega)
  have := flat_len putW 94 (fun d hd => putW_len (h.ways d hd).1.2 (h.ways d hd).2)
  omega
theorem ba_assoc (a b c : ByteArray) : a ++ b ++ c = a ++ (b ++ c) := ByteArray.append_assoc
theorem put_l12 {W : List (List T_api_Need)} {s4 : Int × ByteArray} {K : ByteArray → Option (ByteArray × Int)} {l : List T_api_Need} (hl : W.getD s4.1.toNat default = l) (h4 : l.length ≤ 4) (h : ∀ x ∈ l, RngN x) : ∀ (n i f : Nat) (b : ByteArray), i + n = l.length → n < f → b.size + 21 * n ≤ 10000 →
    need_Put_l12 W s4 K f ((i : Int), b) = K (b ++ bs ((l.drop i).flatMap putN))
  | n, i, 0, b, hi, hf, hb => by omega
  | 0, i, f + 1, b, hi, hf, hb => by
    rw [need_Put_l12]
    dsimp only
    rw [hl, iLt_f (by omega), cond_false, List.drop_eq_nil_of_le (by omega)]
    congr 1
    apply bl_inj
    simp
  | n + 1, i, f + 1, b, hi, hf, hb => by
    rw [need_Put_l12]
    dsimp only
    have hm : l.getD i default ∈ l := by
      rw [List.getD_eq_getElem?_getD, List.getElem?_eq_getElem (by omega)]
      exact List.getElem_mem _
    have hd := h _ hm
    rw [hl, iLt_t (by omega), cond_true, need_of (nIn_of ⟨by omega, by omega⟩), Int.toNat_natCast, getD_drop l i (by omega), List.flatMap_cons]
    generalize l.getD i default = d at *
    have hlen := putN_len hd
    have ⟨hk, ho, hn, _⟩ := hd
    have h1 := numL_len10 (n := d.Obj.toNat) (by omega)
    have h2 := numL_len10 (n := d.N.toNat) (by omega)
    unfold octet_Out_Byte need_counted
    rw [wu8 (by omega), need_of (nCap_of (by dsimp only; omega)), need_of (nIn_of (by omega)), bind_some']
    dsimp only
    have w : IntKind.i64.wrap ((i : Int) + 1) = ((i + 1 : Nat) : Int) := by rw [w64 (by omega)]; omega
    have sz : (b.push (UInt8.ofNat d.Kind.toNat)).size = b.size + 1 := ByteArray.size_push
    have go : ∀ (x : List UInt8), UInt8.ofNat d.Kind.toNat :: x = putN d → need_Put_l12 W s4 K f (IntKind.i64.wrap ((i : Int) + 1), b.push (UInt8.ofNat d.Kind.toNat) ++ bs x) = K (b ++ bs (putN d ++ (l.drop (i + 1)).flatMap putN)) := fun x hx => by
      have hxl : x.length ≤ 20 := by rw [← hx] at hlen; simpa using hlen
      rw [w, put_l12 hl h4 h n (i + 1) f _ (by omega) (by omega) (by rw [ByteArray.size_append, sz, bs_size]; omega)]
      congr 1
      apply bl_inj
      rw [← hx]
      simp
    rw [wu64 (a := d.Obj) (by omega), wu64 (a := d.N) (by omega), Out_Num' ho.1 (by omega) (by omega), bind_some', bind_some']
    by_cases k3 : 3 < d.Kind
    · rw [show (iEq d.Kind 4 || iEq d.Kind 5) = true by rw [Bool.or_eq_true, iEq_iff, iEq_iff]; omega, cond_true, Out_Num' hn.1 (by omega) (by rw [ByteArray.size_append, bs_size]; omega), bind_some']
      dsimp only
      rw [ba_assoc, ← bs_append]
      exact go _ (by unfold putN; rw [if_pos k3])
    · rw [show (iEq d.Kind 4 || iEq d.Kind 5) = false by rw [iEq_f (by omega), iEq_f (by omega)]; rfl, cond_false]
      exact go _ (by unfold putN; rw [if_neg k3, List.append_nil])
theorem put_l5 {W : List (List T_api_Need)} (h4 : W.length ≤ 4) (h : ∀ l ∈ W, l.length ≤ 4 ∧ ∀ x ∈ l, RngN x) : ∀ (n i f : Nat) (b : ByteArray), i + n = W.length → n < f → b.size + 94 * n ≤ 5000 →
    need_Put_l5 W f ((i : Int), b) = some (b ++ bs ((W.drop i).flatMap putW), 0)
  | n, i, 0, b, hi, hf, hb => by omega
  | 0, i, f + 1, b, hi, hf, hb => by
    rw [need_Put_l5]
    dsimp only
    rw [iLt_f (by omega), cond_false, List.drop_eq_nil_of_le (by omega)]
    show some (b, (0 : Int)) = _
    congr 2
    apply bl_inj
    simp
  | n + 1, i, f + 1, b, hi, hf, hb => by
    rw [need_Put_l5]
    dsimp only
    have hm : W.getD i default ∈ W := by
      rw [List.getD_eq_getElem?_getD, List.getElem?_eq_getElem (by omega)]
      exact List.getElem_mem _
    obtain ⟨hd1, hd2⟩ := h _ hm
    have h1 := numL_len10 (n := (W.getD i default).length) (by omega)
    have hlen := putW_len hd1 hd2
    rw [iLt_t (by omega), cond_true, withK_eq, need_of (nIn_of ⟨by omega, by omega⟩), Int.toNat_natCast, wu64 (by omega), Out_Num (by omega) (by omega), bind_some']
    dsimp only
    have := put_l12 (W := W) (s4 := ((i : Int), b)) (K := fun s8 => need_Put_l5 W f (IntKind.i64.wrap ((i : Int) + 1), s8)) (l := W.getD i default) (by rw [Int.toNat_natCast]) hd1 hd2 (W.getD i default).length 0 fuel (b ++ bs (numL (W.getD i default).length)) (by omega) (by have := fuel_big; omega) (by rw [ByteArray.size_append, bs_size]; omega)
    refine Eq.trans this ?_
    have hf2 := flat_len putN 21 (fun d hd => putN_len (hd2 d hd))
    rw [List.drop_zero, w64 (by omega), show (i : Int) + 1 = ((i + 1 : Nat) : Int) by omega, put_l5 h4 h n (i + 1) f _ (by omega) (by omega) (by rw [ByteArray.size_append, ByteArray.size_append, bs_size, bs_size]; omega), getD_drop W i (by omega), List.flatMap_cons]
    congr 2
    apply bl_inj
    unfold putW
    simp
theorem need_Put_ok {L : List T_api_Decl} (hL : (chkL L).2 = 0) {W : List (List T_api_Need)} (h : chkW L W = 0) : need_Put L W = some (bs (putWs W), 0) := by
  have g := GoodW.of hL h
  have hl := g.len
  unfold need_Put
  have := numL_len10 (n := W.length) (by omega)
  rw [need_Check_eq (chkL_len hL).1, bind_some', iNe_f h, cond_false, wu64 (by omega), Out_Num (by omega) (by simp; omega), bind_some']
  dsimp only
  rw [show (0 : Int) = ((0 : Nat) : Int) from rfl, put_l5 hl.2 (fun l hl => ⟨(g.ways l hl).1.2, (g.ways l hl).2⟩) W.length 0 fuel _ (by omega) (by have := fuel_big; omega) (by rw [ByteArray.size_append, bs_size]; simp; omega)]
  exact congrArg (fun z => some (z, (0 : Int))) (bl_inj (by unfold putWs; simp))
theorem need_Put_bad {L : List T_api_Decl} (hL : L.length ≤ 32) {W : List (List T_api_Need)} (h : chkW L W ≠ 0) : need_Put L W = some (ByteArray.empty, chkW L W) := by
  unfold need_Put
  rw [need_Check_eq hL, bind_some', iNe_t h, cond_true]
end LJ