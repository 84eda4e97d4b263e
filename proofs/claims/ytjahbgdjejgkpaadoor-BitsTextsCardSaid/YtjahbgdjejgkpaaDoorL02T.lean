/- The law BitsTexts, plainly. -/
import Derived.Test.YtjahbgdjejgkpaaDoorL02E
namespace LJ
open Go Go.RowKit
set_option linter.unusedVariables false
set_option linter.unusedSimpArgs false

theorem need_tt {α : Type} (k : Option α) : need true k = k := rfl
theorem gm {α : Type} [Inhabited α] {l : List α} {i : Nat} (h : i < l.length) : l.getD i default ∈ l := by
  rw [List.getD_eq_getElem?_getD, List.getElem?_eq_getElem h]
  exact List.getElem_mem h
theorem sEq_same (a : ByteArray) : sEq a a = true := sEq_t rfl
theorem sz_app (a b : ByteArray) : (a ++ b).size = a.size + b.size := ByteArray.size_append
theorem sz_push (a : ByteArray) (c : UInt8) : (a.push c).size = a.size + 1 := by
  rw [← bl_len, bl_push, List.length_append, bl_len]; rfl
theorem dg_two {a : Int} (h : 0 ≤ a ∧ a < 64) : (∃ c : UInt8, dg a = [c] ∧ (c.toNat : Int) = 48 + a ∧ a ≤ 9) ∨ ∃ c e : UInt8, dg a = [c, e] ∧ 48 ≤ (c.toNat : Int) ∧ (c.toNat : Int) ≤ 57 ∧ 48 ≤ (e.toNat : Int) ∧ (e.toNat : Int) ≤ 57 ∧ 10 * ((c.toNat : Int) - 48) + ((e.toNat : Int) - 48) = a := by
  obtain ⟨u, rfl⟩ : ∃ u : Nat, a = u := ⟨a.toNat, by omega⟩
  unfold dg
  rw [Int.toNat_natCast, decF]
  by_cases hu : u < 10
  · rw [if_pos hu]
    refine .inl ⟨_, rfl, ?_⟩
    rw [UInt8.toNat_ofNat']
    omega
  · rw [if_neg hu, decF, if_pos (by omega)]
    refine .inr ⟨UInt8.ofNat (48 + u / 10), UInt8.ofNat (48 + u % 10), rfl, ?_⟩
    rw [UInt8.toNat_ofNat', UInt8.toNat_ofNat']
    omega
theorem WSb_eq (u : Bool) (b s : ByteArray) : strings_Builder_WriteString ⟨u, b⟩ s = need (nCap (b.size + s.size)) (some ((s.size : Int), (), (⟨true, b ++ s⟩ : T_strings_Builder))) := by
  unfold strings_Builder_WriteString strings_Builder_copyCheck
  cases u <;> rfl
theorem WBb_eq (u : Bool) (b : ByteArray) : strings_Builder_WriteByte ⟨u, b⟩ 44 = need (nCap (b.size + 1)) (some ((), (⟨true, b.push 44⟩ : T_strings_Builder))) := by
  unfold strings_Builder_WriteByte strings_Builder_copyCheck
  cases u <;> rfl
theorem tx_at {z : Bool} {l : List Int} {i : Nat} (h : i < l.length) : tx z (l.drop i) = (if z then [] else [44]) ++ dg (l.getD i default) ++ tx false (l.drop (i + 1)) := by
  rw [drop_cons2 h, tx]
theorem bT_l4 {l : List Int} (hl : l.length ≤ 64) (hr : ∀ v ∈ l, 0 ≤ v ∧ v < 64) : ∀ (n i f : Nat) (u : Bool) (b : ByteArray), i + n = l.length → n < f → b.size + 4 * n ≤ 1000 → bits_Text_l4 l f ((i : Int), u, b) = some (bs (bl b ++ tx (decide (i = 0)) (l.drop i)))
  | n, i, 0, u, b, hi, hf, hb => by omega
  | 0, i, f + 1, u, b, hi, hf, hb => by
    rw [bits_Text_l4]
    dsimp only
    rw [iLt_f (by omega), cond_false, List.drop_of_length_le (by omega)]
    show some b = some (bs (bl b ++ []))
    rw [List.append_nil, bs_bl]
  | n + 1, i, f + 1, u, b, hi, hf, hb => by
    have hv := hr _ (gm (l := l) (i := i) (by omega))
    have hd := (dg_all hv).1
    rw [bits_Text_l4]
    dsimp only
    rw [iLt_t (by omega), cond_true, need_of (nIn_of ⟨by omega, by omega⟩), Int.toNat_natCast, itoa_dg hv, tx_at (by omega)]
    by_cases h0 : i = 0
    · rw [iLt_f (by omega), cond_false, bind_some', WSb_eq, need_of (nCap_of (by rw [bs_size]; omega)), bind_some', w64 (by omega), show (i : Int) + 1 = ((i + 1 : Nat) : Int) by omega, bT_l4 hl hr n (i + 1) f _ _ (by omega) (by omega) (by rw [sz_app, bs_size]; omega)]
      refine congrArg (fun z => some (bs z)) ?_
      rw [decide_eq_true h0, decide_eq_false (by omega : ¬ i + 1 = 0), bl_append, bl_bs]
      simp
    · rw [iLt_t (by omega), cond_true, WBb_eq, need_of (nCap_of (by omega)), bind_some']
      dsimp only
      rw [bind_some', WSb_eq, need_of (nCap_of (by rw [bs_size, sz_push]; omega)), bind_some', w64 (by omega), show (i : Int) + 1 = ((i + 1 : Nat) : Int) by omega, bT_l4 hl hr n (i + 1) f _ _ (by omega) (by omega) (by rw [sz_app, bs_size, sz_push]; omega)]
      refine congrArg (fun z => some (bs z)) ?_
      rw [decide_eq_false h0, decide_eq_false (by omega : ¬ i + 1 = 0), bl_append, bl_bs, bl_push]
      simp
theorem Text_eq {x : Nat} (hx : x < 18446744073709551616) : bits_Text (x : Int) = some (bs (txt x)) := by
  unfold bits_Text txt
  by_cases h : x = 0
  · rw [iEq_t (by omega), cond_true, if_pos h]; rfl
  · have h2 := bT_l4 (bt_le x) (fun v hv => bt_rng hv) (bt x).length 0 fuel false ByteArray.empty (by omega) (by have := bt_le x; have := fuel_big; omega) (by have := bt_le x; show 0 + _ ≤ _; omega)
    rw [iEq_f (by omega), cond_false, if_neg h, List_eq hx, bind_some']
    exact h2
theorem rT_l3 {l : List Int} (hl : l.length ≤ 64) (hr : ∀ v ∈ l, 0 ≤ v ∧ v < 64) : ∀ (n i f : Nat) (b : ByteArray), i + n = l.length → n < f → b.size + 4 * n ≤ 1000 → ref02_Text_l3 l f (b, (i : Int)) = some (cond (iEq (l.length : Int) 0) (bs [45]) (bs (bl b ++ tx (decide (i = 0)) (l.drop i))))
  | n, i, 0, b, hi, hf, hb => by omega
  | 0, i, f + 1, b, hi, hf, hb => by
    rw [ref02_Text_l3]
    dsimp only
    rw [iLt_f (by omega), cond_false, List.drop_of_length_le (by omega)]
    show cond _ (some (bs [45])) (some b) = some (cond _ (bs [45]) (bs (bl b ++ [])))
    rw [List.append_nil, bs_bl]
    cases iEq (l.length : Int) 0 <;> rfl
  | n + 1, i, f + 1, b, hi, hf, hb => by
    have hv := hr _ (gm (l := l) (i := i) (by omega))
    have hd := (dg_all hv).1
    rw [ref02_Text_l3]
    dsimp only
    have hin : nIn (i : Int) (l.length : Int) = true := nIn_of ⟨by omega, by omega⟩
    rw [iLt_t (by omega), cond_true, hin, Int.toNat_natCast, digits_dg hv, tx_at (by omega)]
    simp only [need_tt]
    by_cases h0 : i = 0
    · rw [iLt_f (by omega), cond_false, bind_some', need_of (nStr_of (by rw [bs_size]; omega)), w64 (by omega), show (i : Int) + 1 = ((i + 1 : Nat) : Int) by omega, rT_l3 hl hr n (i + 1) f _ (by omega) (by omega) (by rw [sz_app, bs_size]; omega)]
      refine congrArg (fun z => some (cond _ (bs [45]) (bs z))) ?_
      rw [decide_eq_true h0, decide_eq_false (by omega : ¬ i + 1 = 0), bl_append, bl_bs]
      simp
    · have e1 : (⟨#[44]⟩ : ByteArray) = bs [44] := rfl
      rw [iLt_t (by omega), cond_true, e1, need_of (nStr_of (by rw [bs_size]; show b.size + 1 ≤ _; omega)), bind_some', need_of (nStr_of (by rw [sz_app, bs_size, bs_size]; show b.size + 1 + _ ≤ _; omega)), w64 (by omega), show (i : Int) + 1 = ((i + 1 : Nat) : Int) by omega, rT_l3 hl hr n (i + 1) f _ (by omega) (by omega) (by rw [sz_app, sz_app, bs_size, bs_size]; show b.size + 1 + _ + _ ≤ _; omega)]
      refine congrArg (fun z => some (cond _ (bs [45]) (bs z))) ?_
      rw [decide_eq_false h0, decide_eq_false (by omega : ¬ i + 1 = 0), bl_append, bl_append, bl_bs, bl_bs]
      simp
theorem ref_Text2 {x : Nat} (hx : x < 18446744073709551616) : ref02_Text (x : Int) = some (bs (txt x)) := by
  have h2 := rT_l3 (bt_le x) (fun v hv => bt_rng hv) (bt x).length 0 fuel ByteArray.empty (by omega) (by have := bt_le x; have := fuel_big; omega) (by have := bt_le x; show 0 + _ ≤ _; omega)
  unfold ref02_Text
  rw [ref_List hx, bind_some']
  refine h2.trans ?_
  unfold txt
  by_cases h : x = 0
  · subst h
    rw [bt_zero]; rfl
  · have hn : bt x ≠ [] := fun e => h (bt_nil e hx)
    have : (bt x).length ≠ 0 := fun e => hn (List.eq_nil_of_length_eq_zero e)
    rw [iEq_f (by omega), cond_false, if_neg h]; rfl
/-! ### Parse -/
def okP (t : ByteArray) (r : Int × Bool) : Prop := (r.2 = true → ∃ x : Nat, x < 18446744073709551616 ∧ r.1 = x ∧ t = bs (txt x)) ∧ (r.2 = false → r.1 = 0)
theorem okP_no (t : ByteArray) : okP t (0, false) := ⟨fun h => Bool.noConfusion (show false = true from h), fun _ => rfl⟩
theorem okP_end (t : ByteArray) {x : Nat} (hx : x < 18446744073709551616) : ∃ r, cond (!sEq (bs (txt x)) t) (some ((0 : Int), false)) (some ((x : Int), true)) = some r ∧ okP t r := by
  cases h : sEq (bs (txt x)) t with
  | true => exact ⟨((x : Int), true), rfl, ⟨fun _ => ⟨x, hx, rfl, (sEq_iff.1 h).symm⟩, fun h => Bool.noConfusion (show true = false from h)⟩⟩
  | false => exact ⟨_, rfl, okP_no t⟩
theorem bP_l4 (t : ByteArray) (l : List ByteArray) (hl : l.length ≤ 1000) (hs : ∀ s ∈ l, s.size ≤ 1000) : ∀ (n i f x : Nat), i + n = l.length → n < f → x < 18446744073709551616 → ∃ r, bits_Parse_l4 t l f ((x : Int), (i : Int)) = some r ∧ okP t r
  | n, i, 0, x, hi, hf, hx => by omega
  | 0, i, f + 1, x, hi, hf, hx => by
    rw [bits_Parse_l4]
    dsimp only
    rw [iLt_f (by omega), cond_false, Text_eq hx, bind_some']
    exact okP_end t hx
  | n + 1, i, f + 1, x, hi, hf, hx => by
    have hm := hs _ (gm (l := l) (i := i) (by omega))
    rw [bits_Parse_l4]
    dsimp only
    rw [iLt_t (by omega), cond_true, need_of (nIn_of ⟨by omega, by omega⟩), Int.toNat_natCast]
    unfold strconv_Atoi
    rw [need_of (nAto_of (by omega)), bind_some']
    dsimp only
    cases (atoB (l.getD i default) || iLt 2 ((l.getD i default).size : Int)) with
    | true => exact ⟨_, rfl, okP_no t⟩
    | false =>
      rw [cond_false, SWith_eq hx, bind_some', w64 (by omega), show (i : Int) + 1 = ((i + 1 : Nat) : Int) by omega]
      exact bP_l4 t l hl hs n (i + 1) f _ (by omega) (by omega) (withN_lt hx _)
theorem spl_size (k : Nat) : ∀ (s : ByteArray) (m : Nat), s.size ≤ m → ∀ x ∈ Lib.splitB ⟨#[44]⟩ 0 k s, x.size ≤ m := by
  induction k with
  | zero => intro s m h x hx; rw [Lib.splitB_zero, List.mem_singleton] at hx; rw [hx]; exact h
  | succ k ih =>
    intro s m h x hx
    unfold Lib.splitB at hx
    split at hx
    · rw [List.mem_singleton] at hx; rw [hx]; exact h
    · rcases List.mem_cons.1 hx with rfl | hx
      · rw [ByteArray.size_extract]; omega
      · exact ih _ m (by rw [ByteArray.size_extract]; omega) x hx
theorem Split_eq {t : ByteArray} (h : t.size ≤ 300) : strings_Split t ⟨#[44]⟩ = some (splT t ⟨#[44]⟩) := by
  unfold strings_Split
  rw [need_of (nSpl_of ⟨by omega, by decide⟩)]
theorem bParse_ok {t : ByteArray} (h : t.size ≤ 300) : ∃ r, bits_Parse t = some r ∧ okP t r := by
  unfold bits_Parse
  cases h0 : sEq t ⟨#[45]⟩ with
  | true => exact ⟨((0 : Int), true), rfl, ⟨fun _ => ⟨0, by omega, rfl, sEq_iff.1 h0⟩, fun h => Bool.noConfusion (show true = false from h)⟩⟩
  | false =>
    have hl := spl_len t
    rw [cond_false, Split_eq h, bind_some']
    exact bP_l4 t (splT t ⟨#[44]⟩) (by omega) (fun s hs => spl_size _ t 1000 (by omega) s hs) (splT t ⟨#[44]⟩).length 0 fuel 0 (by omega) (by have := fuel_big; omega) (by omega)
theorem bP_back (t : ByteArray) (l : List Int) (hl : l.length ≤ 64) (hr : ∀ v ∈ l, 0 ≤ v ∧ v < 64) : ∀ (n i f x : Nat), i + n = l.length → n < f → x < 18446744073709551616 → t = bs (txt (ofN x (l.drop i))) → bits_Parse_l4 t ((l.map dg).map bs) f ((x : Int), (i : Int)) = some (((ofN x (l.drop i) : Nat) : Int), true)
  | n, i, 0, x, hi, hf, hx, ht => by omega
  | 0, i, f + 1, x, hi, hf, hx, ht => by
    rw [List.drop_of_length_le (by omega)] at ht ⊢
    rw [show ofN x [] = x from rfl] at ht ⊢
    rw [bits_Parse_l4]
    dsimp only
    rw [iLt_f (by simp; omega), cond_false, Text_eq hx, bind_some', ← ht, sEq_same]
    rfl
  | n + 1, i, f + 1, x, hi, hf, hx, ht => by
    have hv := hr _ (gm (l := l) (i := i) (by omega))
    obtain ⟨d1, d2, d3, d4⟩ := dg_all hv
    have hg : ((l.map dg).map bs).getD i default = bs (dg (l.getD i default)) := by
      rw [List.getD_eq_getElem?_getD, List.getD_eq_getElem?_getD, List.getElem?_map, List.getElem?_map, List.getElem?_eq_getElem (by omega)]
      rfl
    have hA : strconv_Atoi (bs (dg (l.getD i default))) = some (l.getD i default, false) := by
      unfold strconv_Atoi
      rw [need_of (nAto_of (by rw [bs_size]; omega))]
      unfold atoN atoB
      rw [show (bs (dg (l.getD i default))).data.toList = dg (l.getD i default) from rfl, d4]
    rw [drop_cons2 (l := l) (i := i) (by omega)] at ht ⊢
    rw [show ofN x (l.getD i default :: l.drop (i + 1)) = ofN (withN x (l.getD i default)) (l.drop (i + 1)) from rfl] at ht ⊢
    rw [bits_Parse_l4]
    dsimp only
    rw [iLt_t (by simp; omega), cond_true, need_of (nIn_of ⟨by omega, by simp; omega⟩), Int.toNat_natCast, hg, hA, bind_some']
    dsimp only
    rw [Bool.false_or, iLt_f (by rw [bs_size]; omega), cond_false, SWith_eq hx, bind_some', w64 (by omega), show (i : Int) + 1 = ((i + 1 : Nat) : Int) by omega]
    exact bP_back t l hl hr n (i + 1) f _ (by omega) (by omega) (withN_lt hx _) ht
theorem txt_pos {x : Nat} (hx : x < 18446744073709551616) (h : x ≠ 0) : ∃ a l, bt x = a :: l ∧ txt x = dg a ++ tl (l.map dg) ∧ (0 ≤ a ∧ a < 64) ∧ ∀ v ∈ l, 0 ≤ v ∧ v < 64 := by
  cases e : bt x with
  | nil => exact absurd (bt_nil e hx) h
  | cons a l =>
    refine ⟨a, l, rfl, ?_, bt_rng (by rw [e]; exact List.mem_cons_self ..), fun v hv => bt_rng (x := x) (by rw [e]; exact List.mem_cons_of_mem _ hv)⟩
    unfold txt
    rw [if_neg h, e, tx_cons]
theorem txt_len {x : Nat} : (txt x).length ≤ 300 := by
  unfold txt
  split
  · decide
  · have h1 := tx_len (bt x) true (fun v hv => bt_rng hv)
    have h2 := bt_le x
    omega
theorem bParse_back {x : Nat} (hx : x < 18446744073709551616) : bits_Parse (bs (txt x)) = some ((x : Int), true) := by
  unfold bits_Parse
  by_cases h : x = 0
  · subst h; rfl
  · obtain ⟨a, l, e, ht, ha, hr⟩ := txt_pos hx h
    have hne : sEq (bs (txt x)) ⟨#[45]⟩ = false := by
      cases hh : sEq (bs (txt x)) ⟨#[45]⟩ with
      | false => rfl
      | true =>
        have h1 : txt x = [45] := congrArg bl (sEq_iff.1 hh)
        rw [ht] at h1
        have h45 : (((45 : UInt8).toNat : Nat) : Int) = 45 := rfl
        rcases dg_two ha with ⟨c, hd, hc, _⟩ | ⟨c, d, hd, hc, _⟩
        · rw [hd] at h1
          injection h1 with h2 h3
          rw [h2] at hc
          omega
        · rw [hd] at h1
          injection h1 with h2 h3
          rw [h2] at hc
          omega
    rw [hne, cond_false, Split_eq (by rw [bs_size]; exact txt_len), bind_some']
    have hsp : splT (bs (txt x)) ⟨#[44]⟩ = ((bt x).map dg).map bs := by
      rw [ht, e, spl_eq _ _ (dg_all ha).2.2.1 (fun d hd => by
        obtain ⟨v, hv, rfl⟩ := List.mem_map.1 hd
        exact (dg_all (hr v hv)).2.2.1)]
      rfl
    rw [hsp]
    have h3 := bP_back (bs (txt x)) (bt x) (bt_le x) (fun v hv => bt_rng hv) (bt x).length 0 fuel 0 (by omega) (by have := bt_le x; have := fuel_big; omega) (by omega) (by rw [List.drop_zero, ofN_bt hx])
    rw [List.drop_zero, ofN_bt hx] at h3
    exact h3
/-! ### The document's -/
def scan : List UInt8 → Nat → Int → Int → Nat
  | [], s, n, m => cond (iLt 0 m) (withN s n) s
  | c :: l, s, n, m => cond ((iLe 48 (c.toNat : Int) && iLe (c.toNat : Int) 57) && iLt m 3) (scan l s (IntKind.i64.wrap ((IntKind.i64.wrap ((IntKind.i64.wrap ((10 : Int) * n)) + (IntKind.i64.wrap (c.toNat : Int)))) - 48)) (IntKind.i64.wrap (m + 1))) (scan l (cond (iLt 0 m) (withN s n) s) 0 0)
theorem rP_l2 (t : ByteArray) (ht : t.size ≤ 300) : ∀ (k i f s : Nat) (n m : Int), i + k = t.size → k + 1 < f → s < 18446744073709551616 → ∃ x : Nat, x < 18446744073709551616 ∧ x = scan ((bl t).drop i) s n m ∧ ref02_Parse_l2 t f ((s : Int), n, m, (i : Int)) = cond (!sEq (bs (txt x)) t) (some ((0 : Int), false)) (some ((x : Int), true))
  | k, i, 0, s, n, m, hi, hf, hs => by omega
  | 0, i, f + 1, s, n, m, hi, hf, hs => by
    match f, hf with
    | f + 1, _ =>
    have hd : (bl t).drop i = [] := List.drop_of_length_le (by rw [bl_len]; omega)
    have hend : ∀ (z : Nat) (n' m' : Int), z < 18446744073709551616 → ref02_Parse_l2 t (f + 1) ((z : Int), n', m', ((i + 1 : Nat) : Int)) = cond (!sEq (bs (txt z)) t) (some ((0 : Int), false)) (some ((z : Int), true)) := fun z n' m' hz => by
      rw [ref02_Parse_l2]
      dsimp only
      rw [iLe_f (by omega), cond_false, ref_Text2 hz, bind_some']
    rw [hd]
    rw [ref02_Parse_l2]
    dsimp only
    rw [iLe_t (by omega), cond_true, iLt_f (a := (i : Int)) (b := (t.size : Int)) (by omega)]
    simp only [Bool.false_and, Bool.not_false, Bool.true_or, need_tt, cond_false]
    rw [w64 (by omega), show (i : Int) + 1 = ((i + 1 : Nat) : Int) by omega, scan]
    cases iLt 0 m with
    | true =>
      rw [cond_true, ref_With hs, bind_some', cond_true]
      exact ⟨_, withN_lt hs n, rfl, hend _ 0 0 (withN_lt hs n)⟩
    | false =>
      rw [cond_false, cond_false]
      exact ⟨_, hs, rfl, hend _ 0 0 hs⟩
  | k + 1, i, f + 1, s, n, m, hi, hf, hs => by
    have hlt : i < (bl t).length := by rw [bl_len]; omega
    rw [List.drop_eq_getElem_cons hlt, ref02_Parse_l2]
    dsimp only
    rw [iLe_t (by omega), cond_true, iLt_t (show (i : Int) < (t.size : Int) by omega), Int.toNat_natCast, byteAt_bl t i (by omega)]
    rw [show nIn (i : Int) (t.size : Int) = true from nIn_of ⟨by omega, by omega⟩]
    simp only [Bool.true_and, Bool.or_true, need_tt]
    rw [w64 (a := (i : Int) + 1) (by omega), show (i : Int) + 1 = ((i + 1 : Nat) : Int) by omega, scan]
    cases ((iLe 48 (((bl t)[i]'hlt).toNat : Int) && iLe (((bl t)[i]'hlt).toNat : Int) 57) && iLt m 3) with
    | true =>
      rw [cond_true, cond_true]
      exact rP_l2 t ht k (i + 1) f s _ _ (by omega) (by omega) hs
    | false =>
      rw [cond_false, cond_false]
      cases iLt 0 m with
      | true =>
        rw [cond_true, ref_With hs, bind_some', cond_true]
        exact rP_l2 t ht k (i + 1) f _ 0 0 (by omega) (by omega) (withN_lt hs n)
      | false =>
        rw [cond_false, cond_false]
        exact rP_l2 t ht k (i + 1) f s 0 0 (by omega) (by omega) hs
theorem rParse {t : ByteArray} (h : t.size ≤ 300) : ∃ x : Nat, x < 18446744073709551616 ∧ x = scan (bl t) 0 0 0 ∧ ref02_Parse t = cond (!sEq (bs (txt x)) t) (some ((0 : Int), false)) (some ((x : Int), true)) :=
  rP_l2 t h t.size 0 fuel 0 0 0 (by omega) (by have := fuel_big; omega) (by omega)
theorem scan_dg {a : Int} (h : 0 ≤ a ∧ a < 64) (r : List UInt8) (s : Nat) : ∃ m : Int, 0 < m ∧ m < 3 ∧ scan (dg a ++ r) s 0 0 = scan r s a m := by
  rcases dg_two h with ⟨c, e, hc, h9⟩ | ⟨c, d, e, h1, h2, h3, h4, h5⟩
  · refine ⟨1, by omega, by omega, ?_⟩
    rw [e, List.cons_append, List.nil_append, scan, iLe_t (by omega), iLe_t (by omega), iLt_t (by omega), Bool.and_true, Bool.and_true, cond_true, w64 (a := 0 + 1) (by omega), w64 (a := (c.toNat : Int)) (by omega), w64 (a := 10 * 0) (by omega), w64 (a := 10 * 0 + (c.toNat : Int)) (by omega), w64 (by omega), show 10 * 0 + (c.toNat : Int) - 48 = a by omega]
    rfl
  · refine ⟨2, by omega, by omega, ?_⟩
    rw [e, List.cons_append, List.cons_append, List.nil_append, scan, iLe_t (by omega), iLe_t (by omega), iLt_t (by omega), Bool.and_true, Bool.and_true, cond_true, w64 (a := 0 + 1) (by omega), w64 (a := (c.toNat : Int)) (by omega), w64 (a := 10 * 0) (by omega), w64 (a := 10 * 0 + (c.toNat : Int)) (by omega), w64 (a := 10 * 0 + (c.toNat : Int) - 48) (by omega)]
    rw [scan, iLe_t (by omega), iLe_t (by omega), iLt_t (by omega), Bool.and_true, Bool.and_true, cond_true, w64 (a := 0 + 1 + 1) (by omega), w64 (a := (d.toNat : Int)) (by omega), w64 (a := 10 * (10 * 0 + (c.toNat : Int) - 48)) (by omega), w64 (a := 10 * (10 * 0 + (c.toNat : Int) - 48) + (d.toNat : Int)) (by omega), w64 (by omega), show 10 * (10 * 0 + (c.toNat : Int) - 48) + (d.toNat : Int) - 48 = a by omega]
    rfl
theorem scan_tl : ∀ (l : List Int) (s : Nat) (a m : Int), (∀ v ∈ l, 0 ≤ v ∧ v < 64) → 0 < m → scan (tl (l.map dg)) s a m = ofN (withN s a) l
  | [], s, a, m, h, hm => by
    rw [show tl (List.map dg []) = [] from rfl, scan, iLt_t hm]; rfl
  | b :: l, s, a, m, h, hm => by
    rw [show tl (List.map dg (b :: l)) = 44 :: (dg b ++ tl (l.map dg)) from rfl, scan, show iLe 48 (((44 : UInt8).toNat : Nat) : Int) = false from rfl, Bool.false_and, Bool.false_and, cond_false, iLt_t hm, cond_true]
    obtain ⟨m', h1, h2, h3⟩ := scan_dg (h b (List.mem_cons_self ..)) (tl (l.map dg)) (withN s a)
    rw [h3, scan_tl l _ b m' (fun v hv => h v (List.mem_cons_of_mem _ hv)) h1]
    rfl
theorem scan_txt {x : Nat} (hx : x < 18446744073709551616) : scan (txt x) 0 0 0 = x := by
  by_cases h : x = 0
  · subst h; rfl
  · obtain ⟨a, l, e, ht, ha, hr⟩ := txt_pos hx h
    obtain ⟨m', h1, h2, h3⟩ := scan_dg ha (tl (l.map dg)) 0
    rw [ht, h3, scan_tl l _ a m' hr h1]
    have := ofN_bt hx
    rw [e] at this
    exact this
theorem rParse_ok {t : ByteArray} (h : t.size ≤ 300) : ∃ r, ref02_Parse t = some r ∧ okP t r := by
  obtain ⟨x, hx, _, he⟩ := rParse h
  rw [he]
  exact okP_end t hx
theorem rParse_back {x : Nat} (hx : x < 18446744073709551616) : ref02_Parse (bs (txt x)) = some ((x : Int), true) := by
  obtain ⟨y, hy, e, he⟩ := rParse (t := bs (txt x)) (by rw [bs_size]; exact txt_len)
  rw [bl_bs, scan_txt hx] at e
  subst e
  rw [he, sEq_same]; rfl
theorem Parse_same {t : ByteArray} (h : t.size ≤ 300) : ∃ r, bits_Parse t = some r ∧ ref02_Parse t = some r := by
  obtain ⟨r1, e1, a1, b1⟩ := bParse_ok h
  obtain ⟨r2, e2, a2, b2⟩ := rParse_ok h
  cases h1 : r1.2 with
  | true =>
    obtain ⟨x, hx, _, ht⟩ := a1 h1
    exact ⟨_, by rw [ht]; exact bParse_back hx, by rw [ht]; exact rParse_back hx⟩
  | false =>
    cases h2 : r2.2 with
    | true =>
      obtain ⟨x, hx, _, ht⟩ := a2 h2
      exact ⟨_, by rw [ht]; exact bParse_back hx, by rw [ht]; exact rParse_back hx⟩
    | false =>
      refine ⟨r1, e1, ?_⟩
      rw [e2]
      refine congrArg some (Prod.ext ?_ ?_)
      · rw [b1 h1, b2 h2]
      · rw [h1, h2]
theorem BitsTexts_pure {s : Int} (hs : inU64 s) (t : ByteArray) : law02_BitsTexts s t = some true := by
  obtain ⟨x, rfl, hx⟩ : ∃ x : Nat, s = x ∧ x < 18446744073709551616 := ⟨s.toNat, by have := hs; unfold inU64 at this; omega, by have := hs; unfold inU64 at this; omega⟩
  have key : ∀ u : ByteArray, u.size ≤ 300 → ((bits_Parse u).bind fun (x10 : Int × Bool) => (ref02_Parse u).bind fun (x11 : Int × Bool) => (bits_Text (x : Int)).bind fun (x12 : ByteArray) => (bits_Parse x12).bind fun (x13 : Int × Bool) => (bits_Text (x : Int)).bind fun (x14 : ByteArray) => (ref02_Text (x : Int)).bind fun (x15 : ByteArray) => (cond (((((sEq x14 x15) && (iEq x10.1 x11.1)) && (x10.2 == x11.2)) && x13.2) && (iEq x13.1 (x : Int))) (law02_lives) (some default)).bind fun (x16 : Bool) => some ((((((sEq x14 x15) && (iEq x10.1 x11.1)) && (x10.2 == x11.2)) && x13.2) && (iEq x13.1 (x : Int))) && x16)) = some true := fun u hu => by
    obtain ⟨r, e1, e2⟩ := Parse_same hu
    rw [e1, bind_some', e2, bind_some', Text_eq hx, bind_some', bParse_back hx, bind_some', bind_some', ref_Text2 hx, bind_some']
    dsimp only
    rw [sEq_same, iEq_self, iEq_self, beq_self_eq_true, Bool.true_and, Bool.true_and, Bool.true_and, Bool.true_and, cond_true, lives02]
    rfl
  unfold law02_BitsTexts
  by_cases h : 300 < t.size
  · rw [iLt_t (by omega), cond_true, need_of (nTo_of ⟨by omega, by omega⟩)]
    exact key _ (by rw [ByteArray.size_extract]; show min 300 _ - 0 ≤ 300; omega)
  · rw [iLt_f (by omega), cond_false]
    exact key _ (by omega)
end LJ
