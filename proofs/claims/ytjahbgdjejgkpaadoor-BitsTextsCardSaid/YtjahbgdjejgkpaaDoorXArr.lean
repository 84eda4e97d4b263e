/- A logic for the walks: arrays by index: in data, in boxes, in rows of one's own. -/
import Derived.Test.YtjahbgdjejgkpaaDoorXIdx
namespace LJ
open Go Go.RowKit
set_option linter.unusedVariables false
set_option linter.unusedSimpArgs false

/-- An array with another element. -/
def aset {α : Type} [Inhabited α] (M : Nat) (S : List α) (j : Nat) (v : α) : List α := (List.range M).map fun i => cond (Nat.beq i j) v (S.getD i default)
theorem aset_getD {α : Type} [Inhabited α] (M : Nat) (S : List α) (j : Nat) (v : α) (k : Nat) (hk : k < M) : (aset M S j v).getD k default = if k = j then v else S.getD k default := by
  unfold aset
  rw [List.getD_eq_getElem?_getD, List.getElem?_map, List.getElem?_range hk]
  simp only [Option.map_some, Option.getD_some]
  by_cases h : k = j
  · subst h
    rw [if_pos rfl, Nat.beq_refl]
    rfl
  · rw [if_neg h]
    cases e : Nat.beq k j with
    | true => exact absurd (Nat.eq_of_beq_eq_true e) h
    | false => rfl
theorem arr_get {β : Type} {l : List β} {q M : Nat} {h : Nat → β} (hA : (l.drop q).take M = (List.range M).map h) (k : Nat) (hk : k < M) : l[q + k]? = some (h k) := by
  have : ((l.drop q).take M)[k]? = some (h k) := by rw [hA, List.getElem?_map, List.getElem?_range hk]; rfl
  rwa [List.getElem?_take, if_pos hk, List.getElem?_drop] at this
theorem arr_set {β : Type} {l l' : List β} {q M j : Nat} {v : β} {h h' : Nat → β} (hA : (l.drop q).take M = (List.range M).map h) (hB : l' = l.take q ++ (List.range M).map h' ++ l.drop (q + M)) (hv : ∀ k, k < M → h' k = if k = j then v else h k) (hj : j < M) : l.set (q + j) v = l' := by
  have hlen : q + M ≤ l.length := by
    have := congrArg List.length hA
    simp only [List.length_take, List.length_drop, List.length_map, List.length_range] at this
    omega
  subst hB
  refine List.ext_getElem? fun k => ?_
  have tl : (l.take q).length = q := by rw [List.length_take]; omega
  have tl2 : (l.take q ++ (List.range M).map h').length = q + M := by rw [List.length_append, tl, List.length_map, List.length_range]
  by_cases h1 : k < q
  · rw [List.getElem?_set_ne (by omega), List.append_assoc, List.getElem?_append_left (by omega), List.getElem?_take, if_pos h1]
  · by_cases h2 : k < q + M
    · obtain ⟨i, rfl⟩ : ∃ i, k = q + i := ⟨k - q, by omega⟩
      rw [List.append_assoc, List.getElem?_append_right (by omega), tl, List.getElem?_append_left (by rw [List.length_map, List.length_range]; omega), Nat.add_sub_cancel_left, List.getElem?_map, List.getElem?_range (by omega)]
      simp only [Option.map_some]
      rw [hv i (by omega)]
      by_cases h3 : i = j
      · subst h3
        rw [if_pos rfl, List.getElem?_set_self (by omega)]
      · rw [if_neg h3, List.getElem?_set_ne (by omega), arr_get hA i (by omega)]
    · rw [List.getElem?_append_right (by omega), tl2, List.getElem?_drop, List.getElem?_set_ne (by omega)]
      congr 1
      omega

section
variable {P : Program} {c : Ctx} {o : Oper} {E E' : Env} {m m' : Mem} {ops : Array Oper} {Q : Exit → Env → Mem → Prop} {l : List Oper}
/-- The type of an array of M elements, of a cell each. -/
def arrB (P : Program) (T : TypeId) (M : Nat) : Bool :=
  match P.underlying T with
  | some (.array n e) => Nat.beq n M && Nat.blt 1 M && sizeB P e 1
  | _ => false
theorem arrB_ok {T : TypeId} {M : Nat} (h : arrB P T M = true) : ∃ e i, P.underlying T = some (.array M e) ∧ 1 < M ∧ P.info? e = some i ∧ i.size = 1 := by
  unfold arrB at h
  split at h
  · rename_i n e hT
    simp only [Bool.and_eq_true] at h
    obtain ⟨⟨h1, h2⟩, h3⟩ := h
    have := Nat.eq_of_beq_eq_true h1
    subst this
    unfold sizeB at h3
    split at h3
    · rename_i i hi
      exact ⟨e, i, hT, Nat.le_of_ble_eq_true h2, hi, Nat.eq_of_beq_eq_true h3⟩
    · cases h3
  · cases h
theorem run_indexArr {T : TypeId} {M : Nat} (hT : arrB P T M = true) (a : Addr) (k : IntKind) (i : Int) (hi : 0 ≤ i ∧ i < M) (w : World) : (Instr.indexAt T (.pointer (some a)) (.int k i)).run P w = .ok (.pointer (some (a.add i.toNat))) w := by
  obtain ⟨e, inf, h1, h2, h3, h4⟩ := arrB_ok hT
  simp [Instr.indexAt, asIntOf, run_underlying h1, Instr.sureAddr, hi, sizeOf_run h3, h4]
theorem Y.idxElpA (M : Nat) (h : Nat → DV) (i : Int) {cs : List DV} {x y : Operand} {k : IntKind} {T : TypeId} (hT : arrB P T M = true) (hx : opnd E x = some (.d (.elp cs))) (hy : opnd E y = some (.d (.int k i))) (ho : o.op = .indexAddr T x y) (hA : cs.take M = (List.range M).map h) (hi : 0 ≤ i ∧ i < M) : LJ.Yields P o E m (.d (.elp [h i.toNat])) := fun c F N w a hm he => by
  obtain ⟨ad, u, hv, hs, hF, h1, h2⟩ := ((opnd_ok hx) F N w a he).d_inv.elp_inv
  have hvy := (opnd_ok hy).int_eval he
  have hg := arr_get (l := cs) (q := 0) (by rw [List.drop_zero]; exact hA) i.toNat (by omega)
  rw [Nat.zero_add] at hg
  refine ⟨.pointer (some (ad.add i.toNat)), .d (.elp (fun j => u (i.toNat + j)) (by rw [add_spot hs]) (by rw [add_spot hs]; exact hF) (fun j d hj => ?_) (fun j d hj => ?_)), fun w' _ _ => by unfold execOp; simp [ho, hv, hvy, run_indexArr hT ad k i hi]⟩
  · have : j = 0 ∧ h i.toNat = d := by
      cases j with
      | zero => simpa using hj
      | succ j => simp at hj
    obtain ⟨rfl, rfl⟩ := this
    rw [add_spot hs]
    simpa [Nat.add_assoc] using h1 i.toNat _ hg
  · have : j = 0 ∧ h i.toNat = d := by
      cases j with
      | zero => simpa using hj
      | succ j => simp at hj
    obtain ⟨rfl, rfl⟩ := this
    exact h2 i.toNat _ hg
theorem Y.idxPtrA (M : Nat) (i : Int) {x y : Operand} {k : IntKind} {T n off : Nat} (hT : arrB P T M = true) (hx : opnd E x = some (.ptr n off)) (hy : opnd E y = some (.d (.int k i))) (ho : o.op = .indexAddr T x y) (hi : 0 ≤ i ∧ i < M) : LJ.Yields P o E m (.ptr n (off + i.toNat)) := fun c F N w a hm he =>
  ⟨_, .ptr, fun w' _ _ => by unfold execOp; simp [ho, (opnd_ok hx).ptr_eval he, (opnd_ok hy).int_eval he, run_indexArr hT _ k i hi, Addr.add_lit]⟩
theorem Y.idxRelA (M : Nat) (i : Int) {x y : Operand} {k : IntKind} {T n off : Nat} (hT : arrB P T M = true) (hx : opnd E x = some (.rel n off)) (hy : opnd E y = some (.d (.int k i))) (ho : o.op = .indexAddr T x y) (hi : 0 ≤ i ∧ i < M) : LJ.Yields P o E m (.rel n (off + i.toNat)) := fun c F N w a hm he => by
  have hr := (opnd_ok hx) F N w a he
  generalize hv : a.eval x = v at hr
  cases hr with
  | rel hg => exact ⟨_, .rel hg, fun w' _ _ => by unfold execOp; simp [ho, hv, (opnd_ok hy).int_eval he, run_indexArr hT _ k i hi, Addr.add_lit]⟩
theorem Y.loadPtrA (M off : Nat) (h : Nat → DV) (i : Int) {x : Operand} {T T' n : Nat} {cs : List AV} (hx : opnd E x = some (.ptr n (off + i.toNat))) (hn : m.get n = some (.box T' cs)) (ho : o.op = .load T x) (hT : oneB P T = true) (hA : (cs.drop off).take M = (List.range M).map (fun k => AV.d (h k))) (hi : 0 ≤ i ∧ i < M) : LJ.Yields P o E m (.d (h i.toNat)) :=
  Y.load (opnd_ok hx) hn (arr_get hA i.toNat (by omega)) ho hT
theorem WO.storePtrA {α : Type} [Inhabited α] (M off : Nat) (mk : α → DV) (S : List α) (v : α) (i : Int) {x y : Operand} {T T' n : Nat} {cs cs' : List AV} (hx : opnd E x = some (.ptr n (off + i.toNat))) (hn : m.get n = some (.box T' cs)) (hy : opnd E y = some (.d (mk v))) (hfl : DV.flatB (mk v) = true) (ho : o.op = .store T x y) (hsz : sizeB P T 1 = true) (hA : (cs.drop off).take M = (List.range M).map (fun k => AV.d (mk (S.getD k default)))) (hB : cs' = cs.take off ++ (List.range M).map (fun k => AV.d (mk ((aset M S i.toNat v).getD k default))) ++ cs.drop (off + M)) (hi : 0 ≤ i ∧ i < M) (hK : inl c.KN n = false) (hd : o.dst = none) (hs : m.set n (.box T' cs') = m') : WO c P o E m E m' := by
  subst hs
  have hlen : off + M ≤ cs.length := by
    have := congrArg List.length hA
    simp only [List.length_take, List.length_drop, List.length_map, List.length_range] at this
    omega
  have hset : spliceL cs (off + i.toNat) [AV.d (mk v)] = cs' := by
    rw [← arr_set (v := AV.d (mk v)) (j := i.toNat) hA hB (fun k hk => by
      rw [aset_getD M S _ v k hk]
      by_cases h : k = i.toNat
      · rw [if_pos h, if_pos h]
      · rw [if_neg h, if_neg h]) (by omega)]
    rw [List.set_eq_take_append_cons_drop, if_pos (by omega)]
    simp [spliceL]
  have hcells : AV.cells (.d (mk v)) = some [.d (mk v)] := by
    cases hm : mk v <;> first | rfl | (rw [hm] at hfl; cases hfl)
  have hfb : flatB (.d (mk v)) = true := by
    cases hm : mk v <;> first | rfl | (rw [hm] at hfl; cases hfl)
  have := WO.store (c := c) (opnd_ok hx) hn (opnd_ok hy) (by trivial) hcells hfb hsz (Nat.ble_eq_true_of_le (by simp only [List.length_singleton]; omega)) ho hK hd
  rwa [hset] at this
theorem Y.loadRelA {α : Type} [Inhabited α] (enc : α → List DV) (L : List α) (M q : Nat) (h : Nat → DV) (i j : Int) {x : Operand} {T e sz r : Nat} (hx : opnd E x = some (.rel r (i.toNat * sz + q + j.toNat))) (hn : m.get r = some (.row e sz (L.map enc))) (hz : ∀ x, (enc x).length = sz) (ho : o.op = .load T x) (hT : oneB P T = true) (hA : ((enc (L.getD i.toNat default)).drop q).take M = (List.range M).map h) (hj : 0 ≤ j ∧ j < M) (hi : 0 ≤ i ∧ i < L.length) : LJ.Yields P o E m (.d (h j.toNat)) :=
  Y.loadRel enc L i (q + j.toNat) (by rw [hx, Nat.add_assoc]) hn hz ho hT (arr_get hA j.toNat (by omega)) hi
theorem WO.storeRelA {α β : Type} [Inhabited α] [Inhabited β] (enc : α → List DV) (L : List α) (M q : Nat) (mk : β → DV) (S : List β) (v : β) (x' : α) (i j : Int) {x y : Operand} {T e sz r : Nat} (hx : opnd E x = some (.rel r (i.toNat * sz + q + j.toNat))) (hn : m.get r = some (.row e sz (L.map enc))) (hy : opnd E y = some (.d (mk v))) (hfl : DV.flatB (mk v) = true) (hz : ∀ x, (enc x).length = sz) (ho : o.op = .store T x y) (hsz : sizeB P T 1 = true) (hq : Nat.ble (q + M) sz = true) (hA : ((enc (L.getD i.toNat default)).drop q).take M = (List.range M).map (fun k => mk (S.getD k default))) (hB : enc x' = (enc (L.getD i.toNat default)).take q ++ (List.range M).map (fun k => mk ((aset M S j.toNat v).getD k default)) ++ (enc (L.getD i.toNat default)).drop (q + M)) (hj : 0 ≤ j ∧ j < M) (hi : 0 ≤ i ∧ i < L.length) (hK : inl c.KN r = false) (hd : o.dst = none) (hs : setRow r ((L.set i.toNat x').map enc) m = some m') : WO c P o E m E m' :=
  WO.storeRel enc L i (q + j.toNat) x' (mk v) (by rw [hx, Nat.add_assoc]) hn hy hfl hz ho hsz (Nat.ble_eq_true_of_le (by have := Nat.le_of_ble_eq_true hq; omega)) (arr_set hA hB (fun k hk => by
    rw [aset_getD M S _ v k hk]
    by_cases h : k = j.toNat
    · rw [if_pos h, if_pos h]
    · rw [if_neg h, if_neg h]) (by omega)) hi hK hd hs
/-- An effect whose rule is at hand. -/
theorem WL.wo (h : WO c P o E m E' m') (hg : o.guard = none) (hk : WL c P ops Q l E' m') : WL c P ops Q (o :: l) E m := WL.step h hg hk
theorem WL.gwo {j g : Nat} {want : Bool} {x : Oper} (h : WO c P o E m E' m') (hg : o.guard = some (j, want)) (hj : ops[j]? = some x) (hx : x.dst = some g) (hb : E.get g = .d (.bool want)) (hk : WL c P ops Q l E' m') : WL c P ops Q (o :: l) E m := WL.gstep h hg hj hx hb hk
end
theorem WC.known {P : Program} {c : Ctx} {Q : Exit → Env → Mem → Prop} {C : Code} {E : Env} {m : Mem} {g : Nat} {b : Bool} (v : Bool) (hb : E.get g = .d (.bool b)) (h : b = v) (hk : WC c P C Q ((g, .d (.bool v)) :: E) m) : WC c P C Q E m := fun a w hr =>
  hk a w (hr.weak1 fun F N w v' h' => by rw [hb, h] at h'; exact h')
theorem WH.gyv {P : Program} {c c0 : Ctx} {s : Stay} {ops : Array Oper} {Q : Exit → Env → Mem → Prop} {EK E : Env} {m : Mem} {sch : Sch} {o : Oper} {i d j q : Nat} {want : Bool} {x : Oper} {p : AV} (hi : nth ops.toList i = some o) (hy : LJ.Yields P o EK s.m p) (hd : o.dst = some d) (hg : o.guard = some (j, want)) (hj : nth ops.toList j = some x) (hx : x.dst = some q) (hq : EK.get q = .d (.bool want)) (hlt : okQ c.ntmps E d = true) (hk : WH true c0 c s P ops Q sch ((d, p) :: EK) E m) : WH true c0 c s P ops Q (.one i true sch) EK E m := by
  rw [nth_eq, Array.getElem?_toList] at hi hj
  have := WHQ.take (c0 := c0) (c := c) (P := P) (Q := Q) (m := m) (rest := sch) (p := p) (l := []) hd hlt (fun a hek hs => by
    obtain ⟨v, hv, hrun⟩ := quiet_yields hy hek hs
    have hbv : a.tmps.getD q undef = .bool want := by
      have := hek q
      rw [hq] at this
      exact this.d_inv.bool_inv
    exact ⟨v, hv, .inl ⟨by rw [wanted_of hg hj hx hbv]; simp, hrun⟩⟩) (fun is his => by
      cases is with
      | nil => exact hk
      | cons i is => cases his)
  exact this [i] (by simp [hi])
/-- What is handed in says no less than the contract asks. -/
def ArgsLe : List AV → List AV → Prop
  | [], [] => True
  | p :: ps, q :: qs => AVle p q ∧ ArgsLe ps qs
  | _, _ => False
theorem ArgsLe.len : ∀ {l l' : List AV}, ArgsLe l l' → l.length = l'.length
  | [], [], _ => rfl
  | p :: ps, q :: qs, h => by simp [ArgsLe.len h.2]
  | [], _ :: _, h => h.elim
  | _ :: _, [], h => h.elim
theorem ArgsLe.get : ∀ {l l' : List AV}, ArgsLe l l' → ∀ (i : Nat) (q : AV), l'[i]? = some q → ∃ p, l[i]? = some p ∧ AVle p q
  | p :: ps, q :: qs, h, 0, q', hq => by
    simp only [List.getElem?_cons_zero, Option.some.injEq] at hq
    subst hq
    exact ⟨p, rfl, h.1⟩
  | p :: ps, q :: qs, h, i + 1, q', hq => ArgsLe.get h.2 i q' (by simpa using hq)
  | [], [], h, i, q', hq => by simp at hq
  | [], _ :: _, h, _, _, _ => h.elim
  | _ :: _, [], h, _, _, _ => h.elim
theorem Spec.le {P : Program} {f : FuncId} {args args' : List AV} {m0 m1 : Mem} {out : AV} (hl : ArgsLe args' args) (h : Spec P f args m0 out m1) : Spec P f args' m0 out m1 := fun F N w vals hm hlen hv =>
  h F N w vals hm (by rw [hlen, hl.len]) (fun i v q h1 h2 => by
    obtain ⟨p, hp, hle⟩ := hl.get i q h2
    exact hle F N w v (hv i v p h1 hp))
end LJ
