/- A logic for the walks: a row of one's own that begins anywhere in its block (q = q[1:]; append(q, x)). -/
import Derived.Test.YthgjdnknjofdjaaDoorXRsl
import Derived.Test.YthgjdnknjofdjaaDoorXByt
namespace LJ
open Go Go.RowKit
set_option linter.unusedVariables false
set_option linter.unusedSimpArgs false
section
variable {P : Program} {c c0 : Ctx} {s : Stay} {ops : Array Oper} {Q : Exit → Env → Mem → Prop} {EK EK2 E E' E2 : Env} {m m' : Mem} {o : Oper} {l : List Oper} {sch : Sch} {C : Code}

theorem Rel.toQue {a : Act} {w : World} {r : Nat} {e : TypeId} {sz : Nat} {es : List (List DV)} (hr : m.get r = some (.row e sz es)) (h0 : Nat.blt 0 es.length = true) (hK : inl c.KN r = false) (h : Rel c E m a w) : Rel c E (m.set r (.que e sz es)) a w := by
 obtain ⟨h1, h2, F, N, hm, he⟩ := h
 refine ⟨h1, h2, F, N, hm.write hr hK rfl rfl rfl (Nat.le_refl _) (fun _ _ _ => rfl) ?_ rfl, he⟩
 obtain ⟨vs, ⟨k0, k1⟩, k2, k3⟩ := hm.obj r _ hr
 refine ⟨vs, ⟨k0, ?_⟩, k2, k3⟩
 rcases k1 with ⟨_, k1⟩ | ⟨g, cap, cur, g1, _, g3, g4, g5, g6, g7⟩
 ·rw [k1] at h0; cases h0
 ·exact ⟨g, 0, cap, cur, g1, g3, g4, g5, by omega, by rw [List.drop_zero]; exact g7⟩
theorem WC.toQue (r : Nat) {e : TypeId} {sz : Nat} {es : List (List DV)} (hr : m.get r = some (.row e sz es)) (h0 : Nat.blt 0 es.length = true) (hK : inl c.KN r = false) (h1 : m.set r (.que e sz es) = m') (h : WC c P C Q E m') : WC c P C Q E m := fun a w hrel => h a w (h1 ▸ hrel.toQue hr h0 hK)

theorem que_cell {F : Nat → Prop} {N : Names} {w : World} {n g o ln cp i : Nat} {e : TypeId} {es : List (List DV)} (h : Holds F N w n (.que e 1 es)) (hg : N.σ n = .slice (some ⟨g, o, none⟩) ln cp) {d : DV} (hd : es.flatten[i]? = some d) : ∃ v, w.cell? ⟨g, o + i, none⟩ = some v ∧ RepD F w v d := by
 obtain ⟨vs, ⟨hl, g', o', cap, cur, h2, h4, h5, h6, h7, h8⟩, hz, hr⟩ := h
 rw [hg] at h2
 injection h2 with h2 _ _
 injection h2 with h2
 injection h2 with h2 h3 _
 subst h2 h3
 have hlt : i < es.flatten.length := (List.getElem?_eq_some_iff.1 hd).1
 rw [flatten_len es 1 hz] at hlt
 obtain ⟨v, hv⟩ : ∃ v, vs[i]? = some v := ⟨vs[i], List.getElem?_eq_getElem (by omega)⟩
 refine ⟨v, ?_, hr i _ d hv hd⟩
 rw [← h8, List.getElem?_take, if_pos (by omega), List.getElem?_drop] at hv
 simp [World.cell?, h4]
 simpa using hv
theorem Y.idxQ {α : Type} [Inhabited α] (enc : α → List DV) (L : List α) (i : Int) {x y : Operand} {k : IntKind} {T e r : Nat} {tt : List (Nat × TK)} (htt : ttOK P tt = true) (hT : ttGet tt T = some (.slice e 1)) (hx : opnd E x = some (.own r)) (hn : m.get r = some (.que e 1 (L.map enc))) (hy : opnd E y = some (.d (.int k i))) (ho : o.op = .indexAddr T x y) (hi : 0 ≤ i ∧ i < (L.length : Int)) : LJ.Yields P o E m (.qel r i.toNat) := fun c F N w a hm he => by
 obtain ⟨ti, g1, g2, g3⟩ := elemOf_spec (TK.slice_ok (ttGet_ok htt hT))
 obtain ⟨vs, ⟨_, g, ofs, cap, cur, h2, _⟩, _⟩ := hm.obj r _ hn
 have hy' := (opnd_ok hy).int_eval he
 rw [List.length_map] at h2
 refine ⟨.pointer (some ⟨g, ofs + i.toNat, none⟩), .qel h2, fun w' _ _ => ?_⟩
 unfold execOp; simp [ho, (opnd_ok hx).own_eval he, h2, hy', Instr.indexAt, run_underlying g1, asIntOf, hi.1, hi.2, sizeOf_run g2, g3, Addr.add_lit]
theorem Y.loadQ {α : Type} [Inhabited α] (enc : α → List DV) (L : List α) (i : Int) {x : Operand} {T e r : Nat} {d : DV} (hx : opnd E x = some (.qel r i.toNat)) (hn : m.get r = some (.que e 1 (L.map enc))) (hz : ∀ x, (enc x).length = 1) (ho : o.op = .load T x) (hT : oneB P T = true) (hd : (enc (L.getD i.toNat default))[0]? = some d) (hi : 0 ≤ i ∧ i < (L.length : Int)) : LJ.Yields P o E m (.d d) := fun c F N w a hm he => by
 have hr := (opnd_ok hx) F N w a he
 have hc : (L.map enc).flatten[i.toNat]? = some d := by
  have := flatten_get (L.map enc) 1 i.toNat 0 _ d (fun e he => by
   obtain ⟨x, _, rfl⟩ := List.mem_map.1 he
   exact hz x) (map_getD enc L i.toNat (by omega)) hd
  simpa using this
 generalize hv : a.eval x = v at hr
 cases hr with
 | @qel _ _ g ofs ln cp hg =>
  obtain ⟨v, h1, h2⟩ := que_cell (hm.obj r _ hn) hg hc
  refine ⟨v, .d h2, fun w' _ hw => ?_⟩
  have hv' : w'.cell? ⟨g, ofs + i.toNat, none⟩ = some v := (cell_of_block (hw r _ _ hn (by show (N.σ r).ownBlock = some g; rw [hg]; rfl))).trans h1
  unfold execOp; simp [ho, hv, Instr.loadAt, Instr.sureAddr, run_loadVar_one hT hv']

theorem WO.tailQ {α : Type} [Inhabited α] (enc : α → List DV) (L : List α) (i : Int) {x lo : Operand} {T e r d : Nat} {k : IntKind} {tt : List (Nat × TK)} (htt : ttOK P tt = true) (hT : ttGet tt T = some (.slice e 1)) (hx : opnd E x = some (.own r)) (hr : m.get r = some (.que e 1 (L.map enc))) (hl : opnd E lo = some (.d (.int k i))) (ho : o.op = .slice T x (some lo) none none) (hi : 0 ≤ i ∧ i ≤ (L.length : Int) ∧ (L.length : Int) ≤ (L.length : Int))
  (hP : inl c.P0 r = false) (hK : inl c.KN r = false) (hd : o.dst = some d) (hlt : Nat.blt d c.ntmps = true) : WO c P o E m ((d, .own r) :: E.forget [r]) ((r, .que e 1 ((L.drop i.toNat).map enc)) :: m.forget [r]) := fun Q K a w hrel h => by
 obtain ⟨h1, h2, F, N, hm, hE⟩ := hrel
 obtain ⟨ti, hT1, hti, hts⟩ := elemOf_spec (TK.slice_ok (ttGet_ok htt hT))
 have hvx := (opnd_ok hx).own_eval hE
 have hvl := (opnd_ok hl).int_eval hE
 obtain ⟨vs, ⟨k0, g, ofs, cap, cur, g1, g2, g3, g4, g5, g6⟩, k2, k3⟩ := hm.obj r _ hr
 rw [List.length_map] at k0 g1 g3 g6
 have hrun : (execOp a.eval o).run P w = .ok (.value (.slice (some (if cap = i.toNat then ⟨g, ofs, none⟩ else ⟨g, ofs + i.toNat, none⟩)) (L.length - i.toNat) (cap - i.toNat))) w := by
  unfold execOp
  have hi2 : i ≤ (L.length : Int) := hi.2.1
  simp [ho, hvx, hvl, g1, Instr.sliceAt, Instr.slice, Instr.sliceBounds, Instr.sliceBound, asIntOf, run_underlying hT1, sizeOf_run hti, hts, hi.1, hi2, Addr.add_lit]
  split <;> simp
 unfold Oper.wp
 rw [hrun, Oper.upon_value]
 refine h _ _ _ rfl ?_
 rw [hd]
 generalize hv' : (Value.slice (some (if cap = i.toNat then (⟨g, ofs, none⟩ : Addr) else ⟨g, ofs + i.toNat, none⟩)) (L.length - i.toNat) (cap - i.toNat)) = v'
 have hσ : (N.setσ r v').σ r = v' := by simp [Names.setσ]
 have hq : ∃ o', v' = .slice (some ⟨g, o', none⟩) (L.length - i.toNat) (cap - i.toNat) ∧ o' + (cap - i.toNat) * 1 ≤ cur.size ∧ (L.length - i.toNat ≠ 0 → o' = ofs + i.toNat) := by
  by_cases hc : cap = i.toNat
  ·exact ⟨ofs, by rw [← hv', if_pos hc], by omega, fun h => by omega⟩
  ·exact ⟨ofs + i.toNat, by rw [← hv', if_neg hc], by omega, fun _ => rfl⟩
 obtain ⟨o', e1, e2, e3⟩ := hq
 have hlen : ((L.drop i.toNat).map enc).length = L.length - i.toNat := by rw [List.length_map, List.length_drop]
 refine Rel.put h1 h2 (hm.renew (o' := .que e 1 ((L.drop i.toNat).map enc)) (N.setσ_but r v') hP hK rfl rfl rfl (Nat.le_refl _) (fun _ _ _ => rfl) ⟨(vs.drop i.toNat), ⟨?_, g, o', cap - i.toNat, cur, ?_, g2, ?_, by omega, e2, ?_⟩, ?_, ?_⟩ (fun b hb => .inl ⟨_, hr, ?_⟩)) (hE.forget (N.setσ_but r v') (fun _ _ => rfl)) hlt (own_of hσ)
 ·rw [List.length_drop, k0, hlen]; omega
 ·rw [hσ, hlen]; exact e1
 ·rw [hlen]; omega
 ·rw [hlen, ← g6]
  by_cases h0 : L.length - i.toNat = 0
  ·rw [h0, Nat.zero_mul, List.take_zero, List.drop_eq_nil_of_le]
   rw [List.length_take]; omega
  ·rw [e3 h0, List.drop_take, List.drop_drop]
   congr 1
   omega
 ·intro y hy
  refine k2 y ?_
  rw [List.map_drop] at hy
  exact List.mem_of_mem_drop hy
 ·intro j v x' hv hx'
  refine k3 (i.toNat + j) v x' (by rw [List.getElem?_drop] at hv; exact hv) ?_
  have hz : ∀ y ∈ L.map enc, y.length = 1 := k2
  have : ((L.drop i.toNat).map enc).flatten = (L.map enc).flatten.drop i.toNat := by
   have h3 : L.map enc = (L.take i.toNat).map enc ++ (L.drop i.toNat).map enc := by rw [← List.map_append, List.take_append_drop]
   have h4 : ((L.take i.toNat).map enc).flatten.length = i.toNat := by
    rw [flatten_len _ 1 (fun y hy => hz y (by rw [h3]; exact List.mem_append_left _ hy)), List.length_map, List.length_take]
    omega
   conv => rhs; rw [h3]
   rw [List.flatten_append]
   exact (List.drop_left' h4).symm
  rw [this, List.getElem?_drop] at hx'
  exact hx'
 ·have hb' : ((N.setσ r v').σ r).ownBlock = some b := hb
  rw [hσ, e1] at hb'
  show (N.σ r).ownBlock = some b
  rw [g1]
  exact hb'
def eQue (P0 KN : List Nat) (r e : Nat) (es : List (List DV)) (E : Env) (m : Mem) (d : Nat) : Option (Env × Mem) :=
 match okN P0 KN r with
 | false => none
 | true => match fgtE [r] E, fgtM [r] m with
  | some E', some m' => some ((d, .own r) :: E', (r, .que e 1 es) :: m')
  | _, _ => none
theorem WL.tailQ {α : Type} [Inhabited α] (enc : α → List DV) (L : List α) (i : Int) {x lo : Operand} {T e r d : Nat} {k : IntKind} {tt : List (Nat × TK)} (htt : ttOK P tt = true) (hT : ttGet tt T = some (.slice e 1)) (hx : opnd E x = some (.own r)) (hr : m.get r = some (.que e 1 (L.map enc))) (hl : opnd E lo = some (.d (.int k i))) (ho : o.op = .slice T x (some lo) none none) (hi : 0 ≤ i ∧ i ≤ (L.length : Int) ∧ (L.length : Int) ≤ (L.length : Int))
  (hd : o.dst = some d) (hlt : Nat.blt d c.ntmps = true) (hF : eQue c.P0 c.KN r e ((L.drop i.toNat).map enc) E m d = some (E', m')) (hg : o.guard = none) (hk : WL c P ops Q l E' m') : WL c P ops Q (o :: l) E m := by
 unfold eQue at hF
 split at hF
 ·cases hF
 ·rename_i hn
  obtain ⟨g1, g2⟩ := okN_ok hn
  split at hF
  ·rename_i E1 m1 h2 h3
   simp only [Option.some.injEq, Prod.mk.injEq] at hF
   obtain ⟨rfl, rfl⟩ := hF
   rw [fgtE_eq h2, fgtM_eq h3] at hk
   exact WL.step (WO.tailQ enc L i htt hT hx hr hl ho hi g1 g2 hd hlt) hg hk
  ·cases hF

theorem run_append_roomQ (w : World) {t ty e : TypeId} {i : TypeInfo} (ht : P.underlying t = some (.slice e)) (hi : P.info? e = some i) (h1 : i.size = 1) {g ofs n cap : Nat} {cur : Array Value} (hg : w.heap[g]? = some (.cells cur e (0, 0)))
  {a : Addr} {k cp : Nat} {news : List Value} (hl : news.length = k) (hnews : ∀ j u, news[j]? = some u → w.cell? (a.add j) = some u) (hone : ∀ u ∈ news, u.oneCell' = true) (hroom : n + k ≤ cap) (hfit : ofs + n + k ≤ cur.size) :
  (Builtin.append_ #[t, t] ty #[.slice (some ⟨g, ofs, none⟩) n cap, .slice (some a) k cp]).run P w = .ok (.slice (some ⟨g, ofs, none⟩) (n + k) cap) (w.setRow g (cur.toList.take (ofs + n) ++ news ++ cur.toList.drop (ofs + n + k)).toArray) := by
 have hf := run_firstCells_some (P := P) w i.size k a k cp news (by rw [h1, hl, Nat.mul_one]) hnews
 have hst := run_storeCells_at P g (ofs + n) e news 0 cur w hg (by omega) hone
 simp only [Nat.add_zero, hl] at hst
 rw [h1] at hf
 simp [Builtin.append_, run_underlying ht, sizeOf_run hi, h1, Builtin.lenOf, hroom, hf, Addr.add_lit, hst]
theorem run_append_que (w : World) {t ty e : TypeId} {i : TypeInfo} {z : Value} (ht : P.underlying t = some (.slice e)) (hi : P.info? e = some i) (hz : i.zero = some z) (h1 : i.size = 1) (hzs : z.cells.size = 1) {v : Value} {n : Nat} {xs : List Value} (hown : ownsQ w e 1 v n xs)
  {a : Addr} {k cp : Nat} {news : List Value} (hl : news.length = k) (hnews : ∀ j u, news[j]? = some u → w.cell? (a.add j) = some u) (hone : ∀ u ∈ news, u.oneCell' = true) (h63 : n + k ≤ maxLen) (hbytes : (n + k) * i.bytes ≤ 140737488355328) :
  ∃ v' w', (Builtin.append_ #[t, t] ty #[v, .slice (some a) k cp]).run P w = .ok v' w' ∧ ownsQ w' e 1 v' (n + k) (xs ++ news) ∧ w.grownBy w' v.ownBlock ∧ (v'.ownBlock = v.ownBlock ∨ v'.ownBlock = some w.heap.size) := by
 obtain ⟨k0, g, ofs, cap, cur, rfl, g2, g3, g4, g5, g6⟩ := hown
 rw [Nat.mul_one] at k0 g5 g6
 have hlen : (xs ++ news).length = (n + k) * 1 := by rw [List.length_append, k0, hl, Nat.mul_one]
 by_cases hroom : n + k ≤ cap
 ·have hfit : ofs + n + k ≤ cur.size := by omega
  have hr := run_append_roomQ (P := P) (t := t) (ty := ty) (cp := cp) (g := g) (ofs := ofs) (n := n) (cap := cap) (k := k) w ht hi h1 g2 hl hnews hone hroom hfit
  refine ⟨_, _, hr, ⟨hlen, g, ofs, cap, _, rfl, setRow_heap w g cur _ e _ g2, hroom, g4, ?_, ?_⟩, ⟨rfl, rfl, rfl, by simp, fun b _ hb => setRow_other w g b _ (fun e => hb (by simp [Value.ownBlock, e]))⟩, .inl rfl⟩
  ·simp only [List.size_toArray, List.length_append, List.length_take, List.length_drop, Array.length_toList, hl, Nat.mul_one]
   omega
  ·rw [Nat.mul_one, List.drop_append_of_le_length (by simp only [List.length_append, List.length_take, Array.length_toList]; omega), List.drop_append_of_le_length (by simp only [List.length_take, Array.length_toList]; omega), List.drop_take, show ofs + n - ofs = n by omega, g6, List.take_append_of_le_length (by rw [List.length_append]; omega), List.take_of_length_le (by rw [List.length_append]; omega)]
 ·have hr := run_append_grow (P := P) w t ty e i z ht hi hz ⟨g, ofs, none⟩ n cap xs (by rw [h1, k0, Nat.mul_one]) (fun j u hj => by
   have hj' := hj
   rw [← g6, List.getElem?_take] at hj
   split at hj
   ·rw [Addr.add_lit]
    rw [List.getElem?_drop] at hj
    simp [World.cell?, g2]
    simpa using hj
   ·cases hj) a k cp news (by rw [h1, hl, Nat.mul_one]) hnews (by omega) (by simp only [maxLen] at h63; omega) (growslice_fits (by omega) hbytes)
  have hge := grownCap_ge w (n + k) cap e
  have hcm := grownCap_le_maxLen w (n + k) cap e h63
  refine ⟨_, _, hr, ⟨hlen, w.heap.size, 0, _, _, rfl, heap_alloc_new w.drew _, hge, hcm, ?_, ?_⟩, ⟨rfl, rfl, rfl, by simp, fun b hb _ => heap_alloc_old w.drew _ hb⟩, .inr rfl⟩
  ·simp only [Array.size_append, List.size_toArray, size_zeroCells, hzs, k0, hl]
   omega
  ·simp only [Array.toList_append, List.append_assoc, List.drop_zero]
   rw [← List.append_assoc, ← hlen]
   exact List.take_left
theorem MemOK.appendedQ {F : Nat → Prop} {N : Names} {w w' : World} {r : Nat} {e : TypeId} {es ys : List (List DV)} (hm : MemOK c F N w m) (hr : m.get r = some (.que e 1 es)) (hP : inl c.P0 r = false) (hK : inl c.KN r = false) {v' : Value} {vs us : List Value}
  (ho : ownsQ w e 1 (N.σ r) es.length vs) (hvs : ∀ (i : Nat) (v : Value) (x : DV), vs[i]? = some v → es.flatten[i]? = some x → RepD F w v x) (hz : ∀ y ∈ ys, y.length = 1) (hze : ∀ y ∈ es, y.length = 1)
  (hus : ∀ (i : Nat) (v : Value) (x : DV), us[i]? = some v → ys.flatten[i]? = some x → RepD F w v x)
  (ho' : ownsQ w' e 1 v' (es.length + ys.length) (vs ++ us)) (hg : w.grownBy w' (N.σ r).ownBlock) (hat : v'.ownBlock = (N.σ r).ownBlock ∨ v'.ownBlock = some w.heap.size) :
  MemOK c F (N.setσ r v') w' ((r, .que e 1 (es ++ ys)) :: m.forget [r]) ∧ ∀ b, F b → w'.heap[b]? = w.heap[b]? := by
 have hσ : (N.setσ r v').σ r = v' := by simp [Names.setσ]
 have hFk : ∀ b, F b → w'.heap[b]? = w.heap[b]? := fun b hb => hg.block b (hm.Fin b hb) (fun he => (hm.free r _ b hr he.symm).1 hb)
 refine ⟨hm.renew (N.setσ_but r _) hP hK hg.os hg.tape hg.output hg.size (fun b hb hne => hg.block b hb (fun he => hne _ hr he.symm)) ⟨vs ++ us, by rw [hσ, List.length_append]; exact ho', ?_, ?_⟩ (fun b hb => ?_), hFk⟩
 ·intro y hy
  rcases List.mem_append.1 hy with h | h
  ·exact hze y h
  ·exact hz y h
 ·intro i v x hv hx
  rw [List.flatten_append] at hx
  have hfl := flatten_len es 1 hze
  have hvl : vs.length = es.length * 1 := ho.1
  by_cases hi : i < vs.length
  ·rw [List.getElem?_append_left hi] at hv
   rw [List.getElem?_append_left (by omega)] at hx
   exact (hvs i v x hv hx).mono (fun _ h => h) hFk
  ·rw [List.getElem?_append_right (by omega)] at hv hx
   rw [hfl] at hx
   rw [hvl] at hv
   exact (hus _ v x hv hx).mono (fun _ h => h) hFk
 ·have hb' : v'.ownBlock = some b := by
   have : ((N.setσ r v').σ r).ownBlock = some b := hb
   rwa [hσ] at this
  rcases hat with h | h
  ·exact .inl ⟨_, hr, show (N.σ r).ownBlock = some b by rw [← h]; exact hb'⟩
  ·rw [h] at hb'
   injection hb' with hb'
   exact .inr (by omega)
theorem WO.appQ {α : Type} [Inhabited α] (enc : α → List DV) (L1 L2 : List α) {x y : Operand} {T e bytes r d : Nat} {tt : List (Nat × TK)} {et : List (Nat × Nat × Nat)} (htt : ttOK P tt = true) (het : etOK P et = true) (hT : ttGet tt T = some (.slice e 1)) {q : Nat} (he : et.find? (fun q => Nat.beq q.1 e) = some (q, 1, bytes)) (hz : ∀ x, (enc x).length = 1) (hfl : ∀ x, (enc x).all DV.flatB = true)
  (hx : opnd E x = some (.own r)) (hr : m.get r = some (.que e 1 (L1.map enc))) (hy : opnd E y = some (.d (slT enc L2))) (ho : o.op = .call { callee := .builtin .append, args := #[x, y], argTypes := #[T, T] }) (hlen : (L1.length + L2.length) * bytes ≤ 140737488355328) (hb : Nat.blt 0 bytes = true) (h0 : Nat.blt 0 L2.length = true)
  (hP : inl c.P0 r = false) (hK : inl c.KN r = false) (hd : o.dst = some d) (hlt : Nat.blt d c.ntmps = true) : WO c P o E m ((d, .own r) :: E.forget [r]) ((r, .que e 1 ((L1 ++ L2).map enc)) :: m.forget [r]) := fun Q K a w hrel h => by
 obtain ⟨h1, h2, F, N, hm, hE⟩ := hrel
 obtain ⟨i, z, hi, hs1, hs2, hs3, hs4, hs5⟩ := elB_spec (etOK_get het he)
 obtain ⟨i', hT1, _, _⟩ := elemOf_spec (TK.slice_ok (ttGet_ok htt hT))
 obtain ⟨vs, k1, k2, k3⟩ := hm.obj r _ hr
 have hvx := (opnd_ok hx).own_eval hE
 have hry := (opnd_ok hy F N w a hE).d_inv.slf_inv
 rw [tab_list] at hry
 obtain ⟨ad, cp, hvy⟩ := hry.sl_inv
 rw [hvy] at hry
 rw [List.length_map] at hvy hry
 have hb' : 0 < bytes := Nat.le_of_ble_eq_true hb
 have hml : L1.length + L2.length ≤ 140737488355328 := Nat.le_trans (Nat.le_mul_of_pos_right _ hb') hlen
 have l2 : ∀ e ∈ L2.map enc, e.length = 1 := fun e he => by
  obtain ⟨x, _, rfl⟩ := List.mem_map.1 he
  exact hz x
 have fin : ∀ v' w', (Builtin.append_ #[T, T] o.type #[N.σ r, .slice ad L2.length cp]).run P w = .ok v' w' → MemOK c F (N.setσ r v') w' ((r, .que e 1 (L1.map enc ++ L2.map enc)) :: m.forget [r]) → (∀ b, F b → w'.heap[b]? = w.heap[b]?) → o.wp P a w K Q := by
  intro v' w' hrun hm' hFk
  have hrun' : (execOp a.eval o).run P w = .ok (.value v') w' := by
   unfold execOp
   simp [ho, resolve, invoke, builtin, hvx, hvy, hrun]
  unfold Oper.wp
  rw [hrun', Oper.upon_value]
  rw [List.map_append] at h
  exact h _ _ _ rfl (by rw [hd]; exact Rel.put h1 h2 hm' (hE.forget (N.setσ_but r v') hFk) hlt (own_of (by simp [Names.setσ])))
 cases ad with
 | none =>
  have hL : L2 = [] := by
   have key : ∀ (n : Nat) (q : List (List DV)), RepD F w (.slice none n cp) (.sl q) → q = [] := fun n q hh => by cases hh; rfl
   have := key _ _ hry
   simpa using this
  subst hL
  cases h0
 | some ad =>
  obtain ⟨us, u1, u2, u3⟩ := hry.cellsOf l2
  have hul : us.length = L2.length := by rw [u1, flatten_len _ 1 l2, List.length_map, Nat.mul_one]
  have hone : ∀ u ∈ us, u.oneCell' = true := one_of_notAgg u1 u3 (fun d hd => by
   obtain ⟨y, hy', hd'⟩ := List.mem_flatten.1 hd
   obtain ⟨x, _, rfl⟩ := List.mem_map.1 hy'
   have := List.all_eq_true.1 (hfl x) d hd'
   intro ds hds
   subst hds
   cases this)
  have k1' := k1
  rw [List.length_map] at k1'
  obtain ⟨v', w', q1, q2, q3, q5⟩ := run_append_que (P := P) (ty := o.type) (cp := cp) w hT1 hi hs4 hs1 hs5 k1' hul u2 hone (by simp only [maxLen]; omega) (by rw [hs2]; exact hlen)
  have := hm.appendedQ hr hP hK k1 k3 (ys := L2.map enc) (us := us) l2 k2 u3 (by rw [List.length_map, List.length_map]; exact q2) q3 q5
  exact fin _ _ q1 this.1 this.2
theorem WL.appQ {α : Type} [Inhabited α] (enc : α → List DV) (L1 L2 : List α) {x y : Operand} {T e bytes r d : Nat} {tt : List (Nat × TK)} {et : List (Nat × Nat × Nat)} (htt : ttOK P tt = true) (het : etOK P et = true) (hT : ttGet tt T = some (.slice e 1)) {q : Nat} (he : et.find? (fun q => Nat.beq q.1 e) = some (q, 1, bytes)) (hz : ∀ x, (enc x).length = 1) (hfl : ∀ x, (enc x).all DV.flatB = true)
  (hx : opnd E x = some (.own r)) (hr : m.get r = some (.que e 1 (L1.map enc))) (hy : opnd E y = some (.d (slT enc L2))) (ho : o.op = .call { callee := .builtin .append, args := #[x, y], argTypes := #[T, T] }) (hlen : (L1.length + L2.length) * bytes ≤ 140737488355328) (hb : Nat.blt 0 bytes = true) (h0 : Nat.blt 0 L2.length = true)
  (hd : o.dst = some d) (hlt : Nat.blt d c.ntmps = true) (hF : eQue c.P0 c.KN r e ((L1 ++ L2).map enc) E m d = some (E', m')) (hg : o.guard = none) (hk : WL c P ops Q l E' m') : WL c P ops Q (o :: l) E m := by
 unfold eQue at hF
 split at hF
 ·cases hF
 ·rename_i hn
  obtain ⟨g1, g2⟩ := okN_ok hn
  split at hF
  ·rename_i E1 m1 h2 h3
   simp only [Option.some.injEq, Prod.mk.injEq] at hF
   obtain ⟨rfl, rfl⟩ := hF
   rw [fgtE_eq h2, fgtM_eq h3] at hk
   exact WL.step (WO.appQ enc L1 L2 htt het hT he hz hfl hx hr hy ho hlen hb h0 g1 g2 hd hlt) hg hk
  ·cases hF
end
theorem WC.cutT {c : Ctx} {P : Program} {Q : Exit → Env → Mem → Prop} {E : Env} {m : Mem} {C : Code} {ι : Type} (Ef : ι → Env) (mf : ι → Mem) (I : ι → Prop) (h : WC c P C (QThen (fun E m => ∃ s, I s ∧ LessW E m (Ef s) (mf s)) Q) E m) (hk : ∀ s, I s → Q .normal (Ef s) (mf s)) : WC c P C Q E m := fun a w hr => by
 refine wp_mono (h a w hr) ?_
 rintro e a' w' ⟨E', m', hq, hr'⟩
 cases e with
 | normal =>
  obtain ⟨s, hi, hl⟩ := hq
  exact ⟨Ef s, mf s, hk s hi, Less.rel ⟨fun t => .inr rfl, hl.mem⟩ (hr'.weaker fun F N v t => hl.env t F N w' v)⟩
 | exit id => exact ⟨E', m', hq, hr'⟩
 | goto l => exact ⟨E', m', hq, hr'⟩
 | ret => exact ⟨E', m', hq, hr'⟩
 | panic ch => exact ⟨E', m', hq, hr'⟩
 | outgrown => exact ⟨E', m', hq, hr'⟩
end LJ
