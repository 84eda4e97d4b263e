/- A logic for the walks: a part of an array in a row of one's own, as a slice: appended, cleared; the address of a row's cell beside nil. -/
import Derived.Test.YtcnfbifekdmacaaXBld
import Derived.Lib.SliceRun
import Derived.Test.YtcnfbifekdmacaaXEq
import Derived.DeepKeys
namespace LJ
open Go Go.RowKit
set_option linter.unusedVariables false
set_option linter.unusedSimpArgs false

/-- A part of an array's elements; an array with a part put to one value. -/
def asub {α : Type} [Inhabited α] (S : List α) (i j : Int) : List α := (List.range (j - i).toNat).map fun k => S.getD (i.toNat + k) default
def afill {α : Type} [Inhabited α] (M : Nat) (S : List α) (i j : Int) (v : α) : List α := (List.range M).map fun k => cond (Nat.ble i.toNat k && Nat.blt k j.toNat) v (S.getD k default)
theorem afill_getD {α : Type} [Inhabited α] (M : Nat) (S : List α) (i j : Int) (v : α) (k : Nat) (hk : k < M) : (afill M S i j v).getD k default = if i.toNat ≤ k ∧ k < j.toNat then v else S.getD k default := by
  unfold afill
  rw [List.getD_eq_getElem?_getD, List.getElem?_map, List.getElem?_range hk]
  simp only [Option.map_some, Option.getD_some]
  by_cases h : i.toNat ≤ k ∧ k < j.toNat
  · rw [if_pos h, Nat.ble_eq_true_of_le h.1]
    have : Nat.blt k j.toNat = true := Nat.ble_eq_true_of_le h.2
    rw [this]
    rfl
  · rw [if_neg h]
    cases e : (Nat.ble i.toNat k && Nat.blt k j.toNat) with
    | true =>
      rw [Bool.and_eq_true] at e
      exact absurd ⟨Nat.le_of_ble_eq_true e.1, Nat.le_of_ble_eq_true e.2⟩ h
    | false => rfl
theorem arr_upd {β : Type} {l l' : List β} {q M : Nat} {h' : Nat → β} (hq : q + M ≤ l.length) (hB : l' = l.take q ++ (List.range M).map h' ++ l.drop (q + M)) (k : Nat) : l'[k]? = if q ≤ k ∧ k < q + M then some (h' (k - q)) else l[k]? := by
  subst hB
  have tl : (l.take q).length = q := by rw [List.length_take]; omega
  have tl2 : (l.take q ++ (List.range M).map h').length = q + M := by rw [List.length_append, tl, List.length_map, List.length_range]
  by_cases h1 : k < q
  · rw [if_neg (by omega), List.append_assoc, List.getElem?_append_left (by omega), List.getElem?_take, if_pos h1]
  · by_cases h2 : k < q + M
    · rw [if_pos ⟨by omega, h2⟩, List.append_assoc, List.getElem?_append_right (by omega), tl, List.getElem?_append_left (by rw [List.length_map, List.length_range]; omega), List.getElem?_map, List.getElem?_range (by omega)]
      rfl
    · rw [if_neg (by omega), List.getElem?_append_right (by omega), tl2, List.getElem?_drop]
      congr 1
      omega
theorem arr_len {β : Type} {l : List β} {q M : Nat} {h : Nat → β} (hA : (l.drop q).take M = (List.range M).map h) (h0 : 0 < M) : q + M ≤ l.length := by
  have := congrArg List.length hA
  simp only [List.length_take, List.length_drop, List.length_map, List.length_range] at this
  omega
theorem flatten_at {α : Type} [Inhabited α] (enc : α → List DV) (L : List α) {sz : Nat} (hz : ∀ x, (enc x).length = sz) (a b : Nat) (ha : a < L.length) (hb : b < sz) : (L.map enc).flatten[a * sz + b]? = (enc (L.getD a default))[b]? := by
  rw [List.getElem?_eq_getElem (l := enc (L.getD a default)) (by rw [hz]; exact hb)]
  exact flatten_get (L.map enc) sz a b _ _ (fun e he => by
    obtain ⟨x, _, rfl⟩ := List.mem_map.1 he
    exact hz x) (map_getD enc L a ha) (List.getElem?_eq_getElem (by rw [hz]; exact hb))
theorem flatten_fill {α β : Type} [Inhabited α] [Inhabited β] (enc : α → List DV) (L : List α) (M q : Nat) (mk : β → DV) (S : List β) (z : β) (x' : α) (i : Nat) (lo hi : Int) {sz : Nat} (hz : ∀ x, (enc x).length = sz) (hi' : i < L.length) (h0 : 0 < M)
    (hA : ((enc (L.getD i default)).drop q).take M = (List.range M).map (fun k => mk (S.getD k default))) (hB : enc x' = (enc (L.getD i default)).take q ++ (List.range M).map (fun k => mk ((afill M S lo hi z).getD k default)) ++ (enc (L.getD i default)).drop (q + M)) (hb : 0 ≤ lo ∧ lo ≤ hi ∧ hi ≤ (M : Int)) (k : Nat) (hk : k < L.length * sz) :
    ((L.set i x').map enc).flatten[k]? = if i * sz + q + lo.toNat ≤ k ∧ k < i * sz + q + hi.toNat then some (mk z) else (L.map enc).flatten[k]? := by
  have hlen := arr_len hA h0
  rw [hz] at hlen
  have hpos : 0 < sz := by omega
  have ha : k / sz < L.length := Nat.div_lt_of_lt_mul (by rw [Nat.mul_comm]; exact hk)
  have hbb : k % sz < sz := Nat.mod_lt _ hpos
  have hkk : k = k / sz * sz + k % sz := by rw [Nat.mul_comm]; exact (Nat.div_add_mod k sz).symm
  generalize k / sz = a at ha hkk
  generalize k % sz = b at hbb hkk
  subst hkk
  rw [flatten_at enc L hz a b ha hbb, flatten_at enc (L.set i x') hz a b (by rw [List.length_set]; exact ha) hbb]
  by_cases hai : a = i
  · subst hai
    have e1 : (L.set a x').getD a default = x' := by rw [List.getD_eq_getElem?_getD, List.getElem?_set_self hi']; rfl
    rw [e1, arr_upd (by rw [hz]; exact hlen) hB b]
    by_cases h1 : q ≤ b ∧ b < q + M
    · rw [if_pos h1, afill_getD M S lo hi z (b - q) (by omega)]
      by_cases h2 : lo.toNat ≤ b - q ∧ b - q < hi.toNat
      · rw [if_pos h2, if_pos (by omega)]
      · rw [if_neg h2, if_neg (by omega)]
        have := arr_get hA (b - q) (by omega)
        rw [← this]
        congr 1
        omega
    · rw [if_neg h1, if_neg (by omega)]
  · have e1 : (L.set i x').getD a default = L.getD a default := by rw [List.getD_eq_getElem?_getD, List.getElem?_set_ne (fun h => hai h.symm), List.getD_eq_getElem?_getD]
    rw [e1, if_neg]
    intro h
    rcases Nat.lt_or_ge a i with h1 | h1
    · have : a * sz + sz ≤ i * sz := by rw [← Nat.succ_mul]; exact Nat.mul_le_mul_right _ h1
      omega
    · have : i * sz + sz ≤ a * sz := by rw [← Nat.succ_mul]; exact Nat.mul_le_mul_right _ (by omega)
      omega
theorem flatten_one {β : Type} (f : β → DV) : ∀ l : List β, (l.map fun y => [f y]).flatten = l.map f
  | [] => rfl
  | x :: l => by simp [flatten_one f l]

section
variable {P : Program} {c : Ctx} {ops : Array Oper} {Q : Exit → Env → Mem → Prop} {E E' : Env} {m m' : Mem} {o : Oper} {l : List Oper}
theorem Y.req {x y : Operand} {T T' : TypeId} {n off : Nat} (hx : opnd E x = some (.rel n off)) (hy : opnd E y = some (.d .nilp)) (ho : o.op = .binOp .eql T x y T') (hT : P.underlying T = some (.pointer (P.pointee T))) : LJ.Yields P o E m (.d (.bool false)) :=
  Y.data (u := .bool false) (fun _ _ _ => .d .bool) fun F N w a he w' => by
    have hr := (opnd_ok hx) F N w a he
    have h2 : a.eval y = .pointer none := ((opnd_ok hy) F N w a he).d_inv.nilp_inv
    generalize hv : a.eval x = v at hr
    cases hr with
    | rel hg =>
      unfold execOp
      simp [ho, hv, h2, eqGuard, run_eql_pointer_nil w' T _ hT]
theorem run_neq_ptr_nil (w : World) {T : TypeId} (ad : Addr) (h : P.underlying T = some (.pointer (P.pointee T))) : (binOp .neq T (.pointer (some ad)) (.pointer none)).run P w = .ok (.bool true) w := by
  have h1 : ∀ d, (Op.equalIn (d + 1) T (.pointer (some ad)) (.pointer none)).run P w = .ok false w := fun d => by simp [Op.equalIn, run_underlying h]
  simp only [binOp]
  simp [Op.equal, Op.maxDepth, h1 9999]
theorem Y.rne {x y : Operand} {T T' : TypeId} {n off : Nat} (hx : opnd E x = some (.rel n off)) (hy : opnd E y = some (.d .nilp)) (ho : o.op = .binOp .neq T x y T') (hT : P.underlying T = some (.pointer (P.pointee T))) : LJ.Yields P o E m (.d (.bool true)) :=
  Y.data (u := .bool true) (fun _ _ _ => .d .bool) fun F N w a he w' => by
    have hr := (opnd_ok hx) F N w a he
    have h2 : a.eval y = .pointer none := ((opnd_ok hy) F N w a he).d_inv.nilp_inv
    generalize hv : a.eval x = v at hr
    cases hr with
    | rel hg =>
      unfold execOp
      simp [ho, hv, h2, eqGuard, run_neq_ptr_nil w' _ hT]

theorem WO.appRsl {α β : Type} [Inhabited α] [Inhabited β] (enc : β → List DV) (L1 : List β) (encF : α → List DV) (L : List α) (M q : Nat) (mk : β → DV) (S : List β) (i lo hi : Int) {x y : Operand} {T e e2 sz bytes r p d cap : Nat} {tt : List (Nat × TK)} {et : List (Nat × Nat × Nat)} (htt : ttOK P tt = true) (het : etOK P et = true) (hT : ttGet tt T = some (.slice e 1)) {qq : Nat} (he : et.find? (fun q => Nat.beq q.1 e) = some (qq, 1, bytes)) (henc : enc = fun y => [mk y]) (hfl : ∀ y, DV.flatB (mk y) = true)
    (hx : opnd E x = some (.own r)) (hr : m.get r = some (.row e 1 (L1.map enc))) (hy : opnd E y = some (.rsl p (i.toNat * sz + q + lo.toNat) (hi - lo).toNat cap)) (hp : m.get p = some (.row e2 sz (L.map encF))) (hz : ∀ x, (encF x).length = sz) (ho : o.op = .call { callee := .builtin .append, args := #[x, y], argTypes := #[T, T] }) (h0 : Nat.blt 0 M = true)
    (hA : ((encF (L.getD i.toNat default)).drop q).take M = (List.range M).map (fun k => mk (S.getD k default))) (hb : 0 ≤ lo ∧ lo ≤ hi ∧ hi ≤ (M : Int)) (hi' : 0 ≤ i ∧ i < L.length) (hlen : (L1.length + (hi - lo).toNat) * bytes ≤ 140737488355328) (hby : Nat.blt 0 bytes = true)
    (hP : inl c.P0 r = false) (hK : inl c.KN r = false) (hd : o.dst = some d) (hlt : Nat.blt d c.ntmps = true) : WO c P o E m ((d, .own r) :: E.forget [r]) ((r, .row e 1 ((L1 ++ asub S lo hi).map enc)) :: m.forget [r]) := fun Q K a w hrel h => by
  obtain ⟨h1, h2, F, N, hm, hE⟩ := hrel
  obtain ⟨ii, z, hi1, hs1, hs2, hs3, hs4, hs5⟩ := elB_spec (etOK_get het he)
  obtain ⟨i', hT1, _, _⟩ := elemOf_spec (TK.slice_ok (ttGet_ok htt hT))
  obtain ⟨vs, k1, k2, k3⟩ := hm.obj r _ hr
  obtain ⟨us, ⟨hl, hrow⟩, l2, l3⟩ := hm.obj p _ hp
  rw [List.length_map] at k1 hl hrow
  have hvx := (opnd_ok hx).own_eval hE
  have hry := (opnd_ok hy) F N w a hE
  generalize hvy : a.eval y = v at hry
  have hM := arr_len hA (Nat.le_of_ble_eq_true h0)
  rw [hz] at hM
  have hb' : 0 < bytes := Nat.le_of_ble_eq_true hby
  have hml : L1.length + (hi - lo).toNat ≤ 140737488355328 := Nat.le_trans (Nat.le_mul_of_pos_right _ hb') hlen
  have hoff : i.toNat * sz + q + hi.toNat ≤ L.length * sz := by
    calc i.toNat * sz + q + hi.toNat ≤ i.toNat * sz + sz := by omega
      _ = (i.toNat + 1) * sz := by rw [Nat.succ_mul]
      _ ≤ L.length * sz := Nat.mul_le_mul_right _ (by omega)
  have hal : (asub S lo hi).length = (hi - lo).toNat := by simp [asub]
  have hsub : ((asub S lo hi).map enc).flatten = (List.range (hi - lo).toNat).map fun k => mk (S.getD (lo.toNat + k) default) := by
    subst henc
    rw [flatten_one mk]
    simp [asub]
  have l2' : ∀ e ∈ (asub S lo hi).map enc, e.length = 1 := fun e he => by
    obtain ⟨x, _, rfl⟩ := List.mem_map.1 he
    subst henc
    rfl
  have fin : ∀ v' w', (Builtin.append_ #[T, T] o.type #[N.σ r, v]).run P w = .ok v' w' → MemOK c F (N.setσ r v') w' ((r, .row e 1 (L1.map enc ++ (asub S lo hi).map enc)) :: m.forget [r]) → (∀ b, F b → w'.heap[b]? = w.heap[b]?) → o.wp P a w K Q := by
    intro v' w' hrun hm' hFk
    have hrun' : (execOp a.eval o).run P w = .ok (.value v') w' := by
      unfold execOp
      simp [ho, resolve, invoke, builtin, hvx, hvy, hrun]
    unfold Oper.wp
    rw [hrun', Oper.upon_value]
    rw [List.map_append] at h
    exact h _ _ _ rfl (by rw [hd]; exact Rel.put h1 h2 hm' (hE.forget (N.setσ_but r v') hFk) hlt (own_of (by simp [Names.setσ])))
  cases hry with
  | @rsl _ _ _ _ o' g ln cp hg hoo =>
    rcases hrow with ⟨g1, g2⟩ | ⟨g', cap', cur, g1, _, g3, g4, g5, g6, g7⟩
    · rw [hg] at g1
      cases g1
    · rw [hg] at g1
      injection g1 with g1 e3 e4
      injection g1 with g1
      injection g1 with g1 _ _
      subst g1
      let cs := (us.drop (i.toNat * sz + q + lo.toNat)).take (hi - lo).toNat
      have hcl : cs.length = (hi - lo).toNat := by simp only [cs, List.length_take, List.length_drop]; omega
      have hcg : ∀ k u, cs[k]? = some u → k < (hi - lo).toNat ∧ us[i.toNat * sz + q + lo.toNat + k]? = some u := fun k u hk => by
        have hlt' : k < (hi - lo).toNat := by have := (List.getElem?_eq_some_iff.1 hk).1; omega
        refine ⟨hlt', ?_⟩
        simp only [cs, List.getElem?_take, if_pos hlt', List.getElem?_drop] at hk
        exact hk
      have u2 : ∀ j u, cs[j]? = some u → w.cell? ((⟨g, o', none⟩ : Addr).add j) = some u := fun j u hj => by
        obtain ⟨hlt', hj⟩ := hcg j u hj
        have := hoo (by omega)
        subst this
        rw [← g7, List.getElem?_take] at hj
        split at hj
        · rw [Addr.add_lit]
          simp [World.cell?, g3]
          simpa using hj
        · cases hj
      have u3 : ∀ (k : Nat) (u : Value) (x : DV), cs[k]? = some u → ((asub S lo hi).map enc).flatten[k]? = some x → RepD F w u x := fun k u x hk hx' => by
        obtain ⟨hlt', hk⟩ := hcg k u hk
        rw [hsub, List.getElem?_map, List.getElem?_range hlt'] at hx'
        injection hx' with hx'
        subst hx'
        refine l3 _ u _ hk ?_
        rw [show i.toNat * sz + q + lo.toNat + k = i.toNat * sz + (q + (lo.toNat + k)) by omega, flatten_at encF L hz _ _ (by omega) (by omega)]
        exact arr_get hA (lo.toNat + k) (by omega)
      have hone : ∀ u ∈ cs, u.oneCell' = true := one_of_notAgg (ds := ((asub S lo hi).map enc).flatten) (by rw [hcl, hsub, List.length_map, List.length_range]) u3 (fun d hd ds hds => by
        rw [hsub] at hd
        obtain ⟨k, _, rfl⟩ := List.mem_map.1 hd
        have := hfl (S.getD (lo.toNat + k) default)
        rw [hds] at this
        cases this)
      obtain ⟨v', w', q1, q2, q3, q4, q5⟩ := run_append_own_at (P := P) w 0 T o.type e ii z 1 bytes hT1 hi1 hs4 hs1 hs2 hs5 hs3 (N.σ r) L1.length vs k1 ⟨g, o', none⟩ (hi - lo).toNat cap cs (by rw [hcl, Nat.mul_one]) u2 hone (by simp only [maxLen]; omega) hlen (Nat.zero_le _)
      have := hm.appended hr hP hK (by rw [List.length_map]; exact k1) k3 (ys := (asub S lo hi).map enc) (us := cs) l2' k2 u3 (by rw [List.length_map, List.length_map, hal]; exact q2) q3 q5
      exact fin _ _ q1 this.1 this.2
theorem WH.appRsl {tp : Bool} {c0 : Ctx} {s : Stay} {EK EK2 E2 : Env} {sch : Sch} {ix : Nat} {α β : Type} [Inhabited α] [Inhabited β] (enc : β → List DV) (L1 : List β) (encF : α → List DV) (L : List α) (M q : Nat) (mk : β → DV) (S : List β) (i lo hi : Int) {x y : Operand} {T e e2 sz bytes r p d cap : Nat} {tt : List (Nat × TK)} {et : List (Nat × Nat × Nat)} (htt : ttOK P tt = true) (het : etOK P et = true) (hT : ttGet tt T = some (.slice e 1)) {qq : Nat} (he : et.find? (fun q => Nat.beq q.1 e) = some (qq, 1, bytes)) (henc : enc = fun y => [mk y]) (hfl : ∀ y, DV.flatB (mk y) = true)
    (hix : nth ops.toList ix = some o) (hx : opnd (EK ++ E) x = some (.own r)) (hr : m.get r = some (.row e 1 (L1.map enc))) (hy : opnd (EK ++ E) y = some (.rsl p (i.toNat * sz + q + lo.toNat) (hi - lo).toNat cap)) (hp : m.get p = some (.row e2 sz (L.map encF))) (hz : ∀ x, (encF x).length = sz) (ho : o.op = .call { callee := .builtin .append, args := #[x, y], argTypes := #[T, T] }) (h0 : Nat.blt 0 M = true)
    (hA : ((encF (L.getD i.toNat default)).drop q).take M = (List.range M).map (fun k => mk (S.getD k default))) (hb : 0 ≤ lo ∧ lo ≤ hi ∧ hi ≤ (M : Int)) (hi' : 0 ≤ i ∧ i < L.length) (hlen : (L1.length + (hi - lo).toNat) * bytes ≤ 140737488355328) (hby : Nat.blt 0 bytes = true)
    (hd : o.dst = some d) (hlt : Nat.blt d c.ntmps = true) (hF : eAppT tt c.P0 c.KN r e 1 ((L1 ++ asub S lo hi).map enc) (EK ++ E) m d = some (E', m')) (hg : o.guard = none) (hf : fastE c.P0 EK = true) (h2 : splitE o.dst E' EK E = some (EK2, E2)) (hk : WH true c0 c s P ops Q sch EK2 E2 m') : WH tp c0 c s P ops Q (.one ix false sch) EK E m := by
  unfold eAppT at hF
  split at hF
  · cases hF
  · rename_i hn
    obtain ⟨g1, g2⟩ := okN_ok hn
    split at hF
    · rename_i E1 m1 h3 h4
      simp only [Option.some.injEq, Prod.mk.injEq] at hF
      obtain ⟨rfl, rfl⟩ := hF
      rw [fgtE_eq h3] at h2
      rw [fgtM_eq h4] at hk
      exact WH.step hix (WO.appRsl enc L1 encF L M q mk S i lo hi htt het hT he henc hfl hx hr hy hp hz ho h0 hA hb hi' hlen hby g1 g2 hd hlt) hg hf h2 hk
    · cases hF

/-- The zero of a type of one cell is a number. -/
def zeroIB (P : Program) (e : TypeId) : Bool :=
  match P.info? e with
  | some i => match i.zero with
    | some (.int .i64 n) => decide (n = 0)
    | _ => false
  | none => false
theorem zeroIB_run {e : TypeId} (h : zeroIB P e = true) (w : World) : (zeroValue e).run P w = .ok (.int .i64 0) w := by
  unfold zeroIB at h
  split at h
  · rename_i i hi
    split at h
    · rename_i n hn
      have := of_decide_eq_true h
      subst this
      simp [zeroValue, typeInfo, hi, hn]
    · cases h
  · cases h
theorem WO.clrRsl {α : Type} [Inhabited α] (enc : α → List DV) (L : List α) (M q : Nat) (S : List Int) (x' : α) (i lo hi : Int) {x : Operand} {T e e2 sz r cap : Nat} {tt : List (Nat × TK)} (htt : ttOK P tt = true) (hT : ttGet tt T = some (.slice e2 1)) (hzero : zeroIB P e2 = true) (hx : opnd E x = some (.rsl r (i.toNat * sz + q + lo.toNat) (hi - lo).toNat cap)) (hn : m.get r = some (.row e sz (L.map enc))) (hz : ∀ x, (enc x).length = sz) (ho : o.op = .call { callee := .builtin .clear, args := #[x], argTypes := #[T] }) (h0 : Nat.blt 0 M = true)
    (hA : ((enc (L.getD i.toNat default)).drop q).take M = (List.range M).map (fun k => DV.int .i64 (S.getD k default))) (hB : enc x' = (enc (L.getD i.toNat default)).take q ++ (List.range M).map (fun k => DV.int .i64 ((afill M S lo hi 0).getD k default)) ++ (enc (L.getD i.toNat default)).drop (q + M)) (hb : 0 ≤ lo ∧ lo ≤ hi ∧ hi ≤ (M : Int)) (hi' : 0 ≤ i ∧ i < L.length) (hK : inl c.KN r = false) (hd : o.dst = none) (hs : setRow r ((L.set i.toNat x').map enc) m = some m') : WO c P o E m E m' := fun Q K a w hrel h => by
  obtain ⟨h1, h2, F, N, hm, hE⟩ := hrel
  have hr := (opnd_ok hx) F N w a hE
  generalize hv : a.eval x = pv at hr
  obtain ⟨vs, ⟨hl, hrow⟩, hlen, hrep⟩ := hm.obj r _ hn
  rw [List.length_map] at hl hrow
  obtain ⟨it, hT1, _, _⟩ := elemOf_spec (TK.slice_ok (ttGet_ok htt hT))
  have h0' : 0 < M := Nat.le_of_ble_eq_true h0
  have hM := arr_len hA h0'
  rw [hz] at hM
  have hoff : i.toNat * sz + q + hi.toNat ≤ L.length * sz := by
    calc i.toNat * sz + q + hi.toNat ≤ i.toNat * sz + sz := by omega
      _ = (i.toNat + 1) * sz := by rw [Nat.succ_mul]
      _ ≤ L.length * sz := Nat.mul_le_mul_right _ (by omega)
  have hpos : 0 < L.length * sz := Nat.mul_pos (by omega) (by omega)
  cases hr with
  | @rsl _ _ _ _ o' g ln cp hg hoo =>
    rcases hrow with ⟨h3, h4⟩ | ⟨g', cap', cur, h3, _, h5, h6, h7, h8, h9⟩
    · omega
    · rw [hg] at h3
      injection h3 with h3 e3 e4
      injection h3 with h3
      injection h3 with h3 _ _
      subst h3
      subst e4
      have hcap : L.length * sz ≤ cp * sz := Nat.mul_le_mul_right _ h6
      generalize hnn : (hi - lo).toNat = n at *
      obtain ⟨w', r1, r2, r3, r4, r5, r6, r7⟩ := setCells_heap (P := P) g e (List.replicate n (.int .i64 0)) 0 (i.toNat * sz + q + lo.toNat) cur w h5 (by rw [List.length_replicate]; omega) (by intro u hu; rw [List.eq_of_mem_replicate hu]; rfl)
      simp only [Nat.add_zero, List.length_replicate] at r2
      have hrun : (Builtin.clear_ #[T] o.type #[.slice (some ⟨g, o', none⟩) n cap]).run P w = .ok (.tuple #[]) w' := by
        cases n with
        | zero =>
          have : w' = w := by simpa [storeCells] using r1.symm
          subst this
          simp [Builtin.clear_, run_underlying hT1]
        | succ k =>
          have := hoo (by omega)
          subst this
          have hzc : (Builtin.zeroCells (Value.int .i64 0).cells (k + 1)).toList = List.replicate (k + 1) (.int .i64 0) := by
            rw [show (Value.int .i64 0).cells = #[.int .i64 0] from rfl]
            simp [Builtin.zeroCells]
            apply List.ext_getElem
            · simp
            · intro i h1 h2
              simp [Nat.mod_one]
          simp [Builtin.clear_, run_underlying hT1, zeroIB_run hzero, hzc, r1]
      have hrun' : (execOp a.eval o).run P w = .ok (.value (.tuple #[])) w' := by
        unfold execOp
        simp [ho, resolve, invoke, builtin, hv, hrun]
      have hσ : (N.σ r).ownBlock = some g := by rw [hg]; rfl
      have hFk : ∀ b, F b → w'.heap[b]? = w.heap[b]? := fun b hb => r7 b (fun e => (hm.free r _ b hn (by rw [e]; exact hσ)).1 hb)
      have get : ∀ (X : List Value) (k : Nat), i.toNat * sz + q + lo.toNat + n ≤ X.length → (X.take (i.toNat * sz + q + lo.toNat) ++ List.replicate n (.int .i64 0) ++ X.drop (i.toNat * sz + q + lo.toNat + n))[k]? = if i.toNat * sz + q + lo.toNat ≤ k ∧ k < i.toNat * sz + q + lo.toNat + n then some (.int .i64 0) else X[k]? := fun X k hX => by
        have tl : (X.take (i.toNat * sz + q + lo.toNat)).length = i.toNat * sz + q + lo.toNat := by rw [List.length_take]; omega
        have tl2 : (X.take (i.toNat * sz + q + lo.toNat) ++ List.replicate n (Value.int .i64 0)).length = i.toNat * sz + q + lo.toNat + n := by rw [List.length_append, tl, List.length_replicate]
        by_cases c1 : k < i.toNat * sz + q + lo.toNat
        · rw [if_neg (by omega), List.append_assoc, List.getElem?_append_left (by omega), List.getElem?_take, if_pos c1]
        · by_cases c2 : k < i.toNat * sz + q + lo.toNat + n
          · rw [if_pos ⟨by omega, c2⟩, List.append_assoc, List.getElem?_append_right (by omega), tl, List.getElem?_append_left (by rw [List.length_replicate]; omega), List.getElem?_replicate, if_pos (by omega)]
          · rw [if_neg (by omega), List.getElem?_append_right (by omega), tl2, List.getElem?_drop]
            congr 1
            omega
      have hcl : i.toNat * sz + q + lo.toNat + n ≤ vs.length := by omega
      have hcur : i.toNat * sz + q + lo.toNat + n ≤ cur.toList.length := by rw [Array.length_toList]; omega
      have hm2 : MemOK c F N w' (m.set r (.row e sz ((L.set i.toNat x').map enc))) := by
        refine hm.write hn hK r3 r4 r5 (by omega) (fun b hb hne => r7 b (fun e => hne (by rw [e]; exact hσ))) ⟨vs.take (i.toNat * sz + q + lo.toNat) ++ List.replicate n (.int .i64 0) ++ vs.drop (i.toNat * sz + q + lo.toNat + n), ?_, ?_, fun k u d hu hd => ?_⟩ rfl
        · rw [List.length_map, List.length_set]
          have hvl : (vs.take (i.toNat * sz + q + lo.toNat) ++ List.replicate n (Value.int .i64 0) ++ vs.drop (i.toNat * sz + q + lo.toNat + n)).length = vs.length := by
            simp only [List.length_append, List.length_take, List.length_replicate, List.length_drop]; omega
          refine ⟨by rw [hvl]; exact hl, .inr ⟨g, cp, _, by rw [hg, e3], Nat.zero_le _, r2, h6, h7, ?_, ?_⟩⟩
          · have : (cur.toList.take (i.toNat * sz + q + lo.toNat) ++ List.replicate n (Value.int .i64 0) ++ cur.toList.drop (i.toNat * sz + q + lo.toNat + n)).length = cur.size := by
              simp only [List.length_append, List.length_take, List.length_replicate, List.length_drop, Array.length_toList]; omega
            rw [List.size_toArray, this]
            exact h8
          · simp only [List.toList_toArray]
            refine List.ext_getElem? fun k => ?_
            rw [get vs k hcl, List.getElem?_take, get cur.toList k hcur]
            by_cases c1 : i.toNat * sz + q + lo.toNat ≤ k ∧ k < i.toNat * sz + q + lo.toNat + n
            · rw [if_pos c1, if_pos c1, if_pos (by omega)]
            · rw [if_neg c1, if_neg c1, ← h9, List.getElem?_take]
        · intro y hy
          obtain ⟨z, _, rfl⟩ := List.mem_map.1 hy
          exact hz z
        · have hk : k < L.length * sz := by
            have := (List.getElem?_eq_some_iff.1 hu).1
            simp only [List.length_append, List.length_take, List.length_replicate, List.length_drop] at this
            omega
          rw [flatten_fill enc L M q (DV.int .i64) S 0 x' i.toNat lo hi hz (by omega) h0' hA hB hb k hk] at hd
          rw [get vs k hcl] at hu
          by_cases c1 : i.toNat * sz + q + lo.toNat ≤ k ∧ k < i.toNat * sz + q + lo.toNat + n
          · rw [if_pos c1] at hu
            rw [if_pos (by omega)] at hd
            injection hd with hd
            injection hu with hu
            subst hd
            subst hu
            exact .int
          · rw [if_neg c1] at hu
            rw [if_neg (by omega)] at hd
            exact (hrep k u d hu hd).mono (fun _ h => h) hFk
      unfold Oper.wp
      rw [hrun', Oper.upon_value]
      rw [setRow_to hn hs] at h
      exact h _ _ _ rfl (by rw [hd]; exact ⟨h1, h2, F, N, hm2, ⟨fun t => (hE t).mono' hFk, hE.glob.mono (fun _ h => h) hFk⟩⟩)
end
end LJ

namespace LJ
open Go Go.RowKit
set_option linter.unusedVariables false
set_option linter.unusedSimpArgs false
/-! ### Structs of ints, and of arrays of ints, compared -/
def allI : List DV → Bool
  | [] => true
  | .int _ _ :: l => allI l
  | _ :: _ => false
def arrI (P : Program) (T e : TypeId) (M : Nat) : Bool :=
  (match P.info? T with
    | some i => Nat.beq i.size M
    | none => false) && (P.info? e).isSome && P.plainKey e && Nat.beq (P.cellsOf e) 1 && (match P.underlying e with
    | some (.int _) => true
    | _ => false)
def eqFsA (P : Program) : Nat → List Field → Nat → Bool
  | o, [], n => Nat.beq o n
  | o, f :: fs, n => decide (f.name ≠ "_") && Nat.beq f.offset o && (match P.underlying f.type with
    | some (.int _) => P.plainKey f.type && eqFsA P (o + 1) fs n
    | some (.array M e) => arrI P f.type e M && eqFsA P (o + M) fs n
    | _ => false)
def eqOKA (P : Program) (T : TypeId) (n : Nat) : Bool :=
  !(P.eqGuardType P.depth T) && !(P.stoodInHeld T) && eqFsA P 0 (P.fieldsOf T).toList n && (match P.underlying T with
    | some (.struct _) => true
    | _ => false)
theorem eqC_split : ∀ (M : Nat) {ds es : List DV} {b : Bool}, allI ds = true → eqC ds es = some b → ∃ b1 b2, eqC (ds.take M) (es.take M) = some b1 ∧ eqC (ds.drop M) (es.drop M) = some b2 ∧ b = (b1 && b2)
  | 0, ds, es, b, ha, h => ⟨true, b, by simp [eqC], by simpa using h, by simp⟩
  | M + 1, [], [], b, ha, h => by
    simp only [eqC, Option.some.injEq] at h
    subst h
    exact ⟨true, true, by simp [eqC], by simp [eqC], rfl⟩
  | M + 1, [], y :: es, b, ha, h => by simp [eqC] at h
  | M + 1, x :: ds, [], b, ha, h => by cases x <;> simp [eqC] at h
  | M + 1, x :: ds, y :: es, b, ha, h => by
    cases x with
    | int kx a =>
      cases y with
      | int ky a' =>
        simp only [eqC] at h
        split at h
        · rename_i hk _
          subst hk
          split at h
          · rename_i r hr
            obtain ⟨b1, b2, h1, h2, h3⟩ := eqC_split M (show allI ds = true from ha) hr
            injection h with h
            subst h3
            refine ⟨decide (a = a') && b1, b2, ?_, by simpa using h2, ?_⟩
            · simp only [List.take_succ_cons, eqC, h1]
              split
              · rfl
              · rename_i hne _
                exact absurd rfl hne
            · rw [← h, Bool.and_assoc]
          · cases h
        · cases h
      | _ => simp [eqC] at h
    | _ => simp [allI] at ha
section
variable {P : Program} {o : Oper} {E : Env} {m : Mem}
theorem allI_get : ∀ {l : List DV}, allI l = true → ∀ (i : Nat) (x : DV), l[i]? = some x → ∃ (k : IntKind) (a : Int), x = DV.int k a
  | [], h, i, x, hx => by simp at hx
  | y :: l, h, 0, x, hx => by
    simp only [List.getElem?_cons_zero, Option.some.injEq] at hx
    subst hx
    cases y <;> first | exact ⟨_, _, rfl⟩ | (simp [allI] at h)
  | y :: l, h, i + 1, x, hx => by
    have : allI l = true := by cases y <;> first | exact h | (simp [allI] at h)
    exact allI_get this i x (by simpa using hx)
theorem allI_take : ∀ (l : List DV) (n : Nat), allI l = true → allI (l.take n) = true
  | [], n, h => by simp [allI]
  | x :: l, 0, h => by simp [allI]
  | x :: l, n + 1, h => by
    cases x with
    | int k a => exact allI_take l n h
    | _ => simp [allI] at h
theorem allI_drop : ∀ (l : List DV) (n : Nat), allI l = true → allI (l.drop n) = true
  | [], n, h => by simp [allI]
  | x :: l, 0, h => h
  | x :: l, n + 1, h => by
    cases x with
    | int k a => exact allI_drop l n h
    | _ => simp [allI] at h
theorem eqItems_int {F : Nat → Prop} {w0 w : World} {d : Nat} {e : TypeId} {kk : IntKind} (he : P.plainKey e = true) (hu : P.underlying e = some (.int kk)) (xs ys : Array Value) : ∀ (ds es : List DV) (k : Nat) (b : Bool), allI ds = true → eqC ds es = some b →
    (∀ i x, ds[i]? = some x → ∃ v, xs[k + i]? = some v ∧ RepD F w0 v x) → (∀ i x, es[i]? = some x → ∃ v, ys[k + i]? = some v ∧ RepD F w0 v x) → (Op.eqItems (d + 1) e 1 xs ys (List.range' k ds.length)).run P w = .ok b w
  | [], [], k, b, ha, hb, hx, hy => by
    simp only [eqC, Option.some.injEq] at hb
    subst hb
    simp [Op.eqItems]
  | [], y :: es, k, b, ha, hb, hx, hy => by simp [eqC] at hb
  | x :: ds, [], k, b, ha, hb, hx, hy => by cases x <;> simp [eqC] at hb
  | x :: ds, y :: es, k, b, ha, hb, hx, hy => by
    cases x with
    | int kx a =>
      cases y with
      | int ky a' =>
        obtain ⟨v, hv, rv⟩ := hx 0 _ rfl
        obtain ⟨u, hu', ru⟩ := hy 0 _ rfl
        obtain rfl := rv.int_inv
        obtain rfl := ru.int_inv
        simp only [eqC] at hb
        split at hb
        · rename_i hk _
          subst hk
          split at hb
          · rename_i r hr
            injection hb with hb
            have p1 : (part e xs (k * 1)).run P w = .ok (.int kx a) w := run_part_plain _ he (by simpa using hv)
            have p2 : (part e ys (k * 1)).run P w = .ok (.int kx a') w := run_part_plain _ he (by simpa using hu')
            have p3 := run_equalIn_int (P := P) w d e kx kk a a' hu
            have rest := eqItems_int he hu xs ys ds es (k + 1) r ha hr (fun i x h => by
              obtain ⟨v, h1, h2⟩ := hx (i + 1) x (by simpa using h)
              exact ⟨v, by rw [← h1]; congr 1; omega, h2⟩) (fun i x h => by
              obtain ⟨v, h1, h2⟩ := hy (i + 1) x (by simpa using h)
              exact ⟨v, by rw [← h1]; congr 1; omega, h2⟩) (w := w) (d := d)
            rw [List.length_cons, List.range'_succ]
            simp only [Op.eqItems, Sem.run_bind, p1, p2, p3, Result.andThen_ok]
            by_cases h : a = a'
            · subst h
              simp [rest, ← hb]
            · simp [h, ← hb]
          · cases hb
        · cases hb
      | _ => simp [eqC] at hb
    | _ => simp [allI] at ha
theorem part_arr {T e : TypeId} {M off : Nat} {i : TypeInfo} (hu : P.underlying T = some (.array M e)) (hi : P.info? T = some i) (hs : i.size = M) (xs : Array Value) (w : World) : (part T xs off).run P w = .ok (.agg (xs.extract off (off + M))) w := by
  have : (Go.sizeOf T).run P w = .ok M w := by rw [sizeOf_run hi, hs]
  simp [part, isAgg, run_underlying hu, this]
theorem run_eqFieldsA {F : Nat → Prop} {w0 w : World} {d n : Nat} (vs us : List Value) (ds es : List DV) (hl : vs.length = n) (hl2 : us.length = n) (hd : ds.length = n) (he : es.length = n) (ha : allI ds = true)
    (rv : ∀ (i : Nat) (v : Value) (x : DV), vs[i]? = some v → ds[i]? = some x → RepD F w0 v x) (ru : ∀ (i : Nat) (v : Value) (x : DV), us[i]? = some v → es[i]? = some x → RepD F w0 v x) : ∀ (fs : List Field) (k : Nat) (b : Bool), eqFsA P k fs n = true → k ≤ n → eqC (ds.drop k) (es.drop k) = some b → (Op.eqFields (d + 2) vs.toArray us.toArray fs).run P w = .ok b w
  | [], k, b, h, hk, hb => by
    have := Nat.eq_of_beq_eq_true (show Nat.beq k n = true from h)
    subst this
    rw [List.drop_eq_nil_of_le (by omega), List.drop_eq_nil_of_le (by omega)] at hb
    simp only [eqC, Option.some.injEq] at hb
    subst hb
    simp [Op.eqFields]
  | f :: fs, k, b, h, hk, hb => by
    simp only [eqFsA, Bool.and_eq_true, decide_eq_true_eq] at h
    obtain ⟨⟨h1, h2⟩, h3⟩ := h
    have ho := Nat.eq_of_beq_eq_true h2
    have bound : ∀ (fs : List Field) (o : Nat), eqFsA P o fs n = true → o ≤ n := by
      intro fs
      induction fs with
      | nil => intro o h; have := Nat.eq_of_beq_eq_true (show Nat.beq o n = true from h); omega
      | cons f fs ih =>
        intro o h
        simp only [eqFsA, Bool.and_eq_true] at h
        have h := h.2
        split at h
        · simp only [Bool.and_eq_true] at h; have := ih _ h.2; omega
        · simp only [Bool.and_eq_true] at h; have := ih _ h.2; omega
        · cases h
    have step : ∀ (M : Nat) (c : Bool) (x y : Value), eqFsA P (k + M) fs n = true → (part f.type vs.toArray f.offset).run P w = .ok x w → (part f.type us.toArray f.offset).run P w = .ok y w → eqC ((ds.drop k).take M) ((es.drop k).take M) = some c → (Op.equalIn (d + 2) f.type x y).run P w = .ok c w → (Op.eqFields (d + 2) vs.toArray us.toArray (f :: fs)).run P w = .ok b w := by
      intro M c x y hfs p1 p2 hc p3
      obtain ⟨b1, b2, q1, q2, q3⟩ := eqC_split M (allI_drop _ _ ha) hb
      rw [hc] at q1
      injection q1 with q1
      subst q1
      rw [List.drop_drop, List.drop_drop] at q2
      have rest := run_eqFieldsA vs us ds es hl hl2 hd he ha rv ru fs (k + M) b2 hfs (bound fs _ hfs) q2 (w := w) (d := d)
      simp only [Op.eqFields, if_pos h1, Sem.run_bind, p1, p2, p3, Result.andThen_ok]
      cases c with
      | true => simp [rest, q3]
      | false => simp [q3]
    split at h3
    · rename_i kk hu
      simp only [Bool.and_eq_true] at h3
      obtain ⟨hp, hfs⟩ := h3
      have hb2 := bound fs _ hfs
      obtain ⟨v, hv⟩ : ∃ v, vs[k]? = some v := ⟨_, List.getElem?_eq_getElem (by omega)⟩
      obtain ⟨u, hu'⟩ : ∃ u, us[k]? = some u := ⟨_, List.getElem?_eq_getElem (by omega)⟩
      obtain ⟨x, hx⟩ : ∃ x, ds[k]? = some x := ⟨_, List.getElem?_eq_getElem (by omega)⟩
      obtain ⟨y, hy⟩ : ∃ y, es[k]? = some y := ⟨_, List.getElem?_eq_getElem (by omega)⟩
      have p1 : (part f.type vs.toArray f.offset).run P w = .ok v w := run_part_plain _ hp (by rw [ho]; simpa using hv)
      have p2 : (part f.type us.toArray f.offset).run P w = .ok u w := run_part_plain _ hp (by rw [ho]; simpa using hu')
      have t1 : (ds.drop k).take 1 = [x] := by
        rw [List.take_one, List.head?_drop, hx]; rfl
      have t2 : (es.drop k).take 1 = [y] := by
        rw [List.take_one, List.head?_drop, hy]; rfl
      obtain ⟨b1, b2, q1, q2, q3⟩ := eqC_split 1 (allI_drop _ _ ha) hb
      rw [t1, t2] at q1
      obtain ⟨kx, a, rfl⟩ := allI_get ha k x hx
      cases y with
      | int ky a' =>
        have e1 := (rv k v _ hv hx).int_inv
        have e2 := (ru k u _ hu' hy).int_inv
        subst e1
        subst e2
        have q1' := q1
        simp only [eqC] at q1
        split at q1
        · rename_i hk _
          subst hk
          simp only [Option.some.injEq, Bool.and_true] at q1
          refine step 1 b1 _ _ hfs p1 p2 (by rw [t1, t2]; exact q1') ?_
          rw [run_equalIn_int w (d + 1) f.type kx kk a a' hu, ← q1]
          congr 1
        · cases q1
      | _ => simp [eqC] at q1
    · rename_i M e hu
      simp only [Bool.and_eq_true] at h3
      obtain ⟨hA, hfs⟩ := h3
      have hb2 := bound fs _ hfs
      unfold arrI at hA
      simp only [Bool.and_eq_true] at hA
      obtain ⟨⟨⟨⟨a1, a2⟩, a3⟩, a4⟩, a5⟩ := hA
      split at a1
      · rename_i i hi
        have hs := Nat.eq_of_beq_eq_true a1
        obtain ⟨ie, hie⟩ := Option.isSome_iff_exists.1 a2
        have hc1 := Nat.eq_of_beq_eq_true a4
        split at a5
        · rename_i kk hue
          obtain ⟨b1, b2, q1, q2, q3⟩ := eqC_split M (allI_drop _ _ ha) hb
          refine step M b1 _ _ hfs (part_arr hu hi hs _ w) (part_arr hu hi hs _ w) q1 ?_
          rw [run_equalIn_array w (d + 1) _ _ hu hie, hc1, List.range_eq_range']
          have hlen : ((ds.drop k).take M).length = M := by rw [List.length_take, List.length_drop]; omega
          have := eqItems_int (P := P) (F := F) (w0 := w0) (w := w) (d := d) a3 hue (vs.toArray.extract f.offset (f.offset + M)) (us.toArray.extract f.offset (f.offset + M)) ((ds.drop k).take M) ((es.drop k).take M) 0 b1 ?_ q1 (fun j x h => ?_) (fun j x h => ?_)
          · rw [hlen] at this
            exact this
          · exact allI_take _ _ (allI_drop _ _ ha)
          · rw [List.getElem?_take] at h
            split at h
            · rw [List.getElem?_drop] at h
              have hj : k + j < n := by have := (List.getElem?_eq_some_iff.1 h).1; omega
              refine ⟨vs[k + j], ?_, rv (k + j) _ x (List.getElem?_eq_getElem (by omega)) h⟩
              rw [Array.getElem?_extract, ho]
              simp
              omega
            · cases h
          · rw [List.getElem?_take] at h
            split at h
            · rw [List.getElem?_drop] at h
              have hj : k + j < n := by have := (List.getElem?_eq_some_iff.1 h).1; omega
              refine ⟨us[k + j], ?_, ru (k + j) _ x (List.getElem?_eq_getElem (by omega)) h⟩
              rw [Array.getElem?_extract, ho]
              simp
              omega
            · cases h
        · cases a5
      · cases a1
    · cases h3
theorem Y.structEqA {x y : Operand} {T T' : TypeId} {ds es : List DV} {b : Bool} (op : BinOp) (n : Nat) (hop : op = .eql ∨ op = .neq) (hx : opnd E x = some (.d (.agg ds))) (hy : opnd E y = some (.d (.agg es))) (ho : o.op = .binOp op T x y T') (hT : eqOKA P T n = true) (hd : ds.length = n) (ha : allI ds = true) (hb : eqC ds es = some b) : LJ.Yields P o E m (.d (.bool (match op with | .neq => !b | _ => b))) := fun c F N w a hm he => by
  obtain ⟨vs, hv, hl, hr⟩ := ((opnd_ok hx) F N w a he).d_inv.agg_inv
  obtain ⟨us, hu, hl2, hr2⟩ := ((opnd_ok hy) F N w a he).d_inv.agg_inv
  refine ⟨.bool (match op with | .neq => !b | _ => b), .d .bool, fun w' _ _ => ?_⟩
  unfold eqOKA at hT
  simp only [Bool.and_eq_true, Bool.not_eq_true'] at hT
  obtain ⟨⟨⟨t1, t2⟩, t3⟩, t4⟩ := hT
  have t5 : P.underlying T = some (.struct (P.fieldsOf T)) := by
    unfold Program.fieldsOf
    split at t4
    · rename_i fs h; rw [h]
    · cases t4
  have hfs := run_eqFieldsA (P := P) (F := F) (w0 := w) (w := w') (d := 9997) (n := n) vs us ds es (by rw [hl, hd]) (by rw [hl2, ← eqC_len hb, hd]) hd (by rw [← eqC_len hb, hd]) ha hr hr2 (P.fieldsOf T).toList 0 b t3 (Nat.zero_le _) hb
  have heq := run_equalIn_agg (P := P) w' 9999 T vs.toArray us.toArray t5 t2
  rw [hfs] at heq
  unfold execOp
  rcases hop with rfl | rfl
  · have g := run_eqGuard_agg (P := P) w' .eql T x y vs.toArray us.toArray t1
    simp [ho, hv, hu, g, run_eql_struct, heq]
  · have g := run_eqGuard_agg (P := P) w' .neq T x y vs.toArray us.toArray t1
    simp [ho, hv, hu, g, run_neq_struct, heq]
end
end LJ
namespace LJ
open Go Go.RowKit
set_option linter.unusedVariables false
set_option linter.unusedSimpArgs false
/-! ### Copied into a part of an array -/
def acopy {α : Type} [Inhabited α] (M : Nat) (S : List α) (lo hi : Int) (L : List α) : List α := (List.range M).map fun k => cond (Nat.ble lo.toNat k && Nat.blt k (lo.toNat + min L.length (hi - lo).toNat)) (L.getD (k - lo.toNat) default) (S.getD k default)
theorem acopy_getD {α : Type} [Inhabited α] (M : Nat) (S : List α) (lo hi : Int) (L : List α) (k : Nat) (hk : k < M) : (acopy M S lo hi L).getD k default = if lo.toNat ≤ k ∧ k < lo.toNat + min L.length (hi - lo).toNat then L.getD (k - lo.toNat) default else S.getD k default := by
  unfold acopy
  rw [List.getD_eq_getElem?_getD, List.getElem?_map, List.getElem?_range hk]
  simp only [Option.map_some, Option.getD_some]
  by_cases h : lo.toNat ≤ k ∧ k < lo.toNat + min L.length (hi - lo).toNat
  · rw [if_pos h, Nat.ble_eq_true_of_le h.1]
    have : Nat.blt k (lo.toNat + min L.length (hi - lo).toNat) = true := Nat.ble_eq_true_of_le h.2
    rw [this]
    rfl
  · rw [if_neg h]
    cases e : (Nat.ble lo.toNat k && Nat.blt k (lo.toNat + min L.length (hi - lo).toNat)) with
    | true =>
      rw [Bool.and_eq_true] at e
      exact absurd ⟨Nat.le_of_ble_eq_true e.1, Nat.le_of_ble_eq_true e.2⟩ h
    | false => rfl
section
variable {P : Program} {c : Ctx} {ops : Array Oper} {Q : Exit → Env → Mem → Prop} {E E' : Env} {m m' : Mem} {o : Oper} {l : List Oper}
theorem WO.cpyPsl (enc : Int → List DV) (M off : Nat) (S L : List Int) (lo hi : Int) {x y : Operand} {T e T' n cap d : Nat} {cs cs' : List AV} {tt : List (Nat × TK)} (htt : ttOK P tt = true) (hT : ttGet tt T = some (.slice e 1)) (henc : enc = fun v => [.int .i64 v]) (hx : opnd E x = some (.psl n (off + lo.toNat) (hi - lo).toNat cap)) (hn : m.get n = some (.box T' cs)) (hy : opnd E y = some (.d (slT enc L))) (ho : o.op = .call { callee := .builtin .copy, args := #[x, y], argTypes := #[T, T] }) (h0 : Nat.blt 0 M = true)
    (hA : (cs.drop off).take M = (List.range M).map (fun k => AV.d (.int .i64 (S.getD k default)))) (hB : cs' = cs.take off ++ (List.range M).map (fun k => AV.d (.int .i64 ((acopy M S lo hi L).getD k default))) ++ cs.drop (off + M)) (hb : 0 ≤ lo ∧ lo ≤ hi ∧ hi ≤ (M : Int)) (hK : inl c.KN n = false) (hd : o.dst = some d) (hlt : Nat.blt d c.ntmps = true) (hs : m.set n (.box T' cs') = m') : WO c P o E m ((d, .d (.int .i64 ((min L.length (hi - lo).toNat : Nat) : Int))) :: E) m' := fun Q K a w hr h => by
  subst hs
  obtain ⟨h1, h2, F, N, hm, he⟩ := hr
  obtain ⟨ti, hT1, hti, hts⟩ := elemOf_spec (TK.slice_ok (ttGet_ok htt hT))
  have hM := arr_len hA (Nat.le_of_ble_eq_true h0)
  obtain ⟨vs, g1, g2, g3⟩ := hm.obj n _ hn
  have hry := (opnd_ok hy F N w a he).d_inv.slf_inv
  rw [tab_list] at hry
  obtain ⟨ad, cp, hvy⟩ := hry.sl_inv
  rw [hvy] at hry
  rw [List.length_map] at hvy hry
  have hrx := (opnd_ok hx) F N w a he
  generalize hvx : a.eval x = xv at hrx
  have l2 : ∀ e ∈ L.map enc, e.length = 1 := fun e he => by
    obtain ⟨x, _, rfl⟩ := List.mem_map.1 he
    subst henc
    rfl
  have hfl : (L.map enc).flatten = L.map (DV.int .i64) := by subst henc; exact flatten_one _ L
  cases hrx with
  | @psl _ _ _ _ o' hoo =>
    generalize hc : min L.length (hi - lo).toNat = cn at *
    -- what goes over
    have got : ∃ us : List Value, us.length = cn ∧ (∀ k u, us[k]? = some u → RepD F w u (.int .i64 (L.getD k default))) ∧ (0 < cn → ∃ ad', ad = some ad' ∧ ∀ j u, us[j]? = some u → w.cell? (ad'.add j) = some u) := by
      cases ad with
      | none =>
        have hL : L = [] := by
          have key : ∀ (n : Nat) (q : List (List DV)), RepD F w (.slice none n cp) (.sl q) → q = [] := fun n q hh => by cases hh; rfl
          have := key _ _ hry
          simpa using this
        subst hL
        have : cn = 0 := by rw [← hc]; simp
        subst this
        exact ⟨[], rfl, fun k u hk => by simp at hk, fun h => absurd h (by omega)⟩
      | some ad =>
        obtain ⟨us, u1, u2, u3⟩ := hry.cellsOf l2
        rw [hfl] at u1 u3
        rw [List.length_map] at u1
        refine ⟨us.take cn, by rw [List.length_take]; omega, fun k u hk => ?_, fun _ => ⟨ad, rfl, fun j u hj => ?_⟩⟩
        · rw [List.getElem?_take] at hk
          split at hk
          · have hkl : k < L.length := by omega
            have := u3 k u _ hk (by rw [List.getElem?_map, List.getElem?_eq_getElem hkl]; rfl)
            rw [List.getD_eq_getElem?_getD, List.getElem?_eq_getElem hkl]
            exact this
          · cases hk
        · rw [List.getElem?_take] at hj
          split at hj
          · exact u2 j u hj
          · cases hj
    obtain ⟨us, ul, ur, ua⟩ := got
    have hone : ∀ u ∈ us, u.oneCell' = true := fun u hu => by
      obtain ⟨k, hk⟩ := List.getElem?_of_mem hu
      rw [(ur k u hk).int_inv]
      rfl
    obtain ⟨w', r1, r2, r3, r4, r5, r6, r7⟩ := setCells_heap (P := P) (N.β n) T' us 0 (off + lo.toNat) vs.toArray w g1 (by simp only [List.size_toArray]; omega) hone
    simp only [Nat.add_zero, List.toList_toArray] at r2
    have hsz : ∀ w'' : World, (Go.sizeOf e).run P w'' = .ok 1 w'' := fun w'' => by rw [sizeOf_run hti, hts]
    have hrun : (Builtin.copy_ #[T, T] o.type #[.slice (some ⟨N.β n, o', none⟩) (hi - lo).toNat cap, .slice ad L.length cp]).run P w = .ok (.int .i64 (cn : Int)) w' := by
      rcases Nat.eq_zero_or_pos cn with h | h
      · have hus : us = [] := List.eq_nil_of_length_eq_zero (by omega)
        subst hus
        have : w' = w := by simpa [storeCells] using r1.symm
        subst this
        rw [h]
        exact run_copy_none (P := P) w' T T o.type e _ ad _ cap _ cp hT1 (by rw [hti]; simp [hts]) (by show min _ _ = 0; omega)
      · obtain ⟨ad', rfl, hcells⟩ := ua h
        have := hoo (by omega)
        subst this
        have hl := run_loadCells_list (P := P) w ad' us hcells
        have hcn : Nat.min L.length (hi - lo).toNat = us.length := by show min _ _ = _; omega
        rw [← ul]
        simp [Builtin.copy_, run_underlying hT1, Builtin.lenOf, Builtin.firstCells, Go.sizeOf, typeInfo, hti, hts, hcn, hl, r1, goInt]
    have hrun' : (execOp a.eval o).run P w = .ok (.value (.int .i64 (cn : Int))) w' := by
      unfold execOp
      simp [ho, resolve, invoke, builtin, hvx, hvy, hrun]
    have hFk : ∀ b, F b → w'.heap[b]? = w.heap[b]? := fun b hb => r7 b (fun e => (hm.free n _ b hn (by rw [e]; rfl)).1 hb)
    have hm' : MemOK c F N w' (m.set n (.box T' cs')) := by
      refine hm.write hn hK r3 r4 r5 (by omega) (fun b hb hne => r7 b (fun e => hne (by rw [e]; rfl))) ⟨_, r2, ?_, ?_⟩ rfl
      · rw [hB]
        simp only [List.length_append, List.length_take, List.length_drop, List.length_map, List.length_range]
        omega
      · intro i v q hvi hqi
        rw [arr_upd hM hB i] at hqi
        have tl : (List.take (off + lo.toNat) vs).length = off + lo.toNat := by rw [List.length_take]; omega
        have old : ¬ (off + lo.toNat ≤ i ∧ i < off + lo.toNat + cn) → vs[i]? = some v := fun hno => by
          by_cases c1 : i < off + lo.toNat
          · rw [List.append_assoc, List.getElem?_append_left (by omega), List.getElem?_take, if_pos c1] at hvi
            exact hvi
          · rw [List.getElem?_append_right (by rw [List.length_append, tl, ul]; omega), List.length_append, tl, ul, List.getElem?_drop, show off + lo.toNat + cn + (i - (off + lo.toNat + cn)) = i by omega] at hvi
            exact hvi
        by_cases c2 : off ≤ i ∧ i < off + M
        · rw [if_pos c2, acopy_getD _ _ _ _ _ _ (by omega), hc] at hqi
          injection hqi with hqi
          by_cases c3 : lo.toNat ≤ i - off ∧ i - off < lo.toNat + cn
          · rw [if_pos c3] at hqi
            subst hqi
            rw [List.append_assoc, List.getElem?_append_right (by omega), tl, List.getElem?_append_left (by omega)] at hvi
            have := ur _ v hvi
            rw [show i - (off + lo.toNat) = i - off - lo.toNat by omega] at this
            exact .d (this.mono (fun _ h => h) hFk)
          · rw [if_neg c3] at hqi
            subst hqi
            refine (g3 i v _ (old (by omega)) ?_).mono' hFk
            have := arr_get hA (i - off) (by omega)
            rw [show off + (i - off) = i by omega] at this
            exact this
        · rw [if_neg c2] at hqi
          exact (g3 i v q (old (by omega)) hqi).mono' hFk
    unfold Oper.wp
    rw [hrun', Oper.upon_value]
    exact h _ _ _ rfl (by rw [hd]; exact Rel.put h1 h2 hm' ⟨fun t => (he t).mono' hFk, he.glob.mono (fun _ h => h) hFk⟩ hlt (.d .int))
end
end LJ
namespace LJ
open Go Go.RowKit
/-- Behind a test, whichever way: what follows once. -/
theorem WC.cutN {c : Ctx} {P : Program} {Q : Exit → Env → Mem → Prop} {E : Env} {m : Mem} {C : Code} (K : Env → Mem → Prop) (h : WC c P C (QThen K Q) E m) (hk : ∀ E m, K E m → Q .normal E m) : WC c P C Q E m :=
  WC.mono h fun x E m hq => by cases x <;> first | exact hk E m hq | exact hq
end LJ
