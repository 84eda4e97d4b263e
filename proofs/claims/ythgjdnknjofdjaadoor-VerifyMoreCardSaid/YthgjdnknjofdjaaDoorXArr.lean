/- A logic for the walks: arrays by index: in data, in boxes, in rows of one's own. -/
import Derived.Test.YthgjdnknjofdjaaDoorXIdx
namespace LJ
open Go Go.RowKit
set_option linter.unusedVariables false
set_option linter.unusedSimpArgs false

def aset {α : Type} [Inhabited α] (M : Nat) (S : List α) (j : Nat) (v : α) : List α := (List.range M).map fun i => cond (Nat.beq i j) v (S.getD i default)
theorem arr_get {β : Type} {l : List β} {q M : Nat} {h : Nat → β} (hA : (l.drop q).take M = (List.range M).map h) (k : Nat) (hk : k < M) : l[q + k]? = some (h k) := by
 have : ((l.drop q).take M)[k]? = some (h k) := by rw [hA, List.getElem?_map, List.getElem?_range hk]; rfl
 rwa [List.getElem?_take, if_pos hk, List.getElem?_drop] at this

section
variable {P : Program} {c : Ctx} {o : Oper} {E E' : Env} {m m' : Mem} {ops : Array Oper} {Q : Exit → Env → Mem → Prop} {l : List Oper}
def arrB (P : Program) (T : TypeId) (M : Nat) : Bool :=
 match P.underlying T with
 | some (.array n e) => Nat.beq n M && Nat.blt 1 M && sizeB P e 1
 | _ => false
theorem arrB_ok {T : TypeId} {M : Nat} (h : arrB P T M = true) : ∃ e i, P.underlying T = some (.array M e) ∧ 1 < M ∧ P.info? e = some i ∧ i.size = 1 := by
 unfold arrB at h
 split at h
 ·rename_i n e hT
  simp only [Bool.and_eq_true] at h
  obtain ⟨⟨h1, h2⟩, h3⟩ := h
  have := Nat.eq_of_beq_eq_true h1
  subst this
  unfold sizeB at h3
  split at h3
  ·rename_i i hi
   exact ⟨e, i, hT, Nat.le_of_ble_eq_true h2, hi, Nat.eq_of_beq_eq_true h3⟩
  ·cases h3
 ·cases h
theorem run_indexArr {T : TypeId} {M : Nat} (hT : arrB P T M = true) (a : Addr) (k : IntKind) (i : Int) (hi : 0 ≤ i ∧ i < M) (w : World) : (Instr.indexAt T (.pointer (some a)) (.int k i)).run P w = .ok (.pointer (some (a.add i.toNat))) w := by
 obtain ⟨e, inf, h1, h2, h3, h4⟩ := arrB_ok hT
 simp [Instr.indexAt, asIntOf, run_underlying h1, Instr.sureAddr, hi, sizeOf_run h3, h4]
theorem Y.idxElpA (M : Nat) (h : Nat → DV) (i : Int) {cs : List DV} {x y : Operand} {k : IntKind} {T : TypeId} (hT : arrB P T M = true) (hx : opnd E x = some (.d (.elp cs))) (hy : opnd E y = some (.d (.int k i))) (ho : o.op = .indexAddr T x y) (hA : cs.take M = (List.range M).map h) (hi : 0 ≤ i ∧ i < M) : LJ.Yields P o E m (.d (.elp [h i.toNat])) := fun c F N w a hm he => by
 obtain ⟨ad, u, hv, hs, hF, h1, h2⟩ := ((opnd_ok hx) F N w a he).d_inv.elp_inv
 have hvy := (opnd_ok hy).int_eval he
 have hg := arr_get (l := cs) (q := 0) (by rw [List.drop_zero]; exact hA) i.toNat (by omega)
 rw [Nat.zero_add] at hg
 refine ⟨.pointer (some (ad.add i.toNat)), .d (.elp (fun j => u (i.toNat + j)) (by rw [add_spot hs]) (by rw [add_spot hs]; exact hF) (fun j d hj => ?_) (fun j d hj => ?_)), fun w' _ _ => by unfold execOp; simp [ho, hv, hvy, run_indexArr hT ad k i hi]⟩
 ·have : j = 0 ∧ h i.toNat = d := by
   cases j with
   | zero => simpa using hj
   | succ j => simp at hj
  obtain ⟨rfl, rfl⟩ := this
  rw [add_spot hs]
  simpa [Nat.add_assoc] using h1 i.toNat _ hg
 ·have : j = 0 ∧ h i.toNat = d := by
   cases j with
   | zero => simpa using hj
   | succ j => simp at hj
  obtain ⟨rfl, rfl⟩ := this
  exact h2 i.toNat _ hg
theorem Y.idxPtrA (M : Nat) (i : Int) {x y : Operand} {k : IntKind} {T n off : Nat} (hT : arrB P T M = true) (hx : opnd E x = some (.ptr n off)) (hy : opnd E y = some (.d (.int k i))) (ho : o.op = .indexAddr T x y) (hi : 0 ≤ i ∧ i < M) : LJ.Yields P o E m (.ptr n (off + i.toNat)) := fun c F N w a hm he =>
 ⟨_, .ptr, fun w' _ _ => by unfold execOp; simp [ho, (opnd_ok hx).ptr_eval he, (opnd_ok hy).int_eval he, run_indexArr hT _ k i hi, Addr.add_lit]⟩
theorem Y.loadPtrA (M off : Nat) (h : Nat → DV) (i : Int) {x : Operand} {T T' n : Nat} {cs : List AV} (hx : opnd E x = some (.ptr n (off + i.toNat))) (hn : m.get n = some (.box T' cs)) (ho : o.op = .load T x) (hT : oneB P T = true) (hA : (cs.drop off).take M = (List.range M).map (fun k => AV.d (h k))) (hi : 0 ≤ i ∧ i < M) : LJ.Yields P o E m (.d (h i.toNat)) :=
 Y.load (opnd_ok hx) hn (arr_get hA i.toNat (by omega)) ho hT
theorem WL.wo (h : WO c P o E m E' m') (hg : o.guard = none) (hk : WL c P ops Q l E' m') : WL c P ops Q (o :: l) E m := WL.step h hg hk
end
theorem WC.known {P : Program} {c : Ctx} {Q : Exit → Env → Mem → Prop} {C : Code} {E : Env} {m : Mem} {g : Nat} {b : Bool} (v : Bool) (hb : E.get g = .d (.bool b)) (h : b = v) (hk : WC c P C Q ((g, .d (.bool v)) :: E) m) : WC c P C Q E m := fun a w hr =>
 hk a w (hr.weak1 fun F N w v' h' => by rw [hb, h] at h'; exact h')
def ArgsLe : List AV → List AV → Prop
 | [], [] => True
 | p :: ps, q :: qs => AVle p q ∧ ArgsLe ps qs
 | _, _ => False
end LJ
