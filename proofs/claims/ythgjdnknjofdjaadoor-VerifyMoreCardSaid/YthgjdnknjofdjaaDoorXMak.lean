/- A logic for the walks: a slice with room, and nothing in it. -/
import Derived.Test.YthgjdnknjofdjaaDoorXBld
namespace LJ
open Go Go.RowKit
set_option linter.unusedVariables false
set_option linter.unusedSimpArgs false

section
variable {P : Program} {c : Ctx} {o : Oper} {E E' : Env} {m m' : Mem} {ops : Array Oper} {Q : Exit → Env → Mem → Prop} {l : List Oper}
theorem WO.makeC {α : Type} [Inhabited α] (enc : α → List DV) (z : α) (C : Int) {x y : Operand} {k k' : IntKind} {T e sz bytes d r : Nat} {tt : List (Nat × TK)} {et : List (Nat × Nat × Nat)} (htt : ttOK P tt = true) (het : etOK P et = true) (hT : ttGet tt T = some (.slice e sz)) {q : Nat} (he : et.find? (fun q => Nat.beq q.1 e) = some (q, sz, bytes)) (hz : zeroT tt e = some (enc z)) (hzl : (enc z).length = sz)
  (hx : opnd E x = some (.d (.int k 0))) (hy : opnd E y = some (.d (.int k' C))) (ho : o.op = .makeSlice T x y) (hL : 0 ≤ C ∧ C ≤ 140737488355328 ∧ C.toNat * bytes ≤ 140737488355328)
  (hP : inl c.P0 r = false) (hK : inl c.KN r = false) (hd : o.dst = some d) (hlt : Nat.blt d c.ntmps = true) : WO c P o E m ((d, .own r) :: E.forget [r]) ((r, .row e sz (([] : List α).map enc)) :: m.forget [r]) := fun Q K a w hrel h => by
 obtain ⟨h1, h2, F, N, hm, hE⟩ := hrel
 obtain ⟨i, z', hi, hs1, hs2, hs3, hs4, hs5⟩ := elB_spec (etOK_get het he)
 obtain ⟨i', hT1, hi', _⟩ := elemOf_spec (TK.slice_ok (ttGet_ok htt hT))
 obtain ⟨i2, z2, hi2, hz2, hds⟩ := zeroD_spec (zeroT_ok htt hz)
 have e1 : i2 = i := by rw [hi] at hi2; injection hi2 with hi2; exact hi2.symm
 subst e1
 have e2 : z2 = z' := by rw [hs4] at hz2; injection hz2 with hz2; exact hz2.symm
 subst e2
 obtain ⟨hl, hv⟩ := dvsOf_rep (F := F) (w := w) hds
 have hvx : a.eval x = .int k 0 := (opnd_ok hx).int_eval hE
 have hvy : a.eval y = .int k' C := (opnd_ok hy).int_eval hE
 obtain ⟨n, hn⟩ : ∃ n : Nat, C = (n : Int) := ⟨C.toNat, by omega⟩
 subst hn
 simp only [Int.toNat_natCast] at hL h ⊢
 have hbb : (i2.bytes : Int) * (n : Int) ≤ 281474976710656 := by
  rw [hs2, ← Int.natCast_mul, Nat.mul_comm]
  omega
 have hrun := run_make (P := P) w T e i2 z2 hT1 hi hs4 k k' 0 n (by decide) (by omega) hbb (by omega)
 simp only [Int.toNat_natCast] at hrun
 rw [hs1] at hrun
 generalize hcur : madeCells z2.cells (n * sz) = cur at hrun
 have hcs : cur.size = n * sz := by rw [← hcur]; exact size_madeCells _ _
 have hσ : (N.setσ r (.slice (some ⟨w.heap.size, 0, none⟩) 0 n)).σ r = .slice (some ⟨w.heap.size, 0, none⟩) 0 n := by simp [Names.setσ]
 have g := Grew.alloc w (.cells cur e)
 have hFk : ∀ b, F b → (w.alloc (.cells cur e)).heap[b]? = w.heap[b]? := fun b hb => g.block b (hm.Fin b hb)
 have hm' : MemOK c F (N.setσ r (.slice (some ⟨w.heap.size, 0, none⟩) 0 n)) (w.alloc (.cells cur e)) ((r, .row e sz (([] : List α).map enc)) :: m.forget [r]) := by
  refine hm.renew (N.setσ_but r _) hP hK g.os g.tape g.output g.size (fun b hb _ => g.block b hb) ⟨[], ?_, (fun e h => by cases h), fun i v x hvi => by simp at hvi⟩ (fun b hb => ?_)
  ·rw [hσ, List.map_nil, List.length_nil]
   refine ⟨by simp, .inr ⟨w.heap.size, n, cur, rfl, Nat.zero_le _, heap_new w _, Nat.zero_le _, ?_, hcs, by simp⟩⟩
   simp only [maxLen]; omega
  ·have hb' : ((N.setσ r (.slice (some ⟨w.heap.size, 0, none⟩) 0 n)).σ r).ownBlock = some b := hb
   rw [hσ] at hb'
   have : w.heap.size = b := by simpa [Value.ownBlock] using hb'
   exact .inr (by omega)
 have hrun' : (execOp a.eval o).run P w = .ok (.value (.slice (some ⟨w.heap.size, 0, none⟩) 0 n)) (w.alloc (.cells cur e)) := by
  unfold execOp
  simp [ho, hvx, hvy, hrun]
 unfold Oper.wp
 rw [hrun', Oper.upon_value]
 exact h _ _ _ rfl (by rw [hd]; exact Rel.put h1 h2 hm' (hE.forget (N.setσ_but r _) hFk) hlt (own_of hσ))
theorem WL.makeC {α : Type} [Inhabited α] (enc : α → List DV) (z : α) (C : Int) {x y : Operand} {k k' : IntKind} {T e sz bytes d r : Nat} {tt : List (Nat × TK)} {et : List (Nat × Nat × Nat)} (htt : ttOK P tt = true) (het : etOK P et = true) (hT : ttGet tt T = some (.slice e sz)) {q : Nat} (he : et.find? (fun q => Nat.beq q.1 e) = some (q, sz, bytes)) (hz : zeroT tt e = some (enc z)) (hzl : (enc z).length = sz)
  (hx : opnd E x = some (.d (.int k 0))) (hy : opnd E y = some (.d (.int k' C))) (ho : o.op = .makeSlice T x y) (hL : 0 ≤ C ∧ C ≤ 140737488355328 ∧ C.toNat * bytes ≤ 140737488355328)
  (hd : o.dst = some d) (hlt : Nat.blt d c.ntmps = true) (hF : eAppT tt c.P0 c.KN r e sz (([] : List α).map enc) E m d = some (E', m')) (hg : o.guard = none) (hk : WL c P ops Q l E' m') : WL c P ops Q (o :: l) E m := by
 unfold eAppT at hF
 split at hF
 ·cases hF
 ·rename_i hn
  obtain ⟨g1, g2⟩ := okN_ok hn
  split at hF
  ·rename_i E1 m1 h2 h3
   simp only [Option.some.injEq, Prod.mk.injEq] at hF
   obtain ⟨rfl, rfl⟩ := hF
   rw [fgtE_eq h2, fgtM_eq h3] at hk
   exact WL.step (WO.makeC enc z C htt het hT he hz hzl hx hy ho hL g1 g2 hd hlt) hg hk
  ·cases hF
section
variable {tp : Bool} {c0 : Ctx} {s : Stay} {EK EK2 E2 : Env} {sch : Sch} {ix : Nat}
end
end

section
variable {P : Program} {c : Ctx} {o : Oper} {E E' : Env} {m m' : Mem} {ops : Array Oper} {Q : Exit → Env → Mem → Prop} {l : List Oper}
end
end LJ
