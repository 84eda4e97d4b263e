/- A logic for the walks: more values: parts of slices, the least and the greatest, structs compared, lists appended. -/
import Derived.Test.YtdebndfaknfefaaGreatDoorXArg
import Derived.Laws.StructEq
import Derived.ChangeKeysEq
namespace LJ
open Go Go.RowKit
set_option linter.unusedVariables false
set_option linter.unusedSimpArgs false
section
variable {P:Program} {c:Ctx} {ops:Array Oper} {Q:Exit→Env→Mem→Prop} {E E':Env} {m m':Mem} {o:Oper} {l:List Oper}
theorem WL.yv {d:Nat} {p:AV} (hy:LJ.aP P o E m p) (hd:o.dst=some d) (hg:o.guard=none) (hlt:Nat.blt d c.ntmps=true) (hk:WL c P ops Q l ((d,p)::E) m):WL c P ops Q (o::l) E m:=
 WL.step (WO.val hy hd hlt) hg hk
theorem WL.gyv {d j g:Nat} {want:Bool} {x:Oper} {p:AV} (hy:LJ.aP P o E m p) (hd:o.dst=some d) (hg:o.guard=some (j,want)) (hj:ops[j]? =some x) (hx:x.dst=some g) (hb:E.get g= .d (.bool want)) (hlt:Nat.blt d c.ntmps=true) (hk:WL c P ops Q l ((d,p)::E) m):WL c P ops Q (o::l) E m:=
 WL.gstep (WO.val hy hd hlt) hg hj hx hb hk
theorem WH.yv {c0:Ctx} {s:Stay} {EK:Env} {sch:Sch} {i d:Nat} {p:AV} (hi:nth ops.toList i=some o) (hy:LJ.aP P o EK s.m p) (hd:o.dst=some d) (hg:o.guard=none) (hlt:okQ c.ntmps E d=true) (hk:WH true c0 c s P ops Q sch ((d,p)::EK) E m):WH true c0 c s P ops Q (.one i true sch) EK E m:=by
 rw [gS,Array.getElem?_toList] at hi
 have:=WHQ.take (c0:=c0) (c:=c) (P:=P) (Q:=Q) (m:=m) (rest:=sch) (p:=p) (l:=[]) hd hlt (fun a hek hs=>by
  obtain ⟨v,hv,hrun⟩:=iz hy hek hs
  exact ⟨v,hv, .inl ⟨by simp [Region.wanted,hg],hrun⟩⟩) (fun is his=>by
   cases is with
   | nil=>exact hk
   | cons i is=>cases his)
 exact this [i] (by simp [hi])
theorem WH.yvs {tp:Bool} {c0:Ctx} {s:Stay} {EK EK2 E2:Env} {sch:Sch} {i d:Nat} {p:AV} (hi:nth ops.toList i=some o) (hy:LJ.aP P o (EK++E) m p) (hd:o.dst=some d) (hg:o.guard=none) (hlt:Nat.blt d c.ntmps=true) (hf:jX c.P0 EK=true) (h2:jE o.dst ((d,p)::(EK++E)) EK E=some (EK2,E2)) (hk:WH true c0 c s P ops Q sch EK2 E2 m):WH tp c0 c s P ops Q (.one i false sch) EK E m:=
 WH.step hi (WO.val hy hd hlt) hg hf h2 hk
def iMin (a b:Int):Int:=if b<a then b else a
def iMax (a b:Int):Int:=if a<b then b else a
theorem Y.min {x y:Operand} {k k':IntKind} {a b:Int} {ts:Array TypeId} (hx:opnd E x=some (.d (.int k a))) (hy:opnd E y=some (.d (.int k' b))) (ho:o.op= .call {callee:= .builtin .min,args:=#[x,y],argTypes:=ts}):LJ.aP P o E m (.d (.int k (iMin a b))):=
 Y.data (u:= .int k (iMin a b)) (fun _ _ _=> .d .int) fun F N w ac he w'=>by
  unfold execOp
  simp [ho,(aI hx).int_eval he,(aI hy).int_eval he,resolve,invoke,builtin,Builtin.min_,Builtin.min2,iMin]
end
end LJ
