/- A logic for the walks: more values: parts of slices, the least and the greatest, structs compared, lists appended. -/
import Derived.Test.YtpnnkehkjfciiaaGreatDoorXArg
import Derived.Laws.StructEq
import Derived.ChangeKeysEq
namespace LJ
open Go Go.RowKit
set_option linter.unusedVariables false
set_option linter.unusedSimpArgs false
section
variable {P:Program} {c:Ctx} {ops:Array Oper} {Q:Exit→Env→Mem→Prop} {E E':Env} {m m':Mem} {o:Oper} {l:List Oper}
theorem WL.yv {d:Nat} {p:AV} (hy:LJ.aF P o E m p) (hd:o.dst=some d) (hg:o.guard=none) (hlt:Nat.blt d c.ntmps=true) (hk:WL c P ops Q l ((d,p)::E) m):WL c P ops Q (o::l) E m:=
 WL.step (WO.val hy hd hlt) hg hk
theorem WL.gyv {d j g:Nat} {want:Bool} {x:Oper} {p:AV} (hy:LJ.aF P o E m p) (hd:o.dst=some d) (hg:o.guard=some (j,want)) (hj:ops[j]? =some x) (hx:x.dst=some g) (hb:E.get g= .d (.bool want)) (hlt:Nat.blt d c.ntmps=true) (hk:WL c P ops Q l ((d,p)::E) m):WL c P ops Q (o::l) E m:=
 WL.gstep (WO.val hy hd hlt) hg hj hx hb hk
theorem WH.yv {c0:Ctx} {s:Stay} {EK:Env} {sch:Sch} {i d:Nat} {p:AV} (hi:nth ops.toList i=some o) (hy:LJ.aF P o EK s.m p) (hd:o.dst=some d) (hg:o.guard=none) (hlt:okQ c.ntmps E d=true) (hk:WH true c0 c s P ops Q sch ((d,p)::EK) E m):WH true c0 c s P ops Q (.one i true sch) EK E m:=by
 rw [ep,Array.getElem?_toList] at hi
 have:=WHQ.take (c0:=c0) (c:=c) (P:=P) (Q:=Q) (m:=m) (rest:=sch) (p:=p) (l:=[]) hd hlt (fun a hek hs=>by
  obtain ⟨v,hv,hrun⟩:=er hy hek hs
  exact ⟨v,hv, .inl ⟨by simp [Region.wanted,hg],hrun⟩⟩) (fun is his=>by
   cases is with
   | nil=>exact hk
   | cons i is=>cases his)
 exact this [i] (by simp [hi])
theorem WH.yvs {tp:Bool} {c0:Ctx} {s:Stay} {EK EK2 E2:Env} {sch:Sch} {i d:Nat} {p:AV} (hi:nth ops.toList i=some o) (hy:LJ.aF P o (EK++E) m p) (hd:o.dst=some d) (hg:o.guard=none) (hlt:Nat.blt d c.ntmps=true) (hf:fR c.P0 EK=true) (h2:ft o.dst ((d,p)::(EK++E)) EK E=some (EK2,E2)) (hk:WH true c0 c s P ops Q sch EK2 E2 m):WH tp c0 c s P ops Q (.one i false sch) EK E m:=
 WH.step hi (WO.val hy hd hlt) hg hf h2 hk
def iMin (a b:Int):Int:=if b<a then b else a
def iMax (a b:Int):Int:=if a<b then b else a
theorem RepD.part {F:Nat→Prop} {w:World} {a:Option Addr} {n cp sz:Nat} {es:List (List DV)} (h:RepD F w (.slice a n cp) (.sl es)) (hz:∀ e∈es,e.length=sz) (l u:Nat) (h1:l≤u) (h2:u≤n):RepD F w (sliced a l u cp sz) (.sl ((es.take u).drop l)):=by
 cases h with
 | nil=>
  have hu:u=0:=by omega
  have hl:l=0:=by omega
  subst hu;subst hl
  simp only [List.take_nil,List.drop_nil]
  unfold sliced
  exact .nil
 | @sl a n cp sz' es v hn h0 hc hs hF hz' hm hh=>
  unfold sliced
  by_cases hlu:l=u
  ·subst hlu
   rw [show (es.take l).drop l=[] from List.drop_eq_nil_of_le (by simp;omega),Nat.sub_self]
   exact .nil
  ·have hne:¬cp=l:=by omega
   have hzz:sz'=sz:=by
    have h1:=hz' 0 es[0] (List.getElem?_eq_getElem (by omega))
    rw [←h1]
    exact hz _ (List.getElem_mem _)
   subst hzz
   rw [if_neg hne]
   have ha:a=⟨a.block,a.off,none⟩:=by cases a;simp_all
   have get:∀ (i:Nat) (e:List DV),((es.take u).drop l)[i]? =some e→es[i+l]? =some e∧i<u - l:=fun i e he=>by
    rw [List.getElem?_drop,List.getElem?_take] at he
    split at he
    ·exact ⟨by rw [Nat.add_comm];exact he,by omega⟩
    ·cases he
   simp only [Option.map_some]
   rw [ha,Addr.add_lit]
   refine .sl (sz:=sz') (fun i j=>v (i+l) j) (by simp;omega) (by omega) (by omega) rfl hF (fun i e he=>hz' _ e (get i e he).1) (fun i j e d he hd=>?_) (fun i j e d he hd=>hh _ j e d (get i e he).1 hd)
   have:=hm (i+l) j e d (get i e he).1 hd
   rw [←this]
   congr 2
   dsimp only
   rw [Nat.add_mul]
   omega
theorem Y.sliceT {α:Type} [Inhabited α] (enc:α→List DV) (L:List α) {x:Operand} {T e:TypeId} {sz:Nat} {tt:List (Nat×TK)} (htt:ttOK P tt=true) (hT:cq tt T=some (.slice e sz)) (hz:∀ x,(enc x).length=sz) (lo hi:Option Operand) (i j:Int) (hx:opnd E x=some (.d (slT enc L)))
  (hl:match lo with | none=>i=0 | some y=>∃ k,opnd E y=some (.d (.int k i))) (hh:match hi with | none=>j=L.length | some y=>∃ k,opnd E y=some (.d (.int k j))) (ho:o.op= .slice T x lo hi none) (hne:lo.isSome||hi.isSome) (hb:0≤i∧i≤j∧j≤(L.length:Int)):LJ.aF P o E m (.d (slT enc ((L.take j.toNat).drop i.toNat))):=fun c F N w a hm he=>by
 have hr:=(aA hx F N w a he).d_inv.slf_inv
 rw [kO] at hr
 obtain ⟨ad,cp,hv⟩:=hr.sl_inv
 rw [hv] at hr
 rw [List.length_map] at hv hr
 obtain ⟨ti,hi1,hti,hts⟩:=bd (TK.slice_ok (aR htt hT))
 have hel:P.elem T=e:=by simp [Program.elem,hi1]
 have hcap:L.length≤cp:=by
  have hlen:(L.map enc).length=L.length:=by simp
  have key:∀ (n:Nat) (q:List (List DV)),q.length=n→RepD F w (.slice ad n cp) (.sl q)→n≤cp:=fun n q hq hh=>by
   cases hh with
   | nil=>omega
   | sl u hn h0 hc hs hF hz hm h=>exact hc
  exact key _ _ hlen hr
 have hz':∀ e∈L.map enc,e.length=sz:=fun e he=>by
  obtain ⟨x,_,rfl⟩:=List.mem_map.1 he
  exact hz x
 have hp:=RepD.part hr hz' i.toNat j.toNat (by omega) (by omega)
 rw [←List.map_take,←List.map_drop] at hp
 refine ⟨_, .d hp.slT,fun w' _ _=>?_⟩
 have hT':P.underlying T=some (.slice (P.elem T)):=by rw [hel];exact hi1
 have hsz:∀ w,(Go.sizeOf (P.elem T)).run P w=Result.ok sz w:=fun w=>by rw [hel];simp [Go.sizeOf,typeInfo,hti,hts]
 cases lo with
 | none=>
  dsimp only at hl
  subst hl
  cases hi with
  | none=>simp at hne
  | some y=>
   obtain ⟨k,hy⟩:=hh
   unfold execOp
   simp [ho,hv,(aA hy).int_eval he,run_sliceAt_slice w' T _ _ _ _ hT',run_slice_h w' T ad L.length cp hT' k j hb.2.1 (by omega),hsz]
 | some y=>
  obtain ⟨k,hy⟩:=hl
  cases hi with
  | none=>
   dsimp only at hh
   subst hh
   unfold execOp
   simp [ho,hv,(aA hy).int_eval he,run_sliceAt_slice w' T _ _ _ _ hT',run_slice_l w' T ad L.length cp hT' k i hb.1 hb.2.1,hsz]
  | some z=>
   obtain ⟨k2,hz2⟩:=hh
   unfold execOp
   simp [ho,hv,(aA hy).int_eval he,(aA hz2).int_eval he,run_sliceAt_slice w' T _ _ _ _ hT',run_slice_lh w' T ad L.length cp hT' k k2 i j hb.1 hb.2.1 (by omega),hsz]
end
end LJ
