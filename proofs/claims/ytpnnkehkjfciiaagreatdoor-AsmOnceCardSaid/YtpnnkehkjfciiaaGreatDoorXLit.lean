/- A logic for the walks: literals, conversions, more appends. -/
import Derived.Test.YtpnnkehkjfciiaaGreatDoorXApp
namespace LJ
open Go Go.RowKit
set_option linter.unusedVariables false
set_option linter.unusedSimpArgs false
def DV.cells:DV→List DV
 | .agg ds=>ds
 | d=>[d]
theorem RepD.cells {F:Nat→Prop} {w:World} {v:Value} {d:DV} (h:RepD F w v d):v.cells.toList.length=d.cells.length∧∀ (i:Nat) (u:Value) (x:DV),v.cells.toList[i]? =some u→d.cells[i]? =some x→RepD F w u x:=by
 by_cases hd:∃ ds,d= .agg ds
 ·obtain ⟨ds,rfl⟩:=hd
  obtain ⟨vs,hv,hl,hr⟩:=h.agg_inv
  subst hv
  exact ⟨by simpa [Value.cells,DV.cells] using hl,fun i u x hu hx=>hr i u x (by simpa [Value.cells] using hu) hx⟩
 ·have hn:=h.notAgg (fun ds he=>hd ⟨ds,he⟩)
  have hc:d.cells=[d]:=by
   cases d with
   | agg ds=>exact absurd ⟨ds,rfl⟩ hd
   | _=>rfl
  rw [hn.1,hc]
  refine ⟨rfl,fun i u x hu hx=>?_⟩
  cases i with
  | zero=>simp at hu hx;subst hu;subst hx;exact h
  | succ i=>simp at hx
def k6 (cs:List DV) (off:Nat) (qs:List DV):List DV:=cs.take off++qs++cs.drop (off+qs.length)
def jC (pl:Nat→Option (Nat×Nat)):List DV→List (Nat×DV)→Option (List DV)
 | cells,[]=>some cells
 | cells,(i,d)::rest=>match pl i with
  | none=>none
  | some (off,size)=>cond (Nat.beq d.cells.length size&&Nat.ble (off+d.cells.length) cells.length) (jC pl (k6 cells off d.cells) rest) none
theorem ow (off:Nat):∀ (us:List Value) (k:Nat) (cur:Array Value),off+k+us.length≤cur.size→
  ((us.zipIdx k).foldl (fun cs (p:Value×Nat)=>cs.setIfInBounds (off+p.2) p.1) cur).toList=cur.toList.take (off+k)++us++cur.toList.drop (off+k+us.length)
 | [],k,cur,h=>by simp
 | u::us,k,cur,h=>by
  simp only [List.zipIdx_cons,List.foldl_cons]
  rw [ow off us (k+1) (cur.setIfInBounds (off+k) u) (by simp at h ⊢;omega)]
  simp only [List.length_cons] at h
  apply List.ext_getElem?
  intro i
  simp only [Array.toList_setIfInBounds,List.getElem?_append,List.length_append,List.length_take,List.length_set,Array.length_toList,List.getElem?_take,List.getElem?_set,List.getElem?_drop,List.length_cons,List.getElem?_cons]
  by_cases c1:i<off+k
  ·have:¬(off+k=i):=by omega
   simp [c1,this,show i<min (off+(k+1)) cur.size by omega,show i<off+(k+1) by omega,show i<min (off+k) cur.size by omega,show i<min (off+(k+1)) cur.size+us.length by omega,show i<min (off+k) cur.size+(us.length+1) by omega]
  ·by_cases c2:i=off+k
   ·subst c2
    simp [show off+k<min (off+(k+1)) cur.size by omega,show off+k<off+(k+1) by omega,show ¬(off+k<min (off+k) cur.size) by omega,show off+k<min (off+(k+1)) cur.size+us.length by omega,show off+k<min (off+k) cur.size+(us.length+1) by omega,show off+k - min (off+k) cur.size=0 by omega,show off+k<cur.size by omega]
   ·have c3:off+(k+1)≤i:=by omega
    by_cases c4:i<off+(k+1)+us.length
    ·simp [show ¬(i<min (off+(k+1)) cur.size) by omega,show i<min (off+(k+1)) cur.size+us.length by omega,show ¬(i<min (off+k) cur.size) by omega,show i<min (off+k) cur.size+(us.length+1) by omega,show ¬(i - min (off+k) cur.size=0) by omega]
     congr 1
     omega
    ·simp [show ¬(i<min (off+(k+1)) cur.size+us.length) by omega,show ¬(i<min (off+k) cur.size+(us.length+1)) by omega]
     rw [if_neg (by omega)]
     congr 1
     omega
theorem iR (off:Nat) (arr cur:Array Value) (h:off+arr.size≤cur.size):(arr.zipIdx.foldl (fun cs (p:Value×Nat)=>cs.setIfInBounds (off+p.2) p.1) cur).toList=cur.toList.take off++arr.toList++cur.toList.drop (off+arr.size):=by
 have h2:=ow off arr.toList 0 cur (by simpa using h)
 rw [←Array.foldl_toList,Array.toList_zipIdx]
 simpa using h2
theorem nh {F:Nat→Prop} {w:World} (pl:Nat→Option (Nat×Nat)):∀ (ps:List (Nat×Value)) (qs:List (Nat×DV)) (cur:Array Value) (cs cs':List DV),ps.map Prod.fst=qs.map Prod.fst→(∀ (i:Nat) (p:Nat×Value) (q:Nat×DV),ps[i]? =some p→qs[i]? =some q→RepD F w p.2 q.2)→
  cur.size=cs.length→(∀ (i:Nat) (u:Value) (x:DV),cur.toList[i]? =some u→cs[i]? =some x→RepD F w u x)→jC pl cs qs=some cs'→
  ∃ cur',Instr.fill pl cur ps=some cur'∧cur'.size=cs'.length∧∀ (i:Nat) (u:Value) (x:DV),cur'.toList[i]? =some u→cs'[i]? =some x→RepD F w u x
 | [],[],cur,cs,cs',_,_,hl,hr,h=>by
  simp only [jC,Option.some.injEq] at h
  subst h
  exact ⟨cur,rfl,hl,hr⟩
 | [],q::qs,cur,cs,cs',hp,_,_,_,_=>by simp at hp
 | p::ps,[],cur,cs,cs',hp,_,_,_,_=>by simp at hp
 | (i,v)::ps,(j,d)::qs,cur,cs,cs',hp,hv,hl,hr,h=>by
  simp only [List.map_cons,List.cons.injEq] at hp
  obtain ⟨rfl,hp⟩:=hp
  obtain ⟨hc1,hc2⟩:=(show RepD F w v d from hv 0 (i,v) (i,d) rfl rfl).cells
  simp only [jC] at h
  unfold Instr.fill
  cases hpl:pl i with
  | none=>rw [hpl] at h;cases h
  | some os=>
   obtain ⟨off,size⟩:=os
   rw [hpl] at h
   simp only [] at h
   cases hcnd:(Nat.beq d.cells.length size&&Nat.ble (off+d.cells.length) cs.length) with
   | false=>rw [hcnd] at h;cases h
   | true=>
    rw [hcnd] at h
    simp only [cond_true] at h
    simp only [Bool.and_eq_true] at hcnd
    have e1:=Nat.eq_of_beq_eq_true hcnd.1
    have e2:=Nat.le_of_ble_eq_true hcnd.2
    rw [Array.length_toList] at hc1
    have hcond:¬(v.cells.size≠size∨off+v.cells.size>cur.size):=by omega
    simp only []
    have hcond':(decide (v.cells.size≠size)||decide (off+v.cells.size>cur.size))=false:=by
     simp only [Bool.or_eq_false_iff,decide_eq_false_iff_not]
     omega
    rw [if_neg (by simpa using hcond)]
    have hsp:=iR off v.cells cur (by omega)
    have hsz:(v.cells.zipIdx.foldl (fun cs (p:Value×Nat)=>cs.setIfInBounds (off+p.2) p.1) cur).size=(k6 cs off d.cells).length:=by
     rw [←Array.length_toList,hsp]
     simp only [k6,List.length_append,List.length_take,List.length_drop,Array.length_toList]
     omega
    refine nh pl ps qs _ (k6 cs off d.cells) cs' hp (fun k p q hk hk'=>hv (k+1) p q hk hk') hsz (fun k u x hu hx=>?_) h
    rw [hsp] at hu
    simp only [k6] at hx
    by_cases c1:k<off
    ·rw [List.append_assoc,List.getElem?_append_left (by simp;omega),List.getElem?_take,if_pos c1] at hu
     rw [List.append_assoc,List.getElem?_append_left (by simp;omega),List.getElem?_take,if_pos c1] at hx
     exact hr k u x hu hx
    ·by_cases c2:k<off+d.cells.length
     ·have tl:(List.take off cur.toList).length=off:=by simp;omega
      have tl':(List.take off cs).length=off:=by simp;omega
      rw [List.append_assoc,List.getElem?_append_right (by omega),tl,List.getElem?_append_left (by simp;omega)] at hu
      rw [List.append_assoc,List.getElem?_append_right (by omega),tl',List.getElem?_append_left (by omega)] at hx
      exact hc2 _ u x hu hx
     ·have tl:(List.take off cur.toList++v.cells.toList).length=off+d.cells.length:=by simp;omega
      have tl':(List.take off cs++d.cells).length=off+d.cells.length:=by simp;omega
      rw [List.getElem?_append_right (by omega),tl,List.getElem?_drop] at hu
      rw [List.getElem?_append_right (by omega),tl',List.getElem?_drop] at hx
      rw [show off+v.cells.size+(k - (off+d.cells.length))=k by omega] at hu
      rw [show off+d.cells.length+(k - (off+d.cells.length))=k by omega] at hx
      exact hr k u x hu hx
def dV (P:Program) (T:TypeId) (i:Nat):Option (Nat×Nat):=
 match P.underlying T with
 | some (.struct fs)=>match fs[i]? with
  | some f=>match P.info? f.type with
   | some t=>some (f.offset,t.size)
   | none=>none
  | none=>none
 | some (.array _ e)=>match P.info? e with
  | some t=>some (i*t.size,t.size)
  | none=>none
 | _=>none
def iq (P:Program) (T:TypeId):Bool:=
 match P.underlying T with
 | some (.struct fs)=>fs.toList.all fun f=>(P.info? f.type).isSome
 | some (.array _ e)=>(P.info? e).isSome
 | _=>false
theorem k8 {P:Program} {w:World} :∀ (fs:List Field),(∀ f∈fs,(P.info? f.type).isSome=true)→∃ ps:List (Nat×Nat),(fs.mapM (fun f=>(do pure (f.offset,←Go.sizeOf f.type):Sem (Nat×Nat)))).run P w= .ok ps w∧ps=fs.filterMap (fun f=>(P.info? f.type).map fun t=>(f.offset,t.size))∧ps.length=fs.length
 | [],_=>⟨[],by simp,rfl,rfl⟩
 | f::fs,h=>by
  obtain ⟨ps,h1,h2,h3⟩:=k8 (w:=w) fs (fun f hf=>h f (List.mem_cons_of_mem _ hf))
  obtain ⟨t,ht⟩:=Option.isSome_iff_exists.1 (h f (List.mem_cons_self ..))
  refine ⟨(f.offset,t.size)::ps,?_,by simp [ht,←h2],by simp [h3]⟩
  rw [List.mapM_cons]
  simp only [Sem.run_bind,bM ht,Result.andThen_ok,Sem.run_pure,h1]
theorem iT {P:Program} :∀ (fs:List Field),(∀ f∈fs,(P.info? f.type).isSome=true)→∀ i:Nat,(fs.filterMap (fun f=>(P.info? f.type).map fun t=>(f.offset,t.size)))[i]? =(match fs[i]? with | some f=>(match P.info? f.type with | some t=>some (f.offset,t.size) | none=>none) | none=>none)
 | [],_,i=>by simp
 | f::fs,h,i=>by
  obtain ⟨t,ht⟩:=Option.isSome_iff_exists.1 (h f (List.mem_cons_self ..))
  simp only [List.filterMap_cons,ht,Option.map_some]
  cases i with
  | zero=>simp [ht]
  | succ i=>simpa using iT fs (fun f hf=>h f (List.mem_cons_of_mem _ hf)) i
section
variable {c:Ctx} {P:Program} {ops:Array Oper} {Q:Exit→Env→Mem→Prop} {E:Env} {m:Mem} {rest:List Oper} {o:Oper}
inductive PartsAre (E:Env):List (Nat×Operand)→List (Nat×DV)→Prop
 | nil:PartsAre E [] []
 | cons {i:Nat} {x:Operand} {d:DV} {ps:List (Nat×Operand)} {qs:List (Nat×DV)} (h:IsOp E x (.d d)) (hs:PartsAre E ps qs):PartsAre E ((i,x)::ps) ((i,d)::qs)
theorem PartsAre.rep {ps:List (Nat×Operand)} {qs:List (Nat×DV)} (h:PartsAre E ps qs) {F:Nat→Prop} {N:aI} {w:World} {a:Act} (he:cg F N w a E):
  (ps.map fun p=>(p.1,a.eval p.2)).map Prod.fst=qs.map Prod.fst∧∀ (i:Nat) (p:Nat×Value) (q:Nat×DV),(ps.map fun p=>(p.1,a.eval p.2))[i]? =some p→qs[i]? =some q→RepD F w p.2 q.2:=by
 induction h with
 | nil=>exact ⟨rfl,fun i p q hp=>by simp at hp⟩
 | cons h hs ih=>
  refine ⟨by simpa using ih.1,fun i p q hp hq=>?_⟩
  cases i with
  | zero=>
   simp at hp hq
   subst hp;subst hq
   exact (h F N w a he).d_inv
  | succ i=>
   simp only [List.map_cons,List.getElem?_cons_succ] at hp hq
   exact ih.2 i p q hp hq
theorem sy {T:TypeId} {zs ds:List DV} {F:Nat→Prop} {w:World} {ps:List (Nat×Value)} {qs:List (Nat×DV)} (hz:iP P T=some zs) (ha:iq P T=true) (hf:jC (dV P T) zs qs=some ds) (hp1:ps.map Prod.fst=qs.map Prod.fst)
  (hp2:∀ (i:Nat) (p:Nat×Value) (q:Nat×DV),ps[i]? =some p→qs[i]? =some q→RepD F w p.2 q.2):∃ vs:List Value,(∀ w',(Instr.build T ps.toArray).run P w'= .ok (.agg vs.toArray) w')∧vs.length=ds.length∧∀ (i:Nat) (v:Value) (d:DV),vs[i]? =some v→ds[i]? =some d→RepD F w v d:=by
 obtain ⟨ti,z,hi,hzz,hds⟩:=gV hz
 obtain ⟨hl,hv⟩:=gz (F:=F) (w:=w) hds
 obtain ⟨cur',g1,g2,g3⟩:=nh (dV P T) ps qs z.cells zs ds hp1 hp2 (by simpa using hl) hv hf
 refine ⟨cur'.toList,fun w'=>?_,by simpa using g2,g3⟩
 have hzr:(zeroValue T).run P w'= .ok z w':=by simp [zeroValue,typeInfo,hi,hzz]
 unfold iq at ha
 split at ha
 ·rename_i fs hT
  have hall:∀ f∈fs.toList,(P.info? f.type).isSome=true:=fun f hf=>List.all_eq_true.1 ha f hf
  obtain ⟨pl,p1,p2,p3⟩:=k8 (w:=w') fs.toList hall
  have hpl:(fun i=>(pl.toArray:Array (Nat×Nat))[i]?)=dV P T:=by
   funext i
   unfold dV
   rw [hT]
   simp only [List.getElem?_toArray]
   rw [p2,iT fs.toList hall i]
   simp
  have hm:(fs.mapM (fun f=>(do pure (f.offset,←Go.sizeOf f.type):Sem (Nat×Nat)))).run P w'= .ok pl.toArray w':=by
   have:fs=fs.toList.toArray:=by simp
   rw [this,List.mapM_toArray]
   simp only [Sem.run_map]
   rw [p1]
   rfl
  unfold Instr.build
  simp only [Sem.run_bind,hzr,Result.andThen_ok,run_underlying hT w',hm]
  have hpl':(fun x=>pl.toArray[x]?)=dV P T:=hpl
  rw [hpl']
  rw [g1]
  simp
 ·rename_i k e hT
  obtain ⟨te,hte⟩:=Option.isSome_iff_exists.1 ha
  have hpl:(fun i=>some (i*te.size,te.size))=dV P T:=by
   funext i
   unfold dV
   rw [hT]
   simp [hte]
  unfold Instr.build
  simp only [Sem.run_bind,hzr,Result.andThen_ok,run_underlying hT w',bM hte]
  rw [hpl]
  rw [g1]
  simp
 ·cases ha
theorem Y.build {T:TypeId} {zs ds:List DV} {ps:List (Nat×Operand)} {qs:List (Nat×DV)} (hx:PartsAre E ps qs) (ho:o.op= .build T ps.toArray) (hz:iP P T=some zs) (ha:iq P T=true) (hf:jC (dV P T) zs qs=some ds):aF P o E m (.d (.agg ds)):=fun c F N w a hm he=>by
 obtain ⟨h1,h2⟩:=hx.rep he
 obtain ⟨vs,g1,g2,g3⟩:=sy (F:=F) (w:=w) hz ha hf h1 h2
 refine ⟨.agg vs.toArray, .d (.agg g2 g3),fun w' _ _=>?_⟩
 have:=g1 w'
 unfold execOp
 simp [ho,List.map_toArray,this]
theorem WO.buildSlice {T e:TypeId} {sz len d:Nat} {ps:List (Nat×Operand)} {qs:List (Nat×DV)} {zs flat:List DV} {es:List (List DV)} (n:Nat) (hx:PartsAre E ps qs) (ho:o.op= .buildSlice T len ps.toArray) (hT:gp P T=some (e,sz)) (hz:iP P e=some zs) (hzs:zs.length=sz) (hsz:Nat.blt 0 sz=true)
  (hlen:Nat.ble (len*sz) 16777216=true) (hf:jC (fun i=>some (i*sz,sz)) ((List.range (len*sz)).map fun i=>zs.getD (i %sz) .nilp) qs=some flat) (hes:es.flatten=flat) (hel:es.length=len) (hez:es.all (fun y=>Nat.beq y.length sz)=true) (hP:inl c.P0 n=false) (hK:inl c.KN n=false) (hd:o.dst=some d) (hlt:Nat.blt d c.ntmps=true):WO c P o E m ((d, .own n)::E.forget [n]) ((n, .row e sz es)::m.forget [n]):=fun Q K a w hrel h=>by
 obtain ⟨h1,h2,F,N,hm,hE⟩:=hrel
 obtain ⟨ti,k1,k2,k3⟩:=bd hT
 obtain ⟨ti',z,hi',hzz,hds⟩:=gV hz
 have:ti'=ti:=by rw [k2] at hi';injection hi' with hi';exact hi'.symm
 subst this
 have hpos:0<sz:=Nat.le_of_ble_eq_true hsz
 have hle:len*sz≤16777216:=Nat.le_of_ble_eq_true hlen
 obtain ⟨hl,hv⟩:=gz (F:=F) (w:=w) hds
 obtain ⟨p1,p2⟩:=hx.rep hE
 let zc:Array Value:=if len*sz=0 then #[] else z.cells
 have hzcs:z.cells.size=sz:=by rw [←hzs,←hl];simp
 have hcur:∀ (i:Nat) (u:Value) (x:DV),((Array.range (len*sz)).map (zc[· %zc.size]!)).toList[i]? =some u→((List.range (len*sz)).map fun i=>zs.getD (i %sz) .nilp)[i]? =some x→RepD F w u x:=by
  intro i u x hu hx
  have hi:i<len*sz:=by have:=(List.getElem?_eq_some_iff.1 hx).1;simpa using this
  have hne:¬(len*sz=0):=by omega
  rw [List.getElem?_map,List.getElem?_range hi] at hx
  simp only [Option.map_some,Option.some.injEq] at hx
  subst hx
  simp only [Array.toList_map,Array.toList_range,List.getElem?_map,List.getElem?_range hi,Option.map_some,Option.some.injEq] at hu
  subst hu
  have hmod:i %sz<sz:=Nat.mod_lt _ hpos
  have hzc:zc=z.cells:=by simp only [zc,if_neg hne]
  rw [hzc,hzcs]
  have e1:z.cells[i %sz]! =z.cells.toList[i %sz]'(by simpa [hzcs] using hmod):=by
   rw [getElem!_pos z.cells (i %sz) (by omega)]
   simp
  rw [e1]
  refine hv (i %sz) _ _ (List.getElem?_eq_getElem _) ?_
  rw [List.getD_eq_getElem?_getD]
  rw [List.getElem?_eq_getElem (by omega)]
  rfl
 obtain ⟨cur',g1,g2,g3⟩:=nh (fun i=>some (i*sz,sz)) (ps.map fun p=>(p.1,a.eval p.2)) qs ((Array.range (len*sz)).map (zc[· %zc.size]!)) _ flat p1 p2 (by simp) hcur hf
 have hez':∀ y∈es,y.length=sz:=fun y hy=>Nat.eq_of_beq_eq_true (List.all_eq_true.1 hez y hy)
 have hflen:flat.length=len*sz:=by rw [←hes,bE es sz hez',hel]
 have hrun:(execOp a.eval o).run P w= .ok (.value (.slice (some ⟨w.heap.size,0,none⟩) len len)) (w.alloc (.cells cur' e)):=by
  unfold execOp
  simp only [ho,List.map_toArray]
  have hnr:¬(16777216<len*sz):=by omega
  by_cases h0:len*sz=0
  ·have hzc:zc=#[]:=by simp only [zc,if_pos h0]
   rw [hzc] at g1
   simp only [Array.size_empty,h0] at g1
   simp [Instr.buildSlice,run_underlying k1,bM k2,k3,h0,newRow]
   have e0:∀ f:Nat→Value,(Array.range 0).map f=#[]:=fun f=>by simp
   rw [e0] at g1 ⊢
   rw [g1]
   simp
  ·have hzc:zc=z.cells:=by simp only [zc,if_neg h0]
   rw [hzc] at g1
   have h24:¬(2 ^24<len*sz):=by omega
   simp [Instr.buildSlice,run_underlying k1,bM k2,k3,h0,hnr,newRow,zeroValue,typeInfo,k2,hzz]
   simp [g1]
 have hσ:(N.setσ n (.slice (some ⟨w.heap.size,0,none⟩) len len)).σ n= .slice (some ⟨w.heap.size,0,none⟩) len len:=by simp [aI.setσ]
 have g:=Grew.alloc w (.cells cur' e)
 have hFk:∀ b,F b→(w.alloc (.cells cur' e)).heap[b]? =w.heap[b]? :=fun b hb=>g.block b (hm.Fin b hb)
 have hm':bX c F (N.setσ n (.slice (some ⟨w.heap.size,0,none⟩) len len)) (w.alloc (.cells cur' e)) ((n, .row e sz es)::m.forget [n]):=by
  refine hm.renew (N.setσ_but n _) hP hK g.os g.tape g.output g.size (fun b hb _=>g.block b hb) ⟨cur'.toList,?_,hez',fun i v x hvi hxi=>?_⟩ (fun b hb=>?_)
  ·rw [hσ,hel]
   refine ⟨by rw [Array.length_toList,g2,hflen], .inr ⟨w.heap.size,len,cur',rfl,Nat.zero_le _,kF w _,Nat.le_refl _,?_,by rw [g2,hflen],?_⟩⟩
   ·have:len≤len*sz:=Nat.le_mul_of_pos_right _ hpos
    simp only [maxLen]
    omega
   ·exact List.take_of_length_le (by rw [Array.length_toList,g2,hflen];exact Nat.le_refl _)
  ·rw [hes] at hxi
   exact (g3 i v x hvi hxi).mono (fun _ h=>h) hFk
  ·have hb':((N.setσ n (.slice (some ⟨w.heap.size,0,none⟩) len len)).σ n).ownBlock=some b:=hb
   rw [hσ] at hb'
   have:w.heap.size=b:=by simpa [Value.ownBlock] using hb'
   exact .inr (by omega)
 unfold Oper.wp
 rw [hrun,Oper.upon_value]
 exact h _ _ _ rfl (by rw [hd];exact Rel.put h1 h2 hm' (hE.forget (N.setσ_but n _) hFk) hlt (kZ hσ))
end
end LJ
