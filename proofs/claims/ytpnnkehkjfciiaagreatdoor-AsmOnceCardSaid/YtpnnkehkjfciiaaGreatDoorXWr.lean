/- A logic for the walks: memory made and written. -/
import Derived.Test.YtpnnkehkjfciiaaGreatDoorXMem
namespace LJ
open Go Go.RowKit
set_option linter.unusedVariables false
set_option linter.unusedSimpArgs false
def AV.cells:AV→Option (List AV)
 | .d (.agg ds)=>some (ds.map .d)
 | .psl _ _ _ _=>none
 | .rsl _ _ _ _=>none
 | .qel _ _=>none
 | .tup _=>none
 | .when _ _=>none
 | .und=>none
 | p=>some [p]
theorem RepD.notAgg {F:Nat→Prop} {w:World} {v:Value} {d:DV} (h:RepD F w v d) (hd:∀ ds,d≠ .agg ds):v.cells=#[v]∧v.oneCell'=true:=by
 cases h with
 | agg hl h=>exact absurd rfl (hd _)
 | slf h=>obtain ⟨a,c,rfl⟩:=h.sl_inv;exact ⟨rfl,rfl⟩
 | _=>exact ⟨rfl,rfl⟩
theorem Rep.cells {F:Nat→Prop} {N:aI} {w:World} {m:Mem} {v:Value} {p:AV} {cs:List AV} (hσ:∀ n,(∃ a l c,N.σ n= .slice a l c)) (h:Rep F N w v p) (hc:p.cells=some cs):
  v.cells.toList.length=cs.length∧∀ (i:Nat) (u:Value) (q:AV),v.cells.toList[i]? =some u→cs[i]? =some q→Rep F N w u q:=by
 have one:∀ (p:AV),v.cells=#[v]→Rep F N w v p→cs=[p]→v.cells.toList.length=cs.length∧∀ (i:Nat) (u:Value) (q:AV),v.cells.toList[i]? =some u→cs[i]? =some q→Rep F N w u q:=by
  intro p hv h hcs
  subst hcs
  rw [hv]
  refine ⟨rfl,fun i u q hu hq=>?_⟩
  cases i with
  | zero=>simp at hu hq;subst hu;subst hq;exact h
  | succ i=>simp at hq
 cases h with
 | psl ho=>cases hc
 | rsl h ho=>cases hc
 | qel h=>cases hc
 | tup hl h=>cases hc
 | when=>cases hc
 | und=>cases hc
 | @own n=>
  obtain ⟨a,l,c,hs⟩:=hσ n
  simp only [AV.cells,Option.some.injEq] at hc
  exact one (.own n) (by rw [hs];rfl) .own hc.symm
 | @ptr n off=>
  simp only [AV.cells,Option.some.injEq] at hc
  exact one (.ptr n off) rfl .ptr hc.symm
 | @optp b n off=>
  simp only [AV.cells,Option.some.injEq] at hc
  exact one (.optp b n off) rfl .optp hc.symm
 | @rel n off g l c hg=>
  simp only [AV.cells,Option.some.injEq] at hc
  exact one (.rel n off) rfl (.rel hg) hc.symm
 | @d _ x h=>
  by_cases hx:∃ ds,x= .agg ds
  ·obtain ⟨ds,rfl⟩:=hx
   simp only [AV.cells,Option.some.injEq] at hc
   subst hc
   obtain ⟨vs,hv,hl,hr⟩:=h.agg_inv
   subst hv
   refine ⟨by simpa [Value.cells] using hl,fun i u q hu hq=>?_⟩
   rw [List.getElem?_map] at hq
   obtain ⟨d,hd,rfl⟩:=Option.map_eq_some_iff.1 hq
   exact .d (hr i u d (by simpa [Value.cells] using hu) hd)
  ·have hn:=h.notAgg (fun ds he=>hx ⟨ds,he⟩)
   have:cs=[.d x]:=by
    cases x with
    | agg ds=>exact absurd ⟨ds,rfl⟩ hx
    | _=>simp only [AV.cells,Option.some.injEq] at hc;exact hc.symm
   exact one (.d x) hn.1 (.d h) this
def aI.setβ (N:aI) (n b:Nat):aI:=⟨fun k=>if k=n then b else N.β k,N.σ⟩
def aI.setσ (N:aI) (n:Nat) (v:Value):aI:=⟨N.β,fun k=>if k=n then v else N.σ k⟩
theorem aI.setβ_but (N:aI) (n b:Nat):N.eqBut (N.setβ n b) [n]:=fun k hk=>⟨by simp [aI.setβ,mu hk],rfl⟩
theorem aI.setσ_but (N:aI) (n:Nat) (v:Value):N.eqBut (N.setσ n v) [n]:=fun k hk=>⟨rfl,by simp [aI.setσ,mu hk]⟩
theorem Rep.mono' {F:Nat→Prop} {N:aI} {w w':World} (hw:∀ b,F b→w'.heap[b]? =w.heap[b]?) {v:Value} {p:AV} (h:Rep F N w v p):Rep F N w' v p:=h.mono (fun _ hb=>hb) hw
theorem cg.forget {F:Nat→Prop} {N N':aI} {w w':World} {a:Act} {E:Env} {fs:List Nat} (h:cg F N w a E) (hN:N.eqBut N' fs) (hw:∀ b,F b→w'.heap[b]? =w.heap[b]?):cg F N' w' a (E.forget fs):=⟨fun t=>by
 rw [Env.get_forget]
 exact ((h t).mono' hw).forget hN,h.glob.mono (fun _ hb=>hb) hw⟩
theorem vy {F:Nat→Prop} {N:aI} {w:World} {n b off:Nat} (h:N.β n=b):Rep F N w (.pointer (some ⟨b,off,none⟩)) (.ptr n off):=by subst h;exact .ptr
theorem kZ {F:Nat→Prop} {N:aI} {w:World} {n:Nat} {v:Value} (h:N.σ n=v):Rep F N w v (.own n):=by subst h;exact .own
theorem kF (w:World) (o:Obj):(w.alloc o).heap[w.heap.size]? =some o:=heap_alloc_new w o
theorem bX.newBox {c:Ctx} {F:Nat→Prop} {N:aI} {w:World} {m:Mem} (h:bX c F N w m) (n:Nat) (hP:inl c.P0 n=false) (hK:inl c.KN n=false) (T:TypeId) (vs:List Value) (cs:List AV) (hl:vs.length=cs.length)
  (hr:∀ (i:Nat) (v:Value) (p:AV),vs[i]? =some v→cs[i]? =some p→Rep F N w v p):
  bX c F (N.setβ n w.heap.size) (w.alloc (.cells vs.toArray T)) ((n, .box T (cs.map (AV.forget [n])))::m.forget [n]):=by
 have g:=Grew.alloc w (.cells vs.toArray T)
 refine h.renew (N.setβ_but n _) hP hK g.os g.tape g.output g.size (fun b hb _=>g.block b hb) ⟨vs,?_,by simpa using hl,fun i v p hv hp=>?_⟩ (fun b hb=>?_)
 ·simp only [aI.setβ,if_true]
  exact kF w _
 ·rw [List.getElem?_map] at hp
  obtain ⟨q,hq,rfl⟩:=Option.map_eq_some_iff.1 hp
  exact ((hr i v q hv hq).mono' (fun b hb=>g.block b (h.Fin b hb))).forget (N.setβ_but n _)
 ·right
  have:w.heap.size=b:=by simpa [blk,aI.setβ] using hb
  omega
section
variable {c:Ctx} {P:Program} {ops:Array Oper} {Q:Exit→Env→Mem→Prop} {E:Env} {m:Mem} {rest:List Oper} {o:Oper}
theorem sw {F:Nat→Prop} {N:aI} {w:World} {n:Nat} {E':TypeId} {sz:Nat} {es:List (List DV)} (h:db F N w n (.row E' sz es)):∃ a l c,N.σ n= .slice a l c:=by
 obtain ⟨vs,h1,_⟩:=h
 obtain ⟨a,c,hv⟩:=fN h1
 exact ⟨a,_,c,hv⟩
def AV.lays (m:Mem):AV→Prop
 | .own n=>∃ E sz es,m.get n=some (.row E sz es)
 | _=>True
theorem Rep.cells' {F:Nat→Prop} {N:aI} {w:World} {c:Ctx} (hm:bX c F N w m) {v:Value} {p:AV} {cs:List AV} (hp:p.lays m) (h:Rep F N w v p) (hc:p.cells=some cs):
  v.cells.toList.length=cs.length∧(∀ (i:Nat) (u:Value) (q:AV),v.cells.toList[i]? =some u→cs[i]? =some q→Rep F N w u q):=by
 cases p with
 | own n=>
  obtain ⟨E',sz,es,hn⟩:=hp
  obtain ⟨a,l,cc,hs⟩:=sw (hm.obj n _ hn)
  have hv:=h.own_inv
  simp only [AV.cells,Option.some.injEq] at hc
  subst hc
  rw [hv,hs]
  refine ⟨rfl,fun i u q hu hq=>?_⟩
  cases i with
  | zero=>
   simp [Value.cells] at hu hq
   subst hu;subst hq
   rw [←hs]
   exact .own
  | succ i=>simp at hq
 | d x=>
  exact Rep.cells (m:=m) (N:=⟨N.β,fun _=> .slice none 0 0⟩) (F:=F) (fun _=>⟨_,_,_,rfl⟩) (.d h.d_inv) hc |>.imp id (fun hh i u q hu hq=>by
   have hc':=hc
   have:∃ y,q= .d y:=by
    cases x with
    | agg ds=>
     simp only [AV.cells,Option.some.injEq] at hc'
     subst hc'
     rw [List.getElem?_map] at hq
     obtain ⟨y,_,rfl⟩:=Option.map_eq_some_iff.1 hq
     exact ⟨y,rfl⟩
    | _=>
     simp only [AV.cells,Option.some.injEq] at hc'
     subst hc'
     cases i with
     | zero=>simp at hq;exact ⟨_,hq.symm⟩
     | succ i=>simp at hq
   obtain ⟨y,rfl⟩:=this
   exact .d (hh i u (.d y) hu hq).d_inv)
 | ptr n off=>
  have hv:=h.ptr_inv
  simp only [AV.cells,Option.some.injEq] at hc
  subst hc
  subst hv
  refine ⟨rfl,fun i u q hu hq=>?_⟩
  cases i with
  | zero=>simp [Value.cells] at hu hq;subst hu;subst hq;exact .ptr
  | succ i=>simp at hq
 | optp b n off=>
  have hv:=h.optp_inv
  simp only [AV.cells,Option.some.injEq] at hc
  subst hc
  subst hv
  refine ⟨rfl,fun i u q hu hq=>?_⟩
  cases i with
  | zero=>simp [Value.cells] at hu hq;subst hu;subst hq;exact .optp
  | succ i=>simp at hq
 | rel n off=>
  cases h with
  | rel hg=>
   simp only [AV.cells,Option.some.injEq] at hc
   subst hc
   refine ⟨rfl,fun i u q hu hq=>?_⟩
   cases i with
   | zero=>simp [Value.cells] at hu hq;subst hu;subst hq;exact .rel hg
   | succ i=>simp at hq
 | psl=>cases hc
 | rsl=>cases hc
 | qel=>cases hc
 | tup vs=>cases hc
 | when=>cases hc
 | und=>cases hc
theorem WO.box {x:Operand} {T:TypeId} {p:AV} {cs:List AV} {d:Nat} (n:Nat) (hx:IsOp E x p) (hp:p.lays m) (hc:p.cells=some cs) (ho:o.op= .box T x) (hP:inl c.P0 n=false) (hK:inl c.KN n=false) (hd:o.dst=some d) (hlt:Nat.blt d c.ntmps=true):WO c P o E m ((d, .ptr n 0)::E.forget [n]) ((n, .box T (cs.map (AV.forget [n])))::m.forget [n]):=fun Q K a w hr h=>by
 obtain ⟨h1,h2,F,N,hm,he⟩:=hr
 obtain ⟨hl,hv⟩:=Rep.cells' hm hp (hx F N w a he) hc
 have hm':=hm.newBox n hP hK T (a.eval x).cells.toList cs hl hv
 simp only [Array.toArray_toList] at hm'
 have g:=Grew.alloc w (.cells (a.eval x).cells T)
 have hrun:(execOp a.eval o).run P w= .ok (.value (.pointer (some ⟨w.heap.size,0,none⟩))) (w.alloc (.cells (a.eval x).cells T)):=by
  unfold execOp;simp [ho,Instr.box,newVar,newRow]
 unfold Oper.wp
 rw [hrun,Oper.upon_value]
 refine h _ _ _ rfl (by rw [hd];exact Rel.put h1 h2 hm' (he.forget (N.setβ_but n _) (fun b hb=>g.block b (hm.Fin b hb))) hlt (vy (by simp [aI.setβ])))
def dvOf:Value→Option DV
 | .int k n=>some (.int k n)
 | .bool b=>some (.bool b)
 | .string s=>some (.str s)
 | .pointer none=>some .nilp
 | .slice none 0 0=>some .nils
 | .nilIface=>some .nili
 | _=>none
theorem qJ {F:Nat→Prop} {w:World} {v:Value} {d:DV} (h:dvOf v=some d):RepD F w v d:=by
 unfold dvOf at h
 split at h <;> first | (injection h with h;subst h;constructor) | cases h
def rB:List Value→Option (List DV)
 | []=>some []
 | v::vs=>match dvOf v,rB vs with
  | some d,some ds=>some (d::ds)
  | _,_=>none
theorem gz {F:Nat→Prop} {w:World} :∀ {vs:List Value} {ds:List DV},rB vs=some ds→vs.length=ds.length∧∀ (i:Nat) (v:Value) (d:DV),vs[i]? =some v→ds[i]? =some d→RepD F w v d
 | [],ds,h=>by
  simp only [rB,Option.some.injEq] at h
  subst h
  exact ⟨rfl,fun i v d hv=>by simp at hv⟩
 | v::vs,ds,h=>by
  simp only [rB] at h
  split at h
  ·rename_i d ds' h1 h2
   injection h with h
   subst h
   obtain ⟨h3,h4⟩:=gz (F:=F) (w:=w) h2
   refine ⟨by simp [h3],fun i u e hu he=>?_⟩
   cases i with
   | zero=>simp at hu he;subst hu;subst he;exact qJ h1
   | succ i=>simp at hu he;exact h4 i u e hu he
  ·cases h
def iP (P:Program) (T:TypeId):Option (List DV):=
 match P.info? T with
 | some i=>match i.zero with
  | some z=>rB z.cells.toList
  | none=>none
 | none=>none
theorem gV {P:Program} {T:TypeId} {ds:List DV} (h:iP P T=some ds):∃ i z,P.info? T=some i∧i.zero=some z∧rB z.cells.toList=some ds:=by
 unfold iP at h
 split at h
 ·rename_i i hi
  split at h
  ·rename_i z hz
   exact ⟨i,z,hi,hz,h⟩
  ·cases h
 ·cases h
theorem WO.alloc {T:TypeId} {ds:List DV} {d:Nat} (n:Nat) (hz:iP P T=some ds) (ho:o.op= .alloc T) (hP:inl c.P0 n=false) (hK:inl c.KN n=false) (hd:o.dst=some d) (hlt:Nat.blt d c.ntmps=true):WO c P o E m ((d, .ptr n 0)::E.forget [n]) ((n, .box T (ds.map AV.d))::m.forget [n]):=fun Q K a w hr h=>by
 obtain ⟨h1,h2,F,N,hm,he⟩:=hr
 obtain ⟨i,z,hi,hzz,hds⟩:=gV hz
 obtain ⟨hl,hv⟩:=gz (F:=F) (w:=w) hds
 have hm':=hm.newBox n hP hK T z.cells.toList (ds.map AV.d) (by simpa using hl) (fun i v p hu hp=>by
  rw [List.getElem?_map] at hp
  obtain ⟨y,hy,rfl⟩:=Option.map_eq_some_iff.1 hp
  exact .d (hv i v y hu hy))
 have hmap:(ds.map AV.d).map (AV.forget [n])=ds.map AV.d:=by simp [AV.forget]
 rw [hmap] at hm'
 simp only [Array.toArray_toList] at hm'
 have g:=Grew.alloc w (.cells z.cells T)
 have hrun:(execOp a.eval o).run P w= .ok (.value (.pointer (some ⟨w.heap.size,0,none⟩))) (w.alloc (.cells z.cells T)):=by
  unfold execOp;simp [ho,Instr.alloc,newVar,newRow,zeroValue,typeInfo,hi,hzz]
 unfold Oper.wp
 rw [hrun,Oper.upon_value]
 refine h _ _ _ rfl (by rw [hd];exact Rel.put h1 h2 hm' (he.forget (N.setβ_but n _) (fun b hb=>g.block b (hm.Fin b hb))) hlt (vy (by simp [aI.setβ])))
def im (cs:List AV) (off:Nat) (qs:List AV):List AV:=cs.take off++qs++cs.drop (off+qs.length)
theorem fO (b:Nat) (T:TypeId):∀ (us:List Value) (i off:Nat) (cur:Array Value) (w:World),w.heap[b]? =some (.cells cur T (0,0))→off+i+us.length≤cur.size→(∀ u∈us,u.oneCell'=true)→
  ∃ w',(storeCells ⟨b,off,none⟩ us i).run P w= .ok () w'∧w'.heap[b]? =some (.cells (cur.toList.take (off+i)++us++cur.toList.drop (off+i+us.length)).toArray T (0,0))∧w'.os=w.os∧w'.tape=w.tape∧w'.output=w.output∧w'.heap.size=w.heap.size∧∀ k,k≠b→w'.heap[k]? =w.heap[k]? :=by
 intro us i off cur w hb hl h1
 have h:=run_storeCells_at P b off T us i cur w hb (by omega) h1
 refine ⟨_,h,setRow_heap w b cur _ T _ hb,rfl,rfl,rfl,by simp [World.setRow],fun k hk=>setRow_other w b k _ hk⟩
theorem Rep.oneCell {F:Nat→Prop} {N:aI} {w:World} {c:Ctx} (hm:bX c F N w m) {v:Value} {p:AV} {cs:List AV} (hp:p.lays m) (h:Rep F N w v p) (hc:p.cells=some cs) (ha:∀ ds,p= .d (.agg ds)→∀ x∈ds,∀ es,x≠ .agg es):∀ u∈v.cells.toList,u.oneCell'=true:=by
 cases p with
 | own n=>
  obtain ⟨E',sz,es,hn⟩:=hp
  obtain ⟨a,l,cc,hs⟩:=sw (hm.obj n _ hn)
  rw [h.own_inv,hs]
  intro u hu
  simp [Value.cells] at hu
  subst hu
  rfl
 | d x=>
  by_cases hx:∃ ds,x= .agg ds
  ·obtain ⟨ds,rfl⟩:=hx
   obtain ⟨vs,hv,hl,hr⟩:=h.d_inv.agg_inv
   subst hv
   intro u hu
   have hu':u∈vs:=by simpa [Value.cells] using hu
   obtain ⟨i,hi⟩:=List.getElem?_of_mem hu'
   have hlt:i<ds.length:=by have:=(List.getElem?_eq_some_iff.1 hi).1;omega
   exact ((hr i u ds[i] hi (List.getElem?_eq_getElem hlt)).notAgg (ha ds rfl ds[i] (List.getElem_mem hlt))).2
  ·have hn:=h.d_inv.notAgg (fun ds he=>hx ⟨ds,he⟩)
   rw [hn.1]
   intro u hu
   simp at hu
   subst hu
   exact hn.2
 | ptr n off=>rw [h.ptr_inv];intro u hu;simp [Value.cells] at hu;subst hu;rfl
 | optp b n off=>rw [h.optp_inv];intro u hu;simp [Value.cells] at hu;subst hu;rfl
 | rel n off=>
  cases h with
  | rel hg=>intro u hu;simp [Value.cells] at hu;subst hu;rfl
 | psl=>cases hc
 | rsl=>cases hc
 | qel=>cases hc
 | tup vs=>cases hc
 | when=>cases hc
 | und=>cases hc
def flatB:AV→Bool
 | .d (.agg ds)=>ds.all fun | .agg _=>false | _=>true
 | _=>true
theorem rC {p:AV} (h:flatB p=true):∀ ds,p= .d (.agg ds)→∀ x∈ds,∀ es,x≠ .agg es:=by
 rintro ds rfl x hx es rfl
 have:=List.all_eq_true.1 (show ds.all _=true from h) _ hx
 cases this
def gA (P:Program) (T:TypeId) (n:Nat):Bool:=
 match P.info? T with
 | some i=>Nat.beq i.size n
 | none=>false
theorem WO.store {x y:Operand} {T T':TypeId} {n off:Nat} {p:AV} {cs qs:List AV} (hx:IsOp E x (.ptr n off)) (hn:m.get n=some (.box T' cs)) (hy:IsOp E y p) (hp:p.lays m) (hq:p.cells=some qs) (hfl:flatB p=true) (hsz:gA P T qs.length=true) (hoff:Nat.ble (off+qs.length) cs.length=true)
  (ho:o.op= .store T x y) (hK:inl c.KN n=false) (hd:o.dst=none):WO c P o E m E (m.set n (.box T' (im cs off qs))):=fun Q K a w hr h=>by
 obtain ⟨h1,h2,F,N,hm,he⟩:=hr
 obtain ⟨hl,hv⟩:=Rep.cells' hm hp (hy F N w a he) hq
 have hone:=Rep.oneCell hm hp (hy F N w a he) hq (rC hfl)
 obtain ⟨vs,g1,g2,g3⟩:=hm.obj n _ hn
 have hoff':off+qs.length≤cs.length:=Nat.le_of_ble_eq_true hoff
 obtain ⟨w',r1,r2,r3,r4,r5,r6,r7⟩:=fO (P:=P) (N.β n) T' (a.eval y).cells.toList 0 off vs.toArray w g1 (by simp only [List.size_toArray];omega) hone
 simp only [Nat.add_zero,List.toList_toArray] at r2
 have hsize:∀ w'':World,(Go.sizeOf T).run P w''= .ok (a.eval y).cells.size w'':=by
  intro w''
  unfold gA at hsz
  split at hsz
  ·rename_i i hi
   rw [bM hi]
   have:i.size=qs.length:=Nat.eq_of_beq_eq_true hsz
   rw [this,←hl,Array.length_toList]
  ·cases hsz
 have hrun:(execOp a.eval o).run P w= .ok .skip w':=by
  unfold execOp
  simp [ho,hx.ptr_eval he,Instr.storeAt,Instr.sureAddr,storeVar,hsize,r1]
 have hm':bX c F N w' (m.set n (.box T' (im cs off qs))):=by
  refine hm.write hn hK r3 r4 r5 (by omega) (fun b hb hne=>r7 b (fun e=>hne (by rw [e];rfl))) ⟨_,r2,?_,?_⟩ rfl
  ·simp only [im,List.length_append,List.length_take,List.length_drop]
   omega
  ·intro i v q hvi hqi
   have mono:∀ {v:Value} {p:AV},Rep F N w v p→Rep F N w' v p:=fun h=>h.mono' (fun b hb=>r7 b (fun e=>(hm.free n _ b hn (by rw [e];rfl)).1 hb))
   simp only [im] at hqi
   by_cases c1:i<off
   ·rw [List.append_assoc,List.getElem?_append_left (by simp only [List.length_take];omega),List.getElem?_take,if_pos c1] at hvi
    rw [List.append_assoc,List.getElem?_append_left (by simp only [List.length_take];omega),List.getElem?_take,if_pos c1] at hqi
    exact mono (g3 i v q hvi hqi)
   ·by_cases c2:i<off+qs.length
    ·have tl:(List.take off vs).length=off:=by simp only [List.length_take];omega
     have tl':(List.take off cs).length=off:=by simp only [List.length_take];omega
     rw [List.append_assoc,List.getElem?_append_right (by omega),tl,List.getElem?_append_left (by omega)] at hvi
     rw [List.append_assoc,List.getElem?_append_right (by omega),tl',List.getElem?_append_left (by omega)] at hqi
     exact mono (hv _ v q hvi hqi)
    ·have tl:(List.take off vs++(a.eval y).cells.toList).length=off+qs.length:=by simp only [List.length_append,List.length_take];omega
     have tl':(List.take off cs++qs).length=off+qs.length:=by simp only [List.length_append,List.length_take];omega
     rw [List.getElem?_append_right (by omega),tl,List.getElem?_drop] at hvi
     rw [List.getElem?_append_right (by omega),tl',List.getElem?_drop] at hqi
     rw [show off+(a.eval y).cells.toList.length+(i - (off+qs.length))=i by omega] at hvi
     rw [show off+qs.length+(i - (off+qs.length))=i by omega] at hqi
     exact mono (g3 i v q hvi hqi)
 unfold Oper.wp
 rw [hrun,Oper.upon_skip]
 exact h undef _ _ rfl (by rw [hd];exact ⟨h1,h2,F,N,hm',⟨fun t=>(he t).mono' (fun b hb=>r7 b (fun e=>(hm.free n _ b hn (by rw [e];rfl)).1 hb)),he.glob.mono (fun _ h=>h) (fun b hb=>r7 b (fun e=>(hm.free n _ b hn (by rw [e];rfl)).1 hb))⟩⟩)
end
end LJ
