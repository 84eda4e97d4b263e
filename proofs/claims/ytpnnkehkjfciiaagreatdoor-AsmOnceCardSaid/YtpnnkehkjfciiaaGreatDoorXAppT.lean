/- A logic for the walks: lists appended. -/
import Derived.Test.YtpnnkehkjfciiaaGreatDoorXVal
import Derived.Laws.StructEq
import Derived.ChangeKeysEq
namespace LJ
open Go Go.RowKit
set_option linter.unusedVariables false
set_option linter.unusedSimpArgs false
section
variable {P:Program} {c:Ctx} {ops:Array Oper} {Q:Exit→Env→Mem→Prop} {E E':Env} {m m':Mem} {o:Oper} {l:List Oper}
theorem pU {w:World} {base:Nat} {t ty e:TypeId} {i:TypeInfo} {size cp:Nat} (ht:P.underlying t=some (.slice e)) (hi:P.info? e=some i) {v:Value} {n:Nat} {xs:List Value} (hown:w.ownsRow base e size v n xs):
  (Builtin.append_ #[t,t] ty #[v, .slice none 0 cp]).run P w= .ok v w:=by
 rcases hown.2 with ⟨rfl,rfl⟩ | ⟨g,cap,cur,rfl,_,_,hnc,_⟩
 ·simp [Builtin.append_,run_underlying ht,Go.sizeOf,typeInfo,hi,Builtin.lenOf,Builtin.firstCells]
 ·simp [Builtin.append_,run_underlying ht,Go.sizeOf,typeInfo,hi,Builtin.lenOf,Builtin.firstCells,hnc,storeCells]
theorem RepD.cellsOf {F:Nat→Prop} {w:World} {a:Addr} {n cp sz:Nat} {es:List (List DV)} (h:RepD F w (.slice (some a) n cp) (.sl es)) (hz:∀ e∈es,e.length=sz):∃ us:List Value,us.length=es.flatten.length∧(∀ (j:Nat) (u:Value),us[j]? =some u→w.cell? (a.add j)=some u)∧∀ (i:Nat) (v:Value) (x:DV),us[i]? =some v→es.flatten[i]? =some x→RepD F w v x:=by
 cases h with
 | nil=>exact ⟨[],rfl,fun j u h=>by simp at h,fun i v x h=>by simp at h⟩
 | @sl a n c sz' es v hn h0 hc hs hF hz' hm hh=>
  have hzz:sz'=sz:=by
   have h1:=hz' 0 es[0] (List.getElem?_eq_getElem (by omega))
   rw [←h1]
   exact hz _ (List.getElem_mem _)
  subst hzz
  have ha:a=⟨a.block,a.off,none⟩:=by cases a;simp_all
  have hfl:=bE es sz' hz
  have at':∀ k,k<es.flatten.length→∃ (el:List DV) (d:DV),es[k /sz']? =some el∧el[k %sz']? =some d∧es.flatten[k]? =some d:=fun k hk=>by
   rw [hfl] at hk
   have hsz0:0<sz':=by
    rcases Nat.eq_zero_or_pos sz' with h | h
    ·subst h;simp at hk
    ·exact h
   have h1:k /sz'<es.length:=Nat.div_lt_of_lt_mul (by rw [Nat.mul_comm];exact hk)
   have h2:(es[k /sz']).length=sz':=hz _ (List.getElem_mem _)
   have h3:k %sz'<(es[k /sz']).length:=by rw [h2];exact Nat.mod_lt _ hsz0
   refine ⟨es[k /sz'],(es[k /sz'])[k %sz'],List.getElem?_eq_getElem h1,List.getElem?_eq_getElem h3,?_⟩
   have:=dw es sz' (k /sz') (k %sz') _ _ hz (List.getElem?_eq_getElem h1) (List.getElem?_eq_getElem h3)
   rwa [Nat.div_add_mod' k sz'] at this
  refine ⟨(List.range es.flatten.length).map fun k=>v (k /sz') (k %sz'),by simp,fun j u hj=>?_,fun i u x hi hx=>?_⟩
  ·have hjl:j<es.flatten.length:=by have:=(List.getElem?_eq_some_iff.1 hj).1;simpa using this
   obtain ⟨el,d,h1,h2,h3⟩:=at' j hjl
   rw [List.getElem?_map,List.getElem?_range hjl] at hj
   have hj:v (j /sz') (j %sz')=u:=by injection hj
   rw [ha,Addr.add_lit,←hj]
   have:=hm _ _ _ _ h1 h2
   rw [←this]
   congr 2
   rw [Nat.div_add_mod' j sz']
  ·have hjl:i<es.flatten.length:=(List.getElem?_eq_some_iff.1 hx).1
   obtain ⟨el,d,h1,h2,h3⟩:=at' i hjl
   rw [h3] at hx
   injection hx with hx
   subst hx
   rw [List.getElem?_map,List.getElem?_range hjl] at hi
   have hi:v (i /sz') (i %sz')=u:=by injection hi
   rw [←hi]
   exact hh _ _ _ _ h1 h2
def hasT (m:Mem) (r:Nat) (e sz:Nat) (es:List (List DV)):Prop:=m.get r=some (.row e sz es)
theorem WO.appT {α:Type} [Inhabited α] (enc:α→List DV) (L1 L2:List α) {x y:Operand} {T e sz bytes r d:Nat} {tt:List (Nat×TK)} {et:List (Nat×Nat×Nat)} (htt:ttOK P tt=true) (het:etOK P et=true) (hT:cq tt T=some (.slice e sz)) {q:Nat} (he:et.find? (fun q=>Nat.beq q.1 e)=some (q,sz,bytes)) (hz:∀ x,(enc x).length=sz) (hfl:∀ x,(enc x).all DV.flatB=true)
  (hx:opnd E x=some (.own r)) (hr:m.get r=some (.row e sz (L1.map enc))) (hy:opnd E y=some (.d (slT enc L2))) (ho:o.op= .call {callee:= .builtin .append,args:=#[x,y],argTypes:=#[T,T]}) (hlen:(L1.length+L2.length)*bytes≤140737488355328) (hb:Nat.blt 0 bytes=true)
  (hP:inl c.P0 r=false) (hK:inl c.KN r=false) (hd:o.dst=some d) (hlt:Nat.blt d c.ntmps=true):WO c P o E m ((d, .own r)::E.forget [r]) ((r, .row e sz ((L1++L2).map enc))::m.forget [r]):=fun Q K a w hrel h=>by
 obtain ⟨h1,h2,F,N,hm,hE⟩:=hrel
 obtain ⟨i,z,hi,hs1,hs2,hs3,hs4,hs5⟩:=kG (kK het he)
 obtain ⟨i',hT1,_,_⟩:=bd (TK.slice_ok (aR htt hT))
 obtain ⟨vs,k1,k2,k3⟩:=hm.obj r _ hr
 have hvx:=(aA hx).own_eval hE
 have hry:=(aA hy F N w a hE).d_inv.slf_inv
 rw [kO] at hry
 obtain ⟨ad,cp,hvy⟩:=hry.sl_inv
 rw [hvy] at hry
 rw [List.length_map] at hvy hry
 have hb':0<bytes:=Nat.le_of_ble_eq_true hb
 have hml:L1.length+L2.length≤140737488355328:=Nat.le_trans (Nat.le_mul_of_pos_right _ hb') hlen
 have l2:∀ e∈L2.map enc,e.length=sz:=fun e he=>by
  obtain ⟨x,_,rfl⟩:=List.mem_map.1 he
  exact hz x
 have fin:∀ v' w',(Builtin.append_ #[T,T] o.type #[N.σ r, .slice ad L2.length cp]).run P w= .ok v' w'→bX c F (N.setσ r v') w' ((r, .row e sz (L1.map enc++L2.map enc))::m.forget [r])→(∀ b,F b→w'.heap[b]? =w.heap[b]?)→o.wp P a w K Q:=by
  intro v' w' hrun hm' hFk
  have hrun':(execOp a.eval o).run P w= .ok (.value v') w':=by
   unfold execOp
   simp [ho,resolve,invoke,builtin,hvx,hvy,hrun]
  unfold Oper.wp
  rw [hrun',Oper.upon_value]
  rw [List.map_append] at h
  exact h _ _ _ rfl (by rw [hd];exact Rel.put h1 h2 hm' (hE.forget (N.setσ_but r v') hFk) hlt (kZ (by simp [aI.setσ])))
 cases ad with
 | none=>
  have hL:L2=[]:=by
   have key:∀ (n:Nat) (q:List (List DV)),RepD F w (.slice none n cp) (.sl q)→q=[]:=fun n q hh=>by cases hh;rfl
   have:=key _ _ hry
   simpa using this
  subst hL
  have hrun:=pU (P:=P) (w:=w) (base:=0) (ty:=o.type) (cp:=cp) hT1 hi k1
  have:=hm.appended hr hP hK k1 k3 (ys:=[]) (us:=[]) (by simp) k2 (fun i v x hv=>by simp at hv) (w':=w) (v':=N.σ r) (by simpa using k1) ⟨rfl,rfl,rfl,Nat.le_refl _,fun _ _ _=>rfl⟩ (.inl rfl)
  exact fin _ _ hrun this.1 this.2
 | some ad=>
  obtain ⟨us,u1,u2,u3⟩:=hry.cellsOf l2
  have hul:us.length=L2.length*sz:=by rw [u1,bE _ sz l2,List.length_map]
  have hone:∀ u∈us,u.oneCell'=true:=iQ u1 u3 (fun d hd=>by
   obtain ⟨y,hy',hd'⟩:=List.mem_flatten.1 hd
   obtain ⟨x,_,rfl⟩:=List.mem_map.1 hy'
   have:=List.all_eq_true.1 (hfl x) d hd'
   intro ds hds
   subst hds
   cases this)
  rw [List.length_map] at k1
  obtain ⟨v',w',q1,q2,q3,q4,q5⟩:=run_append_own_at (P:=P) w 0 T o.type e i z sz bytes hT1 hi hs4 hs1 hs2 hs5 hs3 (N.σ r) L1.length vs k1 ad L2.length cp us hul u2 hone (by simp only [maxLen];omega) hlen (Nat.zero_le _)
  have:=hm.appended hr hP hK (by rw [List.length_map];exact k1) k3 (ys:=L2.map enc) (us:=us) l2 k2 u3 (by rw [List.length_map,List.length_map];exact q2) q3 q5
  exact fin _ _ q1 this.1 this.2
def rI (tt:List (Nat×TK)) (P0 KN:List Nat) (r e sz:Nat) (es:List (List DV)) (E:Env) (m:Mem) (d:Nat):Option (Env×Mem):=
 match okN P0 KN r with
 | false=>none
 | true=>match fgtE [r] E,fgtM [r] m with
  | some E',some m'=>some ((d, .own r)::E',(r, .row e sz es)::m')
  | _,_=>none
theorem WL.appT {α:Type} [Inhabited α] (enc:α→List DV) (L1 L2:List α) {x y:Operand} {T e sz bytes r d:Nat} {tt:List (Nat×TK)} {et:List (Nat×Nat×Nat)} (htt:ttOK P tt=true) (het:etOK P et=true) (hT:cq tt T=some (.slice e sz)) {q:Nat} (he:et.find? (fun q=>Nat.beq q.1 e)=some (q,sz,bytes)) (hz:∀ x,(enc x).length=sz) (hfl:∀ x,(enc x).all DV.flatB=true)
  (hx:opnd E x=some (.own r)) (hr:m.get r=some (.row e sz (L1.map enc))) (hy:opnd E y=some (.d (slT enc L2))) (ho:o.op= .call {callee:= .builtin .append,args:=#[x,y],argTypes:=#[T,T]}) (hlen:(L1.length+L2.length)*bytes≤140737488355328) (hb:Nat.blt 0 bytes=true)
  (hd:o.dst=some d) (hlt:Nat.blt d c.ntmps=true) (hF:rI tt c.P0 c.KN r e sz ((L1++L2).map enc) E m d=some (E',m')) (hg:o.guard=none) (hk:WL c P ops Q l E' m'):WL c P ops Q (o::l) E m:=by
 unfold rI at hF
 split at hF
 ·cases hF
 ·rename_i hn
  obtain ⟨g1,g2⟩:=gq hn
  split at hF
  ·rename_i E1 m1 h2 h3
   simp only [Option.some.injEq,Prod.mk.injEq] at hF
   obtain ⟨rfl,rfl⟩:=hF
   rw [dd h2,de h3] at hk
   exact WL.step (WO.appT enc L1 L2 htt het hT he hz hfl hx hr hy ho hlen hb g1 g2 hd hlt) hg hk
  ·cases hF
theorem WH.appT {tp:Bool} {c0:Ctx} {s:Stay} {EK EK2 E2:Env} {sch:Sch} {ix:Nat} {α:Type} [Inhabited α] (enc:α→List DV) (L1 L2:List α) {x y:Operand} {T e sz bytes r d:Nat} {tt:List (Nat×TK)} {et:List (Nat×Nat×Nat)} (htt:ttOK P tt=true) (het:etOK P et=true) (hT:cq tt T=some (.slice e sz)) {q:Nat} (he:et.find? (fun q=>Nat.beq q.1 e)=some (q,sz,bytes)) (hz:∀ x,(enc x).length=sz) (hfl:∀ x,(enc x).all DV.flatB=true)
  (hi:nth ops.toList ix=some o) (hx:opnd (EK++E) x=some (.own r)) (hr:m.get r=some (.row e sz (L1.map enc))) (hy:opnd (EK++E) y=some (.d (slT enc L2))) (ho:o.op= .call {callee:= .builtin .append,args:=#[x,y],argTypes:=#[T,T]}) (hlen:(L1.length+L2.length)*bytes≤140737488355328) (hb:Nat.blt 0 bytes=true)
  (hd:o.dst=some d) (hlt:Nat.blt d c.ntmps=true) (hF:rI tt c.P0 c.KN r e sz ((L1++L2).map enc) (EK++E) m d=some (E',m')) (hg:o.guard=none) (hf:fR c.P0 EK=true) (h2:ft o.dst E' EK E=some (EK2,E2)) (hk:WH true c0 c s P ops Q sch EK2 E2 m'):WH tp c0 c s P ops Q (.one ix false sch) EK E m:=by
 unfold rI at hF
 split at hF
 ·cases hF
 ·rename_i hn
  obtain ⟨g1,g2⟩:=gq hn
  split at hF
  ·rename_i E1 m1 h3 h4
   simp only [Option.some.injEq,Prod.mk.injEq] at hF
   obtain ⟨rfl,rfl⟩:=hF
   rw [dd h3] at h2
   rw [de h4] at hk
   exact WH.step hi (WO.appT enc L1 L2 htt het hT he hz hfl hx hr hy ho hlen hb g1 g2 hd hlt) hg hf h2 hk
  ·cases hF
end
end LJ
namespace LJ
open Go Go.RowKit
set_option linter.unusedVariables false
set_option linter.unusedSimpArgs false
section
variable {P:Program} {c c0:Ctx} {s:Stay} {ops:Array Oper} {Q:Exit→Env→Mem→Prop} {EK E E':Env} {m m':Mem} {sch:Sch}
theorem WH.freezeT {tp:Bool} (r:Nat) {α:Type} [Inhabited α] (enc:α→List DV) (x:List α) {T:TypeId} {sz:Nat} {es:List (List DV)} (hn:m.get r=some (.row T sz es)) (hes:es=x.map enc) (h1:frzE r (slT enc x) E=some E') (h2:frzM r (slT enc x) m=some m') (hk:WH tp c0 c s P ops Q sch EK E' m'):WH tp c0 c s P ops Q sch EK E m:=fun hst hsel hp a w listed hB hr hek=>
 hk hst hsel hp a w listed hB (hr.freezeT hn (fun F w v hv=>by rw [hes] at hv;exact hv.slT) h1 h2) hek
theorem WH.row {tp:Bool} (r:Nat) (es':List (List DV)) {T:TypeId} {sz:Nat} {es:List (List DV)} (hn:m.get r=some (.row T sz es)) (he:es=es') (h1:setRow r es' m=some m') (hk:WH tp c0 c s P ops Q sch EK E m'):WH tp c0 c s P ops Q sch EK E m:=fun hst hsel hp a w listed hB hr hek=>by
 subst he
 exact hk hst hsel hp a w listed hB (Less.rel ⟨fun t=> .inr rfl,fun n o hno=>by rw [←gX hn h1 n];exact hno⟩ hr) hek
end
end LJ
namespace LJ
open Go Go.RowKit
set_option linter.unusedVariables false
set_option linter.unusedSimpArgs false
section
variable {P:Program} {c c0:Ctx} {s:Stay} {ops:Array Oper} {Q:Exit→Env→Mem→Prop} {EK E:Env} {m:Mem} {sch:Sch} {o:Oper}
theorem oN.bothE (hs:oN s c0 c) {F:Nat→Prop} {N:aI} {a:Act} {w:World} (hm:bX c F N w m) (he:cg F N w a E) (hk:cg s.F s.N s.w a EK) (hf:fR c.P0 EK=true):cg F N w a (EK++E):=by
 refine ⟨fun t=>?_,he.glob⟩
 rcases Env.get_append t EK E with h | h
 ·rw [h]
  obtain ⟨c1,hm1⟩:=hs.mem
  refine (hk t).fast (lj hf t) (fun b hb=>hm.F0 b (hs.F0 b hb)) (fun b hb=>?_) (fun n hn=>?_)
  ·have:=hm.agree b (hs.K b hb) (by rw [hs.wK];exact hm1.Fin b hb)
   rw [hs.wK] at this
   exact this
  ·exact ⟨(hm.named n hn).1.trans (hs.β n hn).1.symm,fun hp=>((hm.named n hn).2 hp).trans ((hs.β n hn).2 hp).symm⟩
 ·rw [h]
  exact he t
def wq (o:Oper):Option Operand:=
 match o.op with
 | .move x=>some x
 | .assign x=>some x
 | _=>none
theorem td {x:Operand} (h:wq o=some x) (a:Act) (w:World):(execOp a.eval o).run P w= .ok (.value (a.eval x)) w:=by
 unfold wq at h
 split at h
 ·rename_i y hy;injection h with h;subst h;unfold execOp;simp [hy]
 ·rename_i y hy;injection h with h;subst h;unfold execOp;simp [hy]
 ·cases h
theorem WH.mv {i d:Nat} {x:Operand} {p:AV} {EK2 E2:Env} (hi:nth ops.toList i=some o) (hm:wq o=some x) (hx:opnd (EK++E) x=some p) (hf:fR c.P0 EK=true) (hd:o.dst=some d) (hg:o.guard=none) (hlt:Nat.blt d c.ntmps=true) (h1:eC (EK.del d)=some EK2) (h2:eC ((d,p)::E.del d)=some E2) (hk:WH true c0 c s P ops Q sch EK2 E2 m):WH true c0 c s P ops Q (.one i true sch) EK E m:=fun hst hsel hp a w listed hB hr hek=>by
 rw [ep,Array.getElem?_toList] at hi
 simp only [schB,Bool.and_eq_true] at hB
 obtain ⟨_,⟨hfr,hrd⟩,hB⟩:=hB
 have hv:∃ v,a.eval x=v:=⟨_,rfl⟩
 show wpAnyH P .any ops (lift c0 Q) (KS c) (sch.len+1) listed a w
 refine wpAnyH_take (v:=a.eval x) hi hsel hfr hrd (mF hp _ _) (.inl ⟨by simp [Region.wanted,hg],fun w' _=>td hm a w'⟩) hr.ks ?_
 rw [hd]
 obtain ⟨r1,r2,F,N,hmem,he⟩:=hr
 have heb:=hst.bothE hmem he hek hf
 have hrep:=aA hx F N w a heb
 rw [bt h1] at hk
 rw [bt h2] at hk
 refine hk hst hsel hp _ _ _ hB ⟨r1,by simp [Act.put,r2],F,N,hmem,⟨fun t=>?_,he.glob⟩⟩ ⟨fun t=>?_,hek.glob⟩
 ·have:=(he.put (d:=d) (by rw [r2];exact Nat.le_of_ble_eq_true hlt) hrep) t
  simp only [Env.get] at this ⊢
  cases e:Nat.beq d t with
  | true=>rw [e] at this;exact this
  | false=>
   rw [e] at this
   have hdt:d≠t:=fun h=>by rw [h,Nat.beq_refl] at e;cases e
   simp only [cond_false] at this ⊢
   rw [Env.get_del,if_neg hdt]
   exact this
 ·rw [Env.get_del]
  by_cases h:d=t
  ·rw [if_pos h];exact .und
  ·rw [if_neg h]
   have:(a.put (some d) (a.eval x)).tmps.getD t undef=a.tmps.getD t undef:=by
    simp only [Act.put]
    rw [kE,if_neg (fun h'=>h h'.1)]
   rw [this]
   exact hek t
end
end LJ
