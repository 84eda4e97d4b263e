/- A function that defers a closure which recovers. -/
import Derived.Test.YtdebndfaknfefaaGreatDoorXPan
import Derived.Defers
import Derived.Recover
namespace LJ
open Go Go.RowKit
set_option linter.unusedVariables false
set_option linter.unusedSimpArgs false
def rU (E:Env):Env→Prop
 | []=>True
 | (t,p)::l=>E.get t=p∧(∃ n i,p= .ptr n i)∧rU E l
theorem rU.get {E:Env} :∀ {l:Env},rU E l→∀ t,l.get t= .und∨(E.get t=l.get t∧∃ n i,l.get t= .ptr n i)
 | [],_,t=> .inl rfl
 | (k,p)::l,h,t=>by
  simp only [Env.get]
  cases e:Nat.beq k t with
  | true=>
   have:=Nat.eq_of_beq_eq_true e
   subst this
   obtain ⟨h1,⟨n,i,h2⟩,_⟩:=h
   exact .inr ⟨h1,n,i,h2⟩
  | false=>exact rU.get h.2.2 t
section
variable {c:Ctx} {P:Program} {ops:Array Oper} {Q:Exit→Env→Mem→Prop} {E:Env} {m:Mem} {o:Oper} {l:List Oper}
theorem Rel.fellK {F:Nat→Prop} {N:ba} {a:Act} {w w':World} {m0 m':Mem} {E':Env} {v:Value} {e:Ending} (h1:a.defers=c.dfs) (h2:a.tmps.size=c.ntmps) (hm:dj c F N w m) (he:di F N w a E) (hsub:dI m m0) (hk:lg c.KN m0.names=true) (hE:rU E E') (hm':dI m m') (hno:lg m0.names m'.names=true) (hd:Fell N w m0 v e w'):Rel c E' m' a w':=by
 have hF:∀ b,F b→w'.heap[b]? =w.heap[b]? :=fun b hb=>hd.kept b (hm.Fin b hb) fun ⟨n,o,hn,hb'⟩=>(hm.free n o b (hsub.get hn) hb').1 hb
 refine ⟨h1,h2,F,N,⟨hm.F0,hm.Fnew,fun b hb=>Nat.lt_of_lt_of_le (hm.Fin b hb) hd.size,hd.os.trans hm.os,hd.tape.trans hm.tape,hd.output.trans hm.output,Nat.le_trans hm.size hd.size,fun b hb hs=>?_,fun n o h=>?_,fun n o b h=>hm.free n o b (hm'.get h),fun n n' o o' b h h'=>hm.apart n n' o o' b (hm'.get h) (hm'.get h'),hm.named,fun b hb hl=>?_,fun n o b h=>hm.knames n o b (hm'.get h),Nat.le_trans hm.ksize hd.size⟩,⟨fun t=>?_,he.glob.mono (fun _ h=>h) hF⟩⟩
 ·refine (hd.kept b (Nat.lt_of_lt_of_le hb hm.size) fun ⟨n,o,hn,hb'⟩=>?_).trans (hm.kept b hb hs)
  rcases (hm.free n o b (hsub.get hn) hb').2 with h | h
  ·exact hs h
  ·omega
 ·have ho:=hm.obj n o (hm'.get h)
  refine ho.mono (fun _ h=>h) hF fun b hb=>hd.kept b (ho.lt hb) fun ⟨n',o',hn',hb'⟩=>?_
  have:=hm.apart n n' o o' b (hm'.get h) (hsub.get hn') hb hb'
  subst this
  have h3:=m9 hno n (lb h)
  rw [lb hn'] at h3
  cases h3
 ·refine (hd.kept b (Nat.lt_of_lt_of_le hl hm.ksize) fun ⟨n,o,hn,hb'⟩=>?_).trans (hm.agree b hb hl)
  have h3:=hm.knames n o b (hsub.get hn) hb' hb hl
  rw [m9 hk n (lb hn)] at h3
  cases h3
 ·rcases hE.get t with h | ⟨h,n,i,hp⟩
  ·rw [h];exact .und
  ·have:=he t
   rw [h,hp] at this
   rw [hp]
   have e:=this.ptr_inv
   show Rep F N w' (a.tmps.getD t undef) (.ptr n i)
   rw [e]
   exact .ptr
theorem WL.callPK {f:Nat} {xs:List Operand} {args:List AV} {m0:Mem} {v:Value} {fn:Func} (E':Env) (m':Mem) (hS:l9 P f args m0 v) (hfn:aF P f fn) (ho:i3 o=some (f,xs)) (hx:lZ E xs=some args) (hsub:dI m m0) (hk:lg c.KN m0.names=true) (hE:rU E E') (hm':dI m m') (hno:lg m0.names m'.names=true) (hg:o.guard=none) (hq:Q (.panic [{v:=v,recovered:=false}]) E' m'):WL c P ops Q (o::l) E m:=fun a w hr=>by
 refine wpList_plain hg fun K hK=>?_
 unfold i3 at ho
 split at ho
 ·rename_i cl hcl
  split at ho
  ·rename_i f' hf
   simp only [Option.some.injEq,Prod.mk.injEq] at ho
   obtain ⟨rfl,rfl⟩:=ho
   unfold callee at hf
   split at hf
   ·rename_i f2 hc
    injection hf with hf
    subst hf
    have hcl':o.op= .call {callee:= .value (.func f2),args:=cl.args.toList.toArray,argTypes:=cl.argTypes} :=by
     rw [hcl]
     cases cl
     simp_all
    obtain ⟨c1,c2,c3⟩:=hfn
    obtain ⟨h1,h2,F,N,hm,he⟩:=hr
    unfold Oper.wp
    rw [lQ hcl' rfl c1 c2 c3,Oper.upon_enter]
    obtain ⟨hl,hv⟩:=(jD hx).rep he
    refine (hS F N w _ ⟨he.glob,hm.Fin,fun n o hn=>hm.obj n o (hsub.get hn),fun n o b hn hb=>(hm.free n o b (hsub.get hn) hb).1,fun n n' o o' b hn hn'=>hm.apart n n' o o' b (hsub.get hn) (hsub.get hn')⟩ hl hv).mono ?_
    intro e w' hd
    rw [hd.ending]
    exact ⟨E',m',hq,Rel.fellK h1 h2 hm he hsub hk hE hm' hno hd⟩
   ·cases hf
  ·cases ho
 ·cases ho
end
def CY (f:Func):Code:=match f.body with
 | some (.seq _ (.seq _ r))=>r
 | _=> .skip
def xq (f:Func):Code:=match f.body with
 | some (.seq _ (.seq _ (.cond _ (.seq _ (.seq _ r)) _)))=>r
 | _=> .skip
theorem dH.box1 {F:Nat→Prop} {N:ba} {w:World} {n:Nat} {T:TypeId} {k:IntKind} {z:Int} (h:dH F N w n (.box T [.d (.int k z)])):w.heap[N.β n]? =some (.cells #[.int k z] T (0,0)):=by
 obtain ⟨vs,hb,hl2,hcs⟩:=h
 match vs,hl2 with
 | [v],_=>
  have:=(hcs 0 v (.d (.int k z)) rfl rfl).d_inv.int_inv
  rw [hb,this]
theorem dH.box3 {F:Nat→Prop} {N:ba} {w:World} {n:Nat} {T:TypeId} (h:dH F N w n (.box T [.d .nils, .d .nils, .d .nils])):w.heap[N.β n]? =some (.cells #[.slice none 0 0, .slice none 0 0, .slice none 0 0] T (0,0)):=by
 obtain ⟨vs,hb,hl2,hcs⟩:=h
 match vs,hl2 with
 | [v0,v1,v2],_=>
  have e0:=(hcs 0 v0 (.d .nils) rfl rfl).d_inv.nils_inv
  have e1:=(hcs 1 v1 (.d .nils) rfl rfl).d_inv.nils_inv
  have e2:=(hcs 2 v2 (.d .nils) rfl rfl).d_inv.nils_inv
  rw [hb,e0,e1,e2]
theorem dH.mk3 {F:Nat→Prop} {N:ba} {w:World} {n:Nat} {T:TypeId} (h:w.heap[N.β n]? =some (.cells #[.slice none 0 0, .slice none 0 0, .slice none 0 0] T (0,0))):dH F N w n (.box T [.d .nils, .d .nils, .d .nils]):=by
 refine ⟨[.slice none 0 0, .slice none 0 0, .slice none 0 0],h,rfl,fun i v c hv hc=>?_⟩
 match i,hv,hc with
 | 0,hv,hc=>cases hv;cases hc;exact .d .nils
 | 1,hv,hc=>cases hv;cases hc;exact .d .nils
 | 2,hv,hc=>cases hv;cases hc;exact .d .nils
theorem Rep.tup2 {F:Nat→Prop} {N:ba} {w:World} {v:Value} {d d' e:DV} (hl:Le d d') (h:Rep F N w v (.tup [.d d, .d e])):Rep F N w v (.tup [.d d', .d e]):=by
 obtain ⟨vs,rfl,hlen,hvs⟩:=h.tup_inv
 refine .tup hlen fun i x c hx hc=>?_
 match i,hc with
 | 0,hc=>cases hc;exact .d (hl _ _ _ (hvs 0 x _ hx rfl).d_inv)
 | 1,hc=>cases hc;exact hvs 1 x _ hx rfl
def pget {β:Type} (f:Int→β):Int ⊕ β→β
 | .inl e=>f e
 | .inr y=>y
def DJ {β:Type} (P:Program) (fn:Func) (pt T T2:TypeId) (zs:List DV) (o:β→AV) (z:Int ⊕ β):Exit→Env→Mem→Prop
 | .normal,E,m | .ret,E,m=>∃ y,z= .inr y∧Ends P fn (o y) [] .ret E m
 | .panic ch,E,m=>∃ e,z= .inl e∧ch=[{v:= .iface pt (.agg #[.int .i64 e]),recovered:=false}]∧E.get 2= .ptr 1 0∧E.get 3= .ptr 2 0∧m.get 1=some (.box T (zs.map .d))∧m.get 2=some (.box T2 [.d (.int .i64 0)])
 | _,_,_=>False
def z1 (P:Program) (k:FuncId) (pt T T2:TypeId) (zv:Array Value):Prop:=∀ (F:Nat→Prop) (bp bq:Nat) (e:Int) (w:World),kX F w→(∀ b,F b→b<w.heap.size)→¬F bp→¬F bq→bp≠bq→w.heap[bp]? =some (.cells zv T (0,0))→w.heap[bq]? =some (.cells #[.int .i64 0] T2 (0,0))→
 CallsD P k #[.pointer (some ⟨bp,0,none⟩), .pointer (some ⟨bq,0,none⟩)] (.panicking [{v:= .iface pt (.agg #[.int .i64 e]),recovered:=false}]) w fun en u' w'=>
  en= .returned (.tuple #[])∧u'= .panicking [{v:= .iface pt (.agg #[.int .i64 e]),recovered:=true}]∧w'.os=w.os∧w'.tape=w.tape∧w'.output=w.output∧w.heap.size≤w'.heap.size∧(∀ b,b<w.heap.size→b≠bp→b≠bq→w'.heap[b]? =w.heap[b]?)∧
   w'.heap[bp]? =some (.cells zv T (0,0))∧w'.heap[bq]? =some (.cells #[.int .i64 e] T2 (0,0))
def DK (P:Program) (k:FuncId):Prop:=∀ (p q:Addr) (w:World),CallsD P k #[.pointer (some p), .pointer (some q)] .returning w fun e u' w'=>e= .returned (.tuple #[])∧u'= .returning∧w'=w
theorem Spec.recovers {β:Type} {P:Program} {f k:FuncId} {fn:Func} {args:List AV} {i0 i1:Nat} {ops0:Array Oper} {oc od:Oper} {rest:Code} {ts:Array TypeId} {pt T T2:TypeId} {zs:List DV} {zv:Array Value} {o:β→AV} {zf:Int→β} {z:Int ⊕ β} {E1:Env} {m1:Mem}
  (hf:P.funcs[f]? =some fn) (hb:fn.body=some (.seq (.region i0 ops0 false) (.seq (.region i1 #[oc,od] false) rest))) (nt:Nat) (hn:fn.ntmps=nt) (ha:Nat.ble args.length nt=true) (h7:Nat.blt 7 nt=true)
  (hA:∀ w0 F0 S0 B0,WC {w0:=w0,F0:=F0,S0:=S0,ntmps:=nt,P0:=[],B0:=B0} P (.region i0 ops0 false) (CS E1 m1) (mH args 0) [])
  (e2:E1.get 2= .ptr 1 0) (e3:E1.get 3= .ptr 2 0) (e7:E1.get 7= .und)
  (h1:oc.op= .makeFunc (.func k) #[] #[.tmp 2, .tmp 3]) (hd1:oc.dst=some 7) (hg1:oc.guard=none) (h2:od.op= .defer {callee:= .value (.tmp 7),args:=#[],argTypes:=ts}) (hd2:od.dst=none) (hg2:od.guard=none)
  (hR:∀ w0 F0 S0 B0 ds,WC {w0:=w0,F0:=F0,S0:=S0,ntmps:=nt,P0:=[1,2],B0:=B0,dfs:=ds} P rest (DJ P fn pt T T2 zs o z) E1 m1)
  (hinv:∀ p q w,(invoke (.fn (.func k) #[p,q]) #[]).run P w= .ok (.enter k #[p,q]) w) (hidle:DK P k) (hcatch:z1 P k pt T T2 zv)
  (hzv:∀ F N w n,dH F N w n (.box T (zs.map .d))→w.heap[N.β n]? =some (.cells zv T (0,0))) (hout:∀ e:Int,∃ rs ps,fn.results=rs.toArray∧Outs P [(2, .ptr 1 0),(3, .ptr 2 0)] [(1, .box T (zs.map .d)),(2, .box T2 [.d (.int .i64 e)])] rs ps∧∀ (F:Nat→Prop) (N:ba) (w:World) (v:Value),Rep F N w v (mJ ps)→Rep F N w v (o (zf e)))
  (hzb:∀ (F:Nat→Prop) (N:ba) (w:World) (n:Nat),w.heap[N.β n]? =some (.cells zv T (0,0))→dH F N w n (.box T (zs.map .d))):
  Spec P f args [] (o (pget zf z)) []:=by
 intro F N w vals hm hl hr
 have ha':args.length≤nt:=Nat.le_of_ble_eq_true ha
 refine calls_of_wp_defers hf hb ?_
 refine wp_seq (wp_mono (hA w F (jB N []) N _ w ⟨rfl,?_,F,N,?_,?_⟩) ?_)
 ·simp
  omega
 ·exact ⟨fun _ h=>h,fun _ h=> .inl h,hm.Fin,rfl,rfl,rfl,Nat.le_refl _,fun _ _ _=>rfl,hm.obj,fun n o b hn hb=>(by cases hn),hm.apart,fun _ _=>⟨rfl,fun _=>rfl⟩,fun _ h=>h.elim,fun _ _ _ _ _ h=>h.elim,Nat.le_refl _⟩
 ·refine ⟨fun t=>?_,hm.glob⟩
  rw [lP,if_pos (Nat.zero_le _),Nat.sub_zero]
  cases hp:args[t]? with
  | none=>exact .und
  | some p=>
   have ht:t<args.length:=(List.getElem?_eq_some_iff.1 hp).1
   obtain ⟨v,hv⟩:∃ v,vals[t]? =some v:=⟨vals[t],List.getElem?_eq_getElem (by omega)⟩
   have:(vals.toArray++Array.replicate (fn.ntmps - vals.toArray.size) undef).getD t undef=v:=by
    rw [Array.getD_eq_getD_getElem?,Array.getElem?_append_left (by simp;omega)]
    simp [hv]
   show Rep F N w ((vals.toArray++Array.replicate (fn.ntmps - vals.toArray.size) undef).getD t undef) (Option.getD (some p) .und)
   rw [this]
   exact hr t v p hv hp
 rintro e a1 w1 ⟨E1',m1',⟨rfl,rfl,rfl⟩,g1,g2,F1,N1,hm1,he1⟩
 have p2:a1.tmps.getD 2 undef= .pointer (some ⟨N1.β 1,0,none⟩):=by have:=he1 2;rw [e2] at this;exact this.ptr_inv
 have p3:a1.tmps.getD 3 undef= .pointer (some ⟨N1.β 2,0,none⟩):=by have:=he1 3;rw [e3] at this;exact this.ptr_inv
 have lt7:7<a1.tmps.size:=by rw [g2];simpa using h7
 have v2:a1.eval (.tmp 2)= .pointer (some ⟨N1.β 1,0,none⟩):=p2
 have v3:a1.eval (.tmp 3)= .pointer (some ⟨N1.β 2,0,none⟩):=p3
 have hrun1:(execOp a1.eval oc).run P w1= .ok (.value (.func (.func k) #[] #[.pointer (some ⟨N1.β 1,0,none⟩), .pointer (some ⟨N1.β 2,0,none⟩)])) w1:=by
  unfold execOp
  simp only [h1]
  simp [v2,v3,Instr.makeFunc]
 let a2:=a1.put oc.dst (.func (.func k) #[] #[.pointer (some ⟨N1.β 1,0,none⟩), .pointer (some ⟨N1.β 2,0,none⟩)])
 have v7:a2.eval (.tmp 7)= .func (.func k) #[] #[.pointer (some ⟨N1.β 1,0,none⟩), .pointer (some ⟨N1.β 2,0,none⟩)]:=by
  show (a1.put oc.dst _).eval (.tmp 7)=_
  simp [Act.put,hd1,Act.eval,Array.getElem?_setIfInBounds,lt7]
 let d:Deferred:= {target:= .fn (.func k) #[.pointer (some ⟨N1.β 1,0,none⟩), .pointer (some ⟨N1.β 2,0,none⟩)],args:=#[]}
 have hrun2:(execOp a2.eval od).run P w1= .ok (.defer d) w1:=by
  unfold execOp
  simp only [h2]
  simp [resolve,v7,Deferred.ofValue,d]
 refine wp_seq (wp_region_list ?_)
 refine wpList_plain hg1 fun K hK=>?_
 unfold Oper.wp
 rw [hrun1,Oper.upon_value]
 refine hK _ _ (wpList_plain hg2 fun K2 hK2=>?_)
 unfold Oper.wp
 rw [show a1.put oc.dst (.func (.func k) #[] #[.pointer (some ⟨N1.β 1,0,none⟩), .pointer (some ⟨N1.β 2,0,none⟩)])=a2 from rfl,hrun2,Oper.upon_defer]
 refine hK2 _ _ ?_
 have hrel:Rel {w0:=w,F0:=F,S0:=jB N [],ntmps:=nt,P0:=[1,2],B0:=N1,dfs:=[d]} E1' m1' ({a2 with defers:=d::a2.defers}.put od.dst undef) w1:=by
  have hd:({a2 with defers:=d::a2.defers}.put od.dst undef)= {a2 with defers:=[d]} :=by
   have:a2.defers=[]:=by
    show (a1.put oc.dst _).defers=[]
    rw [hd1];exact g1
   rw [hd2,this];rfl
  rw [hd]
  refine ⟨rfl,?_,F1,N1,⟨hm1.F0,hm1.Fnew,hm1.Fin,hm1.os,hm1.tape,hm1.output,hm1.size,hm1.kept,hm1.obj,hm1.free,hm1.apart,fun _ _=>⟨rfl,fun _=>rfl⟩,fun _ h=>h.elim,fun _ _ _ _ _ h=>h.elim,hm1.size⟩,?_⟩
  ·show (a1.put oc.dst _).tmps.size=nt
   rw [hd1];simpa [Act.put] using g2
  ·have:=he1.keep (d:=7) (v:= .func (.func k) #[] #[.pointer (some ⟨N1.β 1,0,none⟩), .pointer (some ⟨N1.β 2,0,none⟩)]) e7
   rw [←hd1] at this
   exact ⟨this.slot,this.glob⟩
 refine wp_mono (hR w F (jB N []) N1 [d] _ w1 hrel) ?_
 rintro e a' w' ⟨E',m',hq,q1,q2,F',N',q3,q4⟩
 have no0:∀ b,¬jB N [] b:=fun b ⟨n,o,hn,_⟩=>by cases hn
 have fin:∀ y,z= .inr y→Ends P fn (o y) [] .ret E' m'→Leaves P fn a'.tmps (fun e w'=>∃ v F' N',Done F N w [] (o (pget zf z)) [] e w' v F' N') a'.defers .returning w':=by
  rintro y rfl ⟨rs,ps,r1,r2,r3,r4⟩
  rw [show a'.defers=[d] from q1]
  refine leaves_cons (by simp) (hinv _ _ w') ((hidle _ _ w').mono ?_)
  rintro en u' w'' ⟨rfl,rfl,rfl⟩
  obtain ⟨v,hv1,hv2⟩:=jC q3.obj q4 r1 r2
  rw [r3] at hv2
  exact ⟨v,hv1,v,F',N',⟨rfl,hv2,⟨q4.glob,q3.Fin,fun n o hn=>(by cases hn),fun n o b hn=>(by cases hn),fun n n' o o' b hn=>(by cases hn)⟩,q3.F0,q3.Fnew,q3.os,q3.tape,q3.output,q3.size,q3.kept,fun n o b hn=>(by cases hn),fun n T cs hn=>(by cases hn)⟩⟩
 cases e with
 | normal=>obtain ⟨y,hz,he⟩:=hq;exact fin y hz he
 | ret=>obtain ⟨y,hz,he⟩:=hq;exact fin y hz he
 | exit id=>exact hq
 | goto l=>exact hq
 | outgrown=>exact hq.elim
 | panic ch=>
  obtain ⟨e,rfl,rfl,s2,s3,b1,b2⟩:=hq
  have n1:N'.β 1=N1.β 1:=(q3.named 1 rfl).1
  have n2:N'.β 2=N1.β 2:=(q3.named 2 rfl).1
  have hp:=hzv F' N' w' 1 (q3.obj 1 _ b1)
  have hq':w'.heap[N'.β 2]? =some (.cells #[.int .i64 0] T2 (0,0)):=by
   obtain ⟨vs,hb,hl2,hcs⟩:=q3.obj 2 _ b2
   match vs,hl2 with
   | [v],_=>
    have:=(hcs 0 v (.d (.int .i64 0)) rfl rfl).d_inv.int_inv
    rw [hb,this]
  have hne:N'.β 1≠N'.β 2:=fun h=>by
   have:=q3.apart 1 2 _ _ (N'.β 1) b1 b2 rfl (by rw [h];rfl)
   cases this
  have f1:=q3.free 1 _ (N'.β 1) b1 rfl
  have f2:=q3.free 2 _ (N'.β 2) b2 rfl
  show Leaves P fn a'.tmps _ a'.defers _ w'
  rw [show a'.defers=[d] from q1]
  have t2:a'.tmps.getD 2 undef= .pointer (some ⟨N'.β 1,0,none⟩):=by have:=q4 2;rw [s2] at this;exact this.ptr_inv
  have t3:a'.tmps.getD 3 undef= .pointer (some ⟨N'.β 2,0,none⟩):=by have:=q4 3;rw [s3] at this;exact this.ptr_inv
  have hc:=hcatch F' (N'.β 1) (N'.β 2) e w' q4.glob q3.Fin f1.1 f2.1 hne hp hq'
  rw [n1,n2] at hc
  refine leaves_cons (by simp) (hinv _ _ w') (hc.mono ?_)
  rintro en u' w'' ⟨rfl,rfl,c1,c2,c3,c4,c5,c6,c7⟩
  rw [←n1,←n2] at c5
  rw [←n1] at c6
  rw [←n2] at c7
  have far:∀ b,F' b→w''.heap[b]? =w'.heap[b]? :=fun b hb=>c5 b (q3.Fin b hb) (fun h=>f1.1 (h ▸hb)) (fun h=>f2.1 (h ▸hb))
  obtain ⟨rs,ps,hr1,hr2,hr3⟩:=hout e
  have hE:di F' N' w'' a' [(2, .ptr 1 0),(3, .ptr 2 0)]:=⟨fun t=>by
   simp only [Env.get]
   cases e2:Nat.beq 2 t with
   | true=>rw [←Nat.eq_of_beq_eq_true e2,t2];exact .ptr (N:=N') (n:=1)
   | false=>
    cases e3:Nat.beq 3 t with
    | true=>rw [←Nat.eq_of_beq_eq_true e3,t3];exact .ptr (N:=N') (n:=2)
    | false=>exact .und,q4.glob.mono (fun _ h=>h) far⟩
  have hO:∀ (n:Nat) (ob:AObj),Mem.get [(1, .box T (zs.map .d)),(2, .box T2 [.d (.int .i64 e)])] n=some ob→dH F' N' w'' n ob:=fun n ob h=>by
   simp only [Mem.get] at h
   cases e1:Nat.beq 1 n with
   | true=>
    rw [e1] at h
    cases h
    rw [←Nat.eq_of_beq_eq_true e1]
    exact hzb F' N' w'' 1 c6
   | false=>
    rw [e1] at h
    simp only [cond_false] at h
    cases e2:Nat.beq 2 n with
    | true=>
     rw [e2] at h
     cases h
     rw [←Nat.eq_of_beq_eq_true e2]
     refine ⟨[.int .i64 e],c7,rfl,fun i v c hv hc=>?_⟩
     match i,hv,hc with
     | 0,hv,hc=>cases hv;cases hc;exact .d .int
    | false=>rw [e2] at h;cases h
  obtain ⟨v,hv,hrep0⟩:=jC hO hE hr1 hr2
  have hrep:=hr3 F' N' w'' v hrep0
  refine ⟨v,hv,v,F',N',⟨rfl,hrep,⟨q4.glob.mono (fun _ h=>h) far,fun b hb=>Nat.lt_of_lt_of_le (q3.Fin b hb) c4,fun n o hn=>(by cases hn),fun n o b hn=>(by cases hn),fun n n' o o' b hn=>(by cases hn)⟩,q3.F0,q3.Fnew,c1.trans q3.os,c2.trans q3.tape,c3.trans q3.output,Nat.le_trans q3.size c4,fun b hb hi=>?_,fun n o b hn=>(by cases hn),fun n T cs hn=>(by cases hn)⟩⟩
  have k1:w.heap.size≤N'.β 1:=f1.2.resolve_left (no0 _)
  have k2:w.heap.size≤N'.β 2:=f2.2.resolve_left (no0 _)
  exact (c5 b (Nat.lt_of_lt_of_le hb q3.size) (by omega) (by omega)).trans (q3.kept b hb hi)
theorem z4 {P:Program} {C:Code} {pt T T2:TypeId} {e:Int} {nt:Nat} {Q:Exit→Act→World→Prop} {F:Nat→Prop} {bp bq:Nat} {w w1:World} {a:Act}
  (hC:∀ w0 F0 S0 B0,WC {w0:=w0,F0:=F0,S0:=S0,ntmps:=nt,P0:=[1,2],B0:=B0} P C (fun x E m=>x= .normal∧m.get 1=some (.box T [.d .nils, .d .nils, .d .nils])∧m.get 2=some (.box T2 [.d (.int .i64 e)])) [(3, .ptr 3 0),(1, .ptr 2 0),(0, .ptr 1 0)] [(3, .box pt [.d (.int .i64 e)]),(2, .box T2 [.d (.int .i64 0)]),(1, .box T [.d .nils, .d .nils, .d .nils])])
  (hG:kX F w) (hFin:∀ b,F b→b<w.heap.size) (hFp:¬F bp) (hFq:¬F bq) (hne:bp≠bq) (hp:w.heap[bp]? =some (.cells #[.slice none 0 0, .slice none 0 0, .slice none 0 0] T (0,0))) (hq:w.heap[bq]? =some (.cells #[.int .i64 0] T2 (0,0)))
  (lp:bp<w.heap.size) (lq:bq<w.heap.size) (hw1:w1=w.alloc (.cells #[.int .i64 e] pt)) (hs:a.tmps.size=nt) (hd:a.defers=[]) (h0:a.tmps.getD 0 undef= .pointer (some ⟨bp,0,none⟩)) (h1:a.tmps.getD 1 undef= .pointer (some ⟨bq,0,none⟩)) (h3:a.tmps.getD 3 undef= .pointer (some ⟨w.heap.size,0,none⟩))
  (hk:∀ a' w',a'.defers=[]→w'.os=w.os→w'.tape=w.tape→w'.output=w.output→w.heap.size≤w'.heap.size→(∀ b,b<w.heap.size→b≠bp→b≠bq→w'.heap[b]? =w.heap[b]?)→w'.heap[bp]? =some (.cells #[.slice none 0 0, .slice none 0 0, .slice none 0 0] T (0,0))→w'.heap[bq]? =some (.cells #[.int .i64 e] T2 (0,0))→Q .normal a' w'):C.wp P Q a w1:=by
 subst hw1
 let N:ba:=⟨fun n=>if n=1 then bp else if n=2 then bq else w.heap.size,fun _=>undef⟩
 have old:∀ b,b<w.heap.size→(w.alloc (.cells #[.int .i64 e] pt)).heap[b]? =w.heap[b]? :=fun b hb=>Lib.alloc_old w _ b hb
 have new:(w.alloc (.cells #[.int .i64 e] pt)).heap[w.heap.size]? =some (.cells #[.int .i64 e] pt (0,0)):=by
  show (w.heap.push _)[w.heap.size]? =_
  exact Array.getElem?_push_size
 have hsz:(w.alloc (.cells #[.int .i64 e] pt)).heap.size=w.heap.size+1:=by simp
 have b1:dH F N (w.alloc (.cells #[.int .i64 e] pt)) 1 (.box T [.d .nils, .d .nils, .d .nils]):=by
  refine ⟨[.slice none 0 0, .slice none 0 0, .slice none 0 0],(old bp lp).trans hp,rfl,fun i v c hv hc=>?_⟩
  match i,hv,hc with
  | 0,hv,hc=>cases hv;cases hc;exact .d .nils
  | 1,hv,hc=>cases hv;cases hc;exact .d .nils
  | 2,hv,hc=>cases hv;cases hc;exact .d .nils
 have b2:dH F N (w.alloc (.cells #[.int .i64 e] pt)) 2 (.box T2 [.d (.int .i64 0)]):=by
  refine ⟨[.int .i64 0],(old bq lq).trans hq,rfl,fun i v c hv hc=>?_⟩
  match i,hv,hc with
  | 0,hv,hc=>cases hv;cases hc;exact .d .int
 have b3:dH F N (w.alloc (.cells #[.int .i64 e] pt)) 3 (.box pt [.d (.int .i64 e)]):=by
  refine ⟨[.int .i64 e],new,rfl,fun i v c hv hc=>?_⟩
  match i,hv,hc with
  | 0,hv,hc=>cases hv;cases hc;exact .d .int
 have get3:∀ (n:Nat) (o:AObj),Mem.get [(3, .box pt [.d (.int .i64 e)]),(2, .box T2 [.d (.int .i64 0)]),(1, .box T [.d .nils, .d .nils, .d .nils])] n=some o→(n=3∧o= .box pt [.d (.int .i64 e)])∨(n=2∧o= .box T2 [.d (.int .i64 0)])∨(n=1∧o= .box T [.d .nils, .d .nils, .d .nils]):=fun n o h=>by
  simp only [Mem.get] at h
  cases e3:Nat.beq 3 n with
  | true=>rw [e3] at h;exact .inl ⟨(Nat.eq_of_beq_eq_true e3).symm,(Option.some.inj h).symm⟩
  | false=>
   rw [e3] at h
   simp only [cond_false] at h
   cases e2:Nat.beq 2 n with
   | true=>rw [e2] at h;exact .inr (.inl ⟨(Nat.eq_of_beq_eq_true e2).symm,(Option.some.inj h).symm⟩)
   | false=>
    rw [e2] at h
    simp only [cond_false] at h
    cases e1:Nat.beq 1 n with
    | true=>rw [e1] at h;exact .inr (.inr ⟨(Nat.eq_of_beq_eq_true e1).symm,(Option.some.inj h).symm⟩)
    | false=>rw [e1] at h;cases h
 have rel:Rel {w0:=w,F0:=F,S0:=fun b=>b=bp∨b=bq,ntmps:=nt,P0:=[1,2],B0:=N} [(3, .ptr 3 0),(1, .ptr 2 0),(0, .ptr 1 0)] [(3, .box pt [.d (.int .i64 e)]),(2, .box T2 [.d (.int .i64 0)]),(1, .box T [.d .nils, .d .nils, .d .nils])] a (w.alloc (.cells #[.int .i64 e] pt)):=by
  refine ⟨hd,hs,F,N,⟨fun _ h=>h,fun _ h=> .inl h,fun b hb=>by have:=hFin b hb;rw [hsz];omega,rfl,rfl,rfl,by rw [hsz];exact Nat.le_succ _,fun b hb _=>old b hb,?_,?_,?_,fun _ _=>⟨rfl,fun _=>rfl⟩,fun _ h=>h.elim,fun _ _ _ _ _ h=>h.elim,by rw [hsz];exact Nat.le_succ _⟩,⟨fun t=>?_,hG.mono (fun _ h=>h) fun b hb=>old b (hFin b hb)⟩⟩
  ·intro n o h
   rcases get3 n o h with ⟨rfl,rfl⟩ | ⟨rfl,rfl⟩ | ⟨rfl,rfl⟩
   ·exact b3
   ·exact b2
   ·exact b1
  ·intro n o b h hb
   rcases get3 n o h with ⟨rfl,rfl⟩ | ⟨rfl,rfl⟩ | ⟨rfl,rfl⟩
   ·have:w.heap.size=b:=Option.some.inj hb
    subst this
    exact ⟨fun hF=>Nat.lt_irrefl _ (hFin _ hF), .inr (Nat.le_refl _)⟩
   ·have:bq=b:=Option.some.inj hb
    subst this
    exact ⟨hFq, .inl (.inr rfl)⟩
   ·have:bp=b:=Option.some.inj hb
    subst this
    exact ⟨hFp, .inl (.inl rfl)⟩
  ·intro n n' o o' b h h' hb hb'
   rcases get3 n o h with ⟨rfl,rfl⟩ | ⟨rfl,rfl⟩ | ⟨rfl,rfl⟩ <;> rcases get3 n' o' h' with ⟨rfl,rfl⟩ | ⟨rfl,rfl⟩ | ⟨rfl,rfl⟩ <;> first | rfl | (
    have e1:=Option.some.inj hb
    have e2:=Option.some.inj hb'
    simp [N] at e1 e2
    omega)
  ·simp only [Env.get]
   cases e3:Nat.beq 3 t with
   | true=>
    have:=Nat.eq_of_beq_eq_true e3
    subst this
    rw [h3];exact .ptr (N:=N) (n:=3)
   | false=>
    cases e1:Nat.beq 1 t with
    | true=>
     have:=Nat.eq_of_beq_eq_true e1
     subst this
     rw [h1];exact .ptr (N:=N) (n:=2)
    | false=>
     cases e0:Nat.beq 0 t with
     | true=>
      have:=Nat.eq_of_beq_eq_true e0
      subst this
      rw [h0];exact .ptr (N:=N) (n:=1)
     | false=>exact .und
 refine wp_mono (hC w F _ N a _ rel) ?_
 rintro x a' w' ⟨E',m',⟨rfl,q1,q2⟩,g1,g2,F',N',g3,g4⟩
 have n1:N'.β 1=bp:=(g3.named 1 rfl).1
 have n2:N'.β 2=bq:=(g3.named 2 rfl).1
 refine hk a' w' g1 g3.os g3.tape g3.output g3.size (fun b hb h h'=>g3.kept b hb (fun hh=>hh.elim h h')) ?_ ?_
 ·have:=(g3.obj 1 _ q1).box3
  rwa [n1] at this
 ·have:=(g3.obj 2 _ q2).box1
  rwa [n2] at this
end LJ
