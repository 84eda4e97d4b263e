/- Calls that end with a panic of a struct of one number. -/
import Derived.Test.YtdebndfaknfefaaGreatDoorXMak
namespace LJ
open Go Go.RowKit
set_option linter.unusedVariables false
set_option linter.unusedSimpArgs false
structure Fell (N:ba) (w:World) (m0:Mem) (v:Value) (e:Ending) (w':World):Prop where
 ending:e= .panicked [{v:=v,recovered:=false}]
 os:w'.os=w.os
 tape:w'.tape=w.tape
 output:w'.output=w.output
 size:w.heap.size≤w'.heap.size
 kept:∀ b,b<w.heap.size→¬jB N m0 b→w'.heap[b]? =w.heap[b]?
def l9 (P:Program) (f:FuncId) (args:List AV) (m0:Mem) (v:Value):Prop:=
 ∀ (F:Nat→Prop) (N:ba) (w:World) (vals:List Value),sm F N w m0→vals.length=args.length→(∀ (i:Nat) (v:Value) (p:AV),vals[i]? =some v→args[i]? =some p→Rep F N w v p)→
  Calls P f vals.toArray w fun e w'=>Fell N w m0 v e w'
def ml {β:Type} (P:Program) (f:FuncId) (args:List AV) (m0:Mem) (pv:Int→Value) (o:β→AV×Mem):Int ⊕ β→Prop
 | .inl e=>l9 P f args m0 (pv e)
 | .inr y=>Spec P f args m0 (o y).1 (o y).2
def l6 {α β:Type} (x:Int ⊕ β) (k:β→Option (Int ⊕ α)):Option (Int ⊕ α):=
 match x with
 | .inl e=>some (.inl e)
 | .inr y=>k y
theorem Br {α β:Type} {x:Int ⊕ β} {k:β→Option (Int ⊕ α)} {z:Int ⊕ α} (h:l6 x k=some z):(∃ e,x= .inl e∧z= .inl e)∨∃ y,x= .inr y∧k y=some z:=by
 cases x with
 | inl e=>exact .inl ⟨e,rfl,(Option.some.inj h).symm⟩
 | inr y=>exact .inr ⟨y,rfl,h⟩
theorem fR {α β:Type} {x:Option (Int ⊕ β)} {k:β→Option (Int ⊕ α)} {z:Int ⊕ α} (h:(x.bind fun y=>l6 y k)=some z):(∃ e,x=some (.inl e)∧z= .inl e)∨∃ y,x=some (.inr y)∧k y=some z:=by
 obtain ⟨y,h1,h2⟩:=an h
 rcases Br h2 with ⟨e,h3,h4⟩ | ⟨y',h3,h4⟩
 ·exact .inl ⟨e,by rw [h1,h3],h4⟩
 ·exact .inr ⟨y',by rw [h1,h3],h4⟩
def DI {β:Type} (P:Program) (fn:Func) (pv:Int→Value) (o:β→AV×Mem) (z:Int ⊕ β):Exit→Env→Mem→Prop
 | .normal,E,m | .ret,E,m=>∃ y,z= .inr y∧Ends P fn (o y).1 (o y).2 .ret E m
 | .panic ch,_,_=>∃ e,z= .inl e∧ch=[{v:=pv e,recovered:=false}]
 | _,_,_=>False
theorem ml.of_code {β:Type} {P:Program} {f:FuncId} {fn:Func} {C:Code} {args:List AV} {m0:Mem} {pv:Int→Value} {o:β→AV×Mem} {z:Int ⊕ β} (hf:P.funcs[f]? =some fn) (hb:fn.body=some C) (nt:Nat) (hn:fn.ntmps=nt) (ha:args.length≤nt)
  (p0:List Nat) (hp0:∀ n o,m0.get n=some o→inl p0 n=true∨∃ E sz es,o= .row E sz es)
  (h:∀ w0 F0 S0 B0,WC {w0:=w0,F0:=F0,S0:=S0,ntmps:=nt,P0:=p0,B0:=B0} P C (DI P fn pv o z) (mH args 0) m0):ml P f args m0 pv o z:=by
 have key:∀ (F:Nat→Prop) (N:ba) (w:World) (vals:List Value),sm F N w m0→vals.length=args.length→(∀ (i:Nat) (v:Value) (p:AV),vals[i]? =some v→args[i]? =some p→Rep F N w v p)→
   Calls P f vals.toArray w fun e w'=>(∃ x,z= .inl x∧Fell N w m0 (pv x) e w')∨∃ y,z= .inr y∧∃ v F' N',Done F N w m0 (o y).1 (o y).2 e w' v F' N':=by
  intro F N w vals hm hl hr
  refine calls_of_wp hf hb ?_
  refine wp_mono (h w F (jB N m0) N _ w ⟨rfl,?_,F,N,?_,?_⟩) ?_
  ·simp
   omega
  ·exact ⟨fun _ h=>h,fun _ h=> .inl h,hm.Fin,rfl,rfl,rfl,Nat.le_refl _,fun _ _ _=>rfl,hm.obj,fun n o b hn hb=>⟨hm.free n o b hn hb, .inl ⟨n,o,hn,hb⟩⟩,hm.apart,fun _ _=>⟨rfl,fun _=>rfl⟩,fun _ h=>h.elim,fun _ _ _ _ _ h=>h.elim,Nat.le_refl _⟩
  ·refine ⟨fun t=>?_,hm.glob⟩
   rw [lP,if_pos (Nat.zero_le _),Nat.sub_zero]
   cases hp:args[t]? with
   | none=>exact .und
   | some p=>
    have ht:t<args.length:=(List.getElem?_eq_some_iff.1 hp).1
    obtain ⟨v,hv⟩:∃ v,vals[t]? =some v:=⟨vals[t],List.getElem?_eq_getElem (by omega)⟩
    have:(vals.toArray++Array.replicate (fn.ntmps - vals.toArray.size) undef).getD t undef=v:=by
     rw [Array.getD_eq_getD_getElem?,Array.getElem?_append_left (by simp;omega)]
     simp [hv]
    show Rep F N w ((vals.toArray++Array.replicate (fn.ntmps - vals.toArray.size) undef).getD t undef) (Option.getD (some p) .und)
    rw [this]
    exact hr t v p hv hp
  ·have fin:∀ (y:β) (E':Env) (m':Mem) (a':Act) (w':World),z= .inr y→Ends P fn (o y).1 (o y).2 .ret E' m'→Rel {w0:=w,F0:=F,S0:=jB N m0,ntmps:=nt,P0:=p0,B0:=N} E' m' a' w'→
     a'.defers=[]∧∃ v,(results fn a'.tmps).run P w'= .ok v w'∧((∃ x,z= .inl x∧Fell N w m0 (pv x) (.returned v) w')∨∃ y,z= .inr y∧∃ v0 F' N',Done F N w m0 (o y).1 (o y).2 (.returned v) w' v0 F' N'):=by
    rintro y E' m' a' w' hz ⟨rs,ps,h1,h2,h3,h4⟩ ⟨g1,g2,F',N',g3,g4⟩
    obtain ⟨v,hv1,hv2⟩:=jC g3.obj g4 h1 h2
    rw [h3] at hv2
    refine ⟨g1,v,hv1, .inr ⟨y,hz,v,F',N',⟨rfl,hv2,⟨g4.glob,g3.Fin,fun n o hn=>g3.obj n o (h4 n o hn),fun n o b hn hb=>(g3.free n o b (h4 n o hn) hb).1,fun n n' o o' b hn hn'=>g3.apart n n' o o' b (h4 n o hn) (h4 n' o' hn')⟩,
     g3.F0,g3.Fnew,g3.os,g3.tape,g3.output,g3.size,g3.kept,fun n o b hn hb=>(g3.free n o b (h4 n o hn) hb).2,fun n T cs hn=>?_⟩⟩⟩
    rcases hp0 n _ hn with hp | ⟨_,_,_,he⟩
    ·exact (g3.named n hp).1
    ·cases he
   rintro e a' w' ⟨E',m',hq,hrel⟩
   cases e with
   | normal=>obtain ⟨y,hz,he⟩:=hq;exact fin y E' m' a' w' hz he hrel
   | ret=>obtain ⟨y,hz,he⟩:=hq;exact fin y E' m' a' w' hz he hrel
   | exit id=>exact hq
   | goto l=>exact hq
   | panic ch=>
    obtain ⟨x,hz,rfl⟩:=hq
    obtain ⟨g1,g2,F',N',g3,g4⟩:=hrel
    exact ⟨g1, .inl ⟨x,hz,rfl,g3.os,g3.tape,g3.output,g3.size,g3.kept⟩⟩
   | outgrown=>exact hq.elim
 cases z with
 | inl x=>
  intro F N w vals hm hl hr
  refine (key F N w vals hm hl hr).mono ?_
  rintro e w' (⟨x',hx,hd⟩ | ⟨y,hy,_⟩)
  ·cases hx;exact hd
  ·cases hy
 | inr y=>
  intro F N w vals hm hl hr
  refine (key F N w vals hm hl hr).mono ?_
  rintro e w' (⟨x',hx,_⟩ | ⟨y',hy,hd⟩)
  ·cases hx
  ·cases hy;exact hd
theorem ml.code {β:Type} {P:Program} {f:FuncId} {fn:Func} {C:Code} {args:List AV} {m0:Mem} {pv:Int→Value} {o:β→AV×Mem} {z:Int ⊕ β} (hf:P.funcs[f]? =some fn) (hb:fn.body=some C) (nt:Nat) (hn:fn.ntmps=nt) (ha:Nat.ble args.length nt=true)
  (p0:List Nat) (hp0:m5 p0 m0=true) (h:∀ w0 F0 S0 B0,WC {w0:=w0,F0:=F0,S0:=S0,ntmps:=nt,P0:=p0,B0:=B0} P C (DI P fn pv o z) (mH args 0) m0):ml P f args m0 pv o z:=
 ml.of_code hf hb nt hn (Nat.le_of_ble_eq_true ha) p0 (mi hp0) h
def lg (ks:List Nat):List Nat→Bool
 | []=>true
 | n::l=> !inl ks n&&lg ks l
theorem m9 {ks:List Nat} :∀ {l:List Nat},lg ks l=true→∀ n,inl l n=true→inl ks n=false
 | [],_,n,h=>by cases h
 | k::l,hb,n,h=>by
  simp only [lg,Bool.and_eq_true,Bool.not_eq_true'] at hb
  simp only [inl] at h
  cases e:Nat.beq k n with
  | true=>
   have:=Nat.eq_of_beq_eq_true e
   subst this
   exact hb.1
  | false=>
   rw [e] at h
   exact m9 hb.2 n (by simpa using h)
section
variable {c:Ctx} {P:Program} {ops:Array Oper} {Q:Exit→Env→Mem→Prop} {E:Env} {m:Mem} {o:Oper} {l:List Oper}
theorem Rel.fell {F:Nat→Prop} {N:ba} {a:Act} {w w':World} {m0:Mem} {v:Value} {e:Ending} (h1:a.defers=c.dfs) (h2:a.tmps.size=c.ntmps) (hm:dj c F N w m) (he:di F N w a E) (hsub:dI m m0) (hk:lg c.KN m0.names=true) (hd:Fell N w m0 v e w'):Rel c [] [] a w':=by
 have hF:∀ b,F b→w'.heap[b]? =w.heap[b]? :=fun b hb=>hd.kept b (hm.Fin b hb) fun ⟨n,o,hn,hb'⟩=>(hm.free n o b (hsub.get hn) hb').1 hb
 refine ⟨h1,h2,F,N,⟨hm.F0,hm.Fnew,fun b hb=>Nat.lt_of_lt_of_le (hm.Fin b hb) hd.size,hd.os.trans hm.os,hd.tape.trans hm.tape,hd.output.trans hm.output,Nat.le_trans hm.size hd.size,fun b hb hs=>?_,fun n o h=>(by cases h),fun n o b h=>(by cases h),fun n n' o o' b h=>(by cases h),hm.named,fun b hb hl=>?_,fun n o b h=>(by cases h),Nat.le_trans hm.ksize hd.size⟩,⟨fun t=> .und,he.glob.mono (fun _ h=>h) hF⟩⟩
 ·refine (hd.kept b (Nat.lt_of_lt_of_le hb hm.size) fun ⟨n,o,hn,hb'⟩=>?_).trans (hm.kept b hb hs)
  rcases (hm.free n o b (hsub.get hn) hb').2 with h | h
  ·exact hs h
  ·omega
 ·refine (hd.kept b (Nat.lt_of_lt_of_le hl hm.ksize) fun ⟨n,o,hn,hb'⟩=>?_).trans (hm.agree b hb hl)
  have h3:=hm.knames n o b (hsub.get hn) hb' hb hl
  rw [m9 hk n (lb hn)] at h3
  cases h3
theorem xp {f:Nat} {xs:List Operand} {args:List AV} {m0:Mem} {v:Value} {fn:Func} {Kq:Act→World→Prop} {LQ:Exit→Act→World→Prop} {a:Act} {w:World} (hS:l9 P f args m0 v) (hfn:aF P f fn) (ho:i3 o=some (f,xs)) (hx:lZ E xs=some args) (hsub:dI m m0) (hk:lg c.KN m0.names=true) (hr:Rel c E m a w)
  (hq:∀ w',Rel c [] [] a w'→LQ (.panic [{v:=v,recovered:=false}]) a w'):o.wp P a w Kq LQ:=by
 unfold i3 at ho
 split at ho
 ·rename_i cl hcl
  split at ho
  ·rename_i f' hf
   simp only [Option.some.injEq,Prod.mk.injEq] at ho
   obtain ⟨rfl,rfl⟩:=ho
   unfold callee at hf
   split at hf
   ·rename_i f2 hc
    injection hf with hf
    subst hf
    have hcl':o.op= .call {callee:= .value (.func f2),args:=cl.args.toList.toArray,argTypes:=cl.argTypes} :=by
     rw [hcl]
     cases cl
     simp_all
    obtain ⟨c1,c2,c3⟩:=hfn
    obtain ⟨h1,h2,F,N,hm,he⟩:=hr
    unfold Oper.wp
    rw [lQ hcl' rfl c1 c2 c3,Oper.upon_enter]
    obtain ⟨hl,hv⟩:=(jD hx).rep he
    refine (hS F N w _ ⟨he.glob,hm.Fin,fun n o hn=>hm.obj n o (hsub.get hn),fun n o b hn hb=>(hm.free n o b (hsub.get hn) hb).1,fun n n' o o' b hn hn'=>hm.apart n n' o o' b (hsub.get hn) (hsub.get hn')⟩ hl hv).mono ?_
    intro e w' hd
    rw [hd.ending]
    exact hq w' (Rel.fell h1 h2 hm he hsub hk hd)
   ·cases hf
  ·cases ho
 ·cases ho
theorem WL.callP {f:Nat} {xs:List Operand} {args:List AV} {m0:Mem} {v:Value} {fn:Func} (hS:l9 P f args m0 v) (hfn:aF P f fn) (ho:i3 o=some (f,xs)) (hx:lZ E xs=some args) (hsub:dI m m0) (hk:lg c.KN m0.names=true) (hg:o.guard=none) (hq:Q (.panic [{v:=v,recovered:=false}]) [] []):WL c P ops Q (o::l) E m:=fun a w hr=>
 wpList_plain hg fun K hK=>xp hS hfn ho hx hsub hk hr fun w' hr'=>⟨[],[],hq,hr'⟩
theorem WH.callP {tp:Bool} {c0:Ctx} {s:Stay} {EK:Env} {i:Nat} {sch:Sch} {f:Nat} {xs:List Operand} {args:List AV} {m0:Mem} {v:Value} {fn:Func} (hi:nth ops.toList i=some o) (hS:l9 P f args m0 v) (hfn:aF P f fn) (ho:i3 o=some (f,xs)) (hx:lZ (EK++E) xs=some args) (hsub:dI m m0) (hk:lg c.KN m0.names=true) (hg:o.guard=none) (hf:jX c.P0 EK=true) (hq:Q (.panic [{v:=v,recovered:=false}]) [] []):WH tp c0 c s P ops Q (.one i false sch) EK E m:=fun hst hsel hp a w listed hB hr hek=>by
 rw [gS,Array.getElem?_toList] at hi
 refine pF hB fun hB2=>?_
 unfold wpOp
 simp only [hi]
 rw [show Region.wanted o (yielded ops a.tmps)=true by simp [Region.wanted,hg],if_pos rfl]
 exact .inl (xp hS hfn ho hx hsub hk (hst.both hr hek hf) fun w' hr'=>⟨[],[],hq,hst.back _ _ _ _ hr'⟩)
theorem WL.panicI {o2:Oper} {T:TypeId} {x:Operand} {t:Nat} {e:Int} (h1:o.op= .makeInterface T x) (hx:opnd E x=some (.d (.agg [.int .i64 e]))) (hd:o.dst=some t) (hlt:Nat.blt t c.ntmps=true) (h2:o2.op= .panic (.tmp t)) (hg:o.guard=none) (hg2:o2.guard=none) (hc:P.concrete T=true) (hq:Q (.panic [{v:= .iface T (.agg #[.int .i64 e]),recovered:=false}]) [] []):WL c P ops Q (o::o2::l) E m:=fun a w hr=>by
 obtain ⟨g1,g2,F,N,hm,he⟩:=hr
 have hv:a.eval x= .agg #[.int .i64 e]:=by
  obtain ⟨vs,e1,hl,hvs⟩:=((aI hx) F N w a he).d_inv.agg_inv
  rw [e1]
  match vs,hl with
  | [v],_=>
   have:=(hvs 0 v (.int .i64 e) rfl rfl).int_inv
   rw [this]
 have hrun:(execOp a.eval o).run P w= .ok (.value (.iface T (.agg #[.int .i64 e]))) w:=by
  unfold execOp
  simp [h1,hv,Go.run_makeInterface (P:=P) w T (.agg #[.int .i64 e]) hc]
 refine wpList_plain hg fun K hK=>?_
 unfold Oper.wp
 rw [hrun,Oper.upon_value]
 refine hK _ _ (wpList_plain hg2 fun K2 hK2=>?_)
 have hev:(a.put o.dst (.iface T (.agg #[.int .i64 e]))).eval (.tmp t)= .iface T (.agg #[.int .i64 e]):=by
  have hlt':t<a.tmps.size:=by rw [g2];simpa using hlt
  simp [Act.put,hd,Act.eval,Array.getElem?_setIfInBounds,hlt']
 have hrun2:(execOp (a.put o.dst (.iface T (.agg #[.int .i64 e]))).eval o2).run P w= .halt (.panic (.iface T (.agg #[.int .i64 e]))) w:=by
  unfold execOp
  simp only [h2,hev]
  rfl
 unfold Oper.wp
 rw [hrun2,Oper.upon_panic]
 refine ⟨[],[],hq,?_,?_,F,N,hm.bare,⟨fun t=> .und,he.glob⟩⟩
 ·rw [hd];exact g1
 ·rw [hd];simpa [Act.put] using g2
end
end LJ
