/- A logic for the walks: contracts and calls. -/
import Derived.Test.YtpnnkehkjfciiaaGreatDoorXCtl
namespace LJ
open Go Go.RowKit
set_option linter.unusedVariables false
set_option linter.unusedSimpArgs false
def ik (N:aI) (m:Mem) (b:Nat):Prop:=∃ n o,m.get n=some o∧blk N n o=some b
structure mc (F:Nat→Prop) (N:aI) (w:World) (m:Mem):Prop where
 glob:gm F w
 Fin:∀ b,F b→b<w.heap.size
 obj:∀ (n:Nat) (o:AObj),m.get n=some o→db F N w n o
 free:∀ (n:Nat) (o:AObj) (b:Nat),m.get n=some o→blk N n o=some b→¬F b
 apart:∀ (n n':Nat) (o o':AObj) (b:Nat),m.get n=some o→m.get n'=some o'→blk N n o=some b→blk N n' o'=some b→n=n'
structure Done (F:Nat→Prop) (N:aI) (w:World) (m0:Mem) (out:AV) (m1:Mem) (e:Ending) (w':World) (v:Value) (F':Nat→Prop) (N':aI):Prop where
 ending:e= .returned v
 rep:Rep F' N' w' v out
 mem:mc F' N' w' m1
 le:∀ b,F b→F' b
 new:∀ b,F' b→F b∨w.heap.size≤b∨ik N m0 b
 os:w'.os=w.os
 tape:w'.tape=w.tape
 output:w'.output=w.output
 size:w.heap.size≤w'.heap.size
 kept:∀ b,b<w.heap.size→¬ik N m0 b→w'.heap[b]? =w.heap[b]?
 blocks:∀ n o b,m1.get n=some o→blk N' n o=some b→ik N m0 b∨w.heap.size≤b
 boxes:∀ n T cs,m0.get n=some (.box T cs)→N'.β n=N.β n
def Spec (P:Program) (f:FuncId) (args:List AV) (m0:Mem) (out:AV) (m1:Mem):Prop:=
 ∀ (F:Nat→Prop) (N:aI) (w:World) (vals:List Value),mc F N w m0→vals.length=args.length→(∀ (i:Nat) (v:Value) (p:AV),vals[i]? =some v→args[i]? =some p→Rep F N w v p)→
  Calls P f vals.toArray w fun e w'=>∃ v F' N',Done F N w m0 out m1 e w' v F' N'
def mw:List AV→Nat→Env
 | [],_=>[]
 | p::ps,i=>(i,p)::mw ps (i+1)
theorem my:∀ (ps:List AV) (i t:Nat),(mw ps i).get t=if i≤t then (ps[t - i]?).getD .und else .und
 | [],i,t=>by simp [mw,Env.get]
 | p::ps,i,t=>by
  simp only [mw,Env.get]
  cases e:Nat.beq i t with
  | true=>
   have:=Nat.eq_of_beq_eq_true e
   subst this
   simp
  | false=>
   have hne:=Nat.ne_of_beq_eq_false e
   simp only [cond_false]
   rw [my ps (i+1) t]
   by_cases h:i+1≤t
   ·rw [if_pos h,if_pos (by omega),show t - i=(t - (i+1))+1 by omega]
    simp
   ·rw [if_neg h,if_neg (by omega)]
inductive Outs (P:Program) (E:Env) (m:Mem):List ResultVar→List AV→Prop
 | nil:Outs P E m [] []
 | tmp {t:Nat} {p:AV} {rs:List ResultVar} {ps:List AV} (ht:E.get t=p) (h:Outs P E m rs ps):Outs P E m (.tmp t::rs) (p::ps)
 | cell {t n:Nat} {T T':TypeId} {ds:List DV} {cs:List AV} {rs:List ResultVar} {ps:List AV} (d:TypeDesc) (ht:E.get t= .ptr n 0) (hm:m.get n=some (.box T' cs)) (hc:cs=ds.map AV.d)
   (hu:P.underlying T=some d) (hd:(match d with | .struct _ | .array _ _=>true | _=>false)=true) (hi:(P.info? T).map (·.size)=some ds.length) (h:Outs P E m rs ps):Outs P E m (.cell t T::rs) (.d (.agg ds)::ps)
 | one {t n:Nat} {T T':TypeId} {d:DV} {rs:List ResultVar} {ps:List AV} (ht:E.get t= .ptr n 0) (hm:m.get n=some (.box T' [.d d])) (h1:∀ (a:Addr) (w:World) (v:Value),w.cell? a=some v→(loadVar T a).run P w= .ok v w) (h:Outs P E m rs ps):Outs P E m (.cell t T::rs) (.d d::ps)
def jZ:List AV→AV
 | [p]=>p
 | ps=> .tup ps
theorem ss {P:Program} {E:Env} {m:Mem} {F:Nat→Prop} {N:aI} {w:World} {a:Act} (hobj:∀ (n:Nat) (o:AObj),m.get n=some o→db F N w n o) (he:cg F N w a E) {rs:List ResultVar} {ps:List AV} (h:Outs P E m rs ps):
  ∃ vs:List Value,(∀ f:ResultVar→Sem Value,(∀ u,f (.tmp u)=pure (a.tmps.getD u undef))→(∀ x t,f (.cell x t)=(do loadVar t (←asAddr (a.tmps.getD x undef))))→(rs.mapM f).run P w= .ok vs w)∧vs.length=ps.length∧∀ (i:Nat) (v:Value) (p:AV),vs[i]? =some v→ps[i]? =some p→Rep F N w v p:=by
 induction h with
 | nil=>exact ⟨[],fun f hf hc=>by simp,rfl,fun i v p hv=>by simp at hv⟩
 | @tmp t p rs ps ht h ih=>
  obtain ⟨vs,h1,h2,h3⟩:=ih
  refine ⟨a.tmps.getD t undef::vs,fun f hf hc=>by simp [List.mapM_cons,hf,h1 f hf hc],by simp [h2],fun i v p hv hp=>?_⟩
  cases i with
  | zero=>
   simp only [List.getElem?_cons_zero,Option.some.injEq] at hv hp
   subst hv;subst hp
   rw [←ht]
   exact he t
  | succ i=>
   simp only [List.getElem?_cons_succ] at hv hp
   exact h3 i v p hv hp
 | @cell t n T T' ds cs rs ps d ht hm hcs hu hd hi h ih=>
  obtain ⟨vs,h1,h2,h3⟩:=ih
  have hp:a.tmps.getD t undef= .pointer (some ⟨N.β n,0,none⟩):=by
   have:=he t
   rw [ht] at this
   exact this.ptr_inv
  obtain ⟨us,hb,hl,hr⟩:=hobj n _ hm
  subst hcs
  refine ⟨.agg us.toArray::vs,?_,by simp [h2],fun i v p hv hp=>?_⟩
  ·intro f hf hc
   rw [List.mapM_cons,hc,hp]
   simp [asAddr,run_loadVar_row w (N.β n) T' T us.toArray (0,0) d hb hu hd (by rw [hi];simp at hl ⊢;omega),h1 f hf hc]
  ·cases i with
   | zero=>
    simp only [List.getElem?_cons_zero,Option.some.injEq] at hv hp
    subst hv;subst hp
    refine .d (.agg (by simpa using hl) (fun i v x hv hx=>?_))
    exact (hr i v (.d x) hv (by rw [List.getElem?_map,hx];rfl)).d_inv
   | succ i=>
    simp only [List.getElem?_cons_succ] at hv hp
    exact h3 i v p hv hp
 | @one t n T T' d rs ps ht hm h1' h ih=>
  obtain ⟨vs,h1,h2,h3⟩:=ih
  have hp:a.tmps.getD t undef= .pointer (some ⟨N.β n,0,none⟩):=by
   have:=he t
   rw [ht] at this
   exact this.ptr_inv
  obtain ⟨us,hb,hl,hr⟩:=hobj n _ hm
  match us,hl with
  | [u],_=>
  have hc:w.cell? ⟨N.β n,0,none⟩=some u:=by simp [World.cell?,hb]
  refine ⟨u::vs,?_,by simp [h2],fun i v p hv hp=>?_⟩
  ·intro f hf hcell
   rw [List.mapM_cons,hcell,hp]
   simp [asAddr,h1' _ w u hc,h1 f hf hcell]
  ·cases i with
   | zero=>
    simp only [List.getElem?_cons_zero,Option.some.injEq] at hv hp
    subst hv;subst hp
    exact hr 0 u (.d d) rfl rfl
   | succ i=>
    simp only [List.getElem?_cons_succ] at hv hp
    exact h3 i v p hv hp
theorem oq {P:Program} {E:Env} {m:Mem} {F:Nat→Prop} {N:aI} {w:World} {a:Act} {fn:Func} (hobj:∀ (n:Nat) (o:AObj),m.get n=some o→db F N w n o) (he:cg F N w a E) {rs:List ResultVar} {ps:List AV}
  (hr:fn.results=rs.toArray) (h:Outs P E m rs ps):∃ v,(results fn a.tmps).run P w= .ok v w∧Rep F N w v (jZ ps):=by
 unfold results
 rw [hr,List.mapM_toArray]
 simp only [Sem.run_bind,Sem.run_map]
 obtain ⟨vs,h1,h2,h3⟩:=ss hobj he h
 rw [h1 _ (fun u=>rfl) (fun a t=>rfl)]
 match ps,h2,h3 with
 | [],h2,h3=>
  match vs,h2 with
  | [],_=>exact ⟨_,rfl, .tup (vs:=[]) rfl (fun i v c hv=>by simp at hv)⟩
 | [p],h2,h3=>
  match vs,h2 with
  | [v],_=>exact ⟨v,by simp,h3 0 v p rfl rfl⟩
 | p::q::ps,h2,h3=>
  match vs,h2 with
  | v::u::vs,h2=>exact ⟨.tuple (v::u::vs).toArray,by simp, .tup h2 h3⟩
def Ends (P:Program) (fn:Func) (out:AV) (m1:Mem):Exit→Env→Mem→Prop
 | .normal,E,m | .ret,E,m=>∃ rs ps,fn.results=rs.toArray∧Outs P E m rs ps∧jZ ps=out∧∀ n o,m1.get n=some o→m.get n=some o
 | _,_,_=>False
theorem Spec.of_code {P:Program} {f:FuncId} {fn:Func} {C:Code} {args:List AV} {m0:Mem} {out:AV} {m1:Mem} (hf:P.funcs[f]? =some fn) (hb:fn.body=some C) (nt:Nat) (hn:fn.ntmps=nt) (ha:args.length≤nt)
  (p0:List Nat) (hp0:∀ n o,m0.get n=some o→inl p0 n=true∨∀ T cs,o≠ .box T cs)
  (h:∀ w0 F0 S0 B0,WC {w0:=w0,F0:=F0,S0:=S0,ntmps:=nt,P0:=p0,B0:=B0} P C (Ends P fn out m1) (mw args 0) m0):Spec P f args m0 out m1:=by
 intro F N w vals hm hl hr
 refine calls_of_wp hf hb ?_
 refine wp_mono (h w F (ik N m0) N _ w ⟨rfl,?_,F,N,?_,?_⟩) ?_
 ·simp
  omega
 ·exact ⟨fun _ h=>h,fun _ h=> .inl h,hm.Fin,rfl,rfl,rfl,Nat.le_refl _,fun _ _ _=>rfl,hm.obj,fun n o b hn hb=>⟨hm.free n o b hn hb, .inl ⟨n,o,hn,hb⟩⟩,hm.apart,fun _ _=>⟨rfl,fun _=>rfl⟩,fun _ h=>h.elim,fun _ _ _ _ _ h=>h.elim,Nat.le_refl _⟩
 ·refine ⟨fun t=>?_,hm.glob⟩
  rw [my,if_pos (Nat.zero_le _),Nat.sub_zero]
  cases hp:args[t]? with
  | none=>exact .und
  | some p=>
   have ht:t<args.length:=(List.getElem?_eq_some_iff.1 hp).1
   obtain ⟨v,hv⟩:∃ v,vals[t]? =some v:=⟨vals[t],List.getElem?_eq_getElem (by omega)⟩
   have:(vals.toArray++Array.replicate (fn.ntmps - vals.toArray.size) undef).getD t undef=v:=by
    rw [Array.getD_eq_getD_getElem?,Array.getElem?_append_left (by simp;omega)]
    simp [hv]
   show Rep F N w ((vals.toArray++Array.replicate (fn.ntmps - vals.toArray.size) undef).getD t undef) (Option.getD (some p) .und)
   rw [this]
   exact hr t v p hv hp
 ·have fin:∀ (E':Env) (m':Mem) (a':Act) (w':World),(∃ rs ps,fn.results=rs.toArray∧Outs P E' m' rs ps∧jZ ps=out∧∀ n o,m1.get n=some o→m'.get n=some o)→Rel {w0:=w,F0:=F,S0:=ik N m0,ntmps:=nt,P0:=p0,B0:=N} E' m' a' w'→
    a'.defers=[]∧∃ v,(results fn a'.tmps).run P w'= .ok v w'∧∃ v0 F' N',Done F N w m0 out m1 (.returned v) w' v0 F' N':=by
   rintro E' m' a' w' ⟨rs,ps,h1,h2,h3,h4⟩ ⟨g1,g2,F',N',g3,g4⟩
   obtain ⟨v,hv1,hv2⟩:=oq g3.obj g4 h1 h2
   rw [h3] at hv2
   refine ⟨g1,v,hv1,v,F',N',⟨rfl,hv2,⟨g4.glob,g3.Fin,fun n o hn=>g3.obj n o (h4 n o hn),fun n o b hn hb=>(g3.free n o b (h4 n o hn) hb).1,fun n n' o o' b hn hn'=>g3.apart n n' o o' b (h4 n o hn) (h4 n' o' hn')⟩,
    g3.F0,g3.Fnew,g3.os,g3.tape,g3.output,g3.size,g3.kept,fun n o b hn hb=>(g3.free n o b (h4 n o hn) hb).2,fun n T cs hn=>?_⟩⟩
   rcases hp0 n _ hn with hp | he
   ·exact (g3.named n hp).1
   ·exact (he _ _ rfl).elim
  rintro e a' w' ⟨E',m',hq,hrel⟩
  cases e with
  | normal=>exact fin E' m' a' w' hq hrel
  | ret=>exact fin E' m' a' w' hq hrel
  | exit id=>exact hq
  | goto l=>exact hq
  | panic ch=>exact hq.elim
  | outgrown=>exact hq.elim
def IsOp (E:Env) (x:Operand) (p:AV):Prop:=∀ F N w a,cg F N w a E→Rep F N w (a.eval x) p
theorem IsOp.tmp {E:Env} {t:Nat} {p:AV} (h:E.get t=p):IsOp E (.tmp t) p:=fun F N w a he=>by rw [←h];exact he t
theorem IsOp.int {E:Env} {k:IntKind} {n:Int} :IsOp E (.const (.int k n)) (.d (.int k n)):=fun _ _ _ _ _=> .d .int
theorem IsOp.bool {E:Env} {b:Bool} :IsOp E (.const (.bool b)) (.d (.bool b)):=fun _ _ _ _ _=> .d .bool
theorem IsOp.str {E:Env} {s:ByteArray} :IsOp E (.const (.string s)) (.d (.str s)):=fun _ _ _ _ _=> .d .str
theorem IsOp.glob {E:Env} {g:Nat} {cs:List DV} (h:gget kq g=some cs):IsOp E (.global g) (.d (.elp cs)):=fun _ _ _ _ he=> .d (he.glob g cs h).1
inductive Ops (E:Env):List Operand→List AV→Prop
 | nil:Ops E [] []
 | cons {x:Operand} {p:AV} {xs:List Operand} {ps:List AV} (h:IsOp E x p) (hs:Ops E xs ps):Ops E (x::xs) (p::ps)
theorem Ops.rep {E:Env} {xs:List Operand} {ps:List AV} (h:Ops E xs ps) {F:Nat→Prop} {N:aI} {w:World} {a:Act} (he:cg F N w a E):
  (xs.map a.eval).length=ps.length∧∀ (i:Nat) (v:Value) (p:AV),(xs.map a.eval)[i]? =some v→ps[i]? =some p→Rep F N w v p:=by
 induction h with
 | nil=>exact ⟨rfl,fun i v p hv=>by simp at hv⟩
 | cons h hs ih=>
  refine ⟨by simp [←ih.1],fun i v p hv hp=>?_⟩
  cases i with
  | zero=>
   simp only [List.map_cons,List.getElem?_cons_zero,Option.some.injEq] at hv hp
   subst hv;subst hp
   exact h _ _ _ _ he
  | succ i=>
   simp only [List.map_cons,List.getElem?_cons_succ] at hv hp
   exact ih.2 i v p hv hp
def AV.within1 (bs fs:List Nat):AV→Bool
 | .d _=>true
 | .own k=>inl fs k
 | .ptr k _=>inl bs k
 | .optp _ k _=>inl bs k
 | .rel k _=>inl fs k
 | .psl k _ _ _=>inl bs k
 | .rsl k _ _ _=>inl fs k
 | .qel k _=>inl fs k
 | .tup _=>false
 | .when _ _=>true
 | .und=>true
def AV.within (bs fs:List Nat):AV→Bool
 | .tup vs=>vs.all (AV.within1 bs fs)
 | p=>p.within1 bs fs
def AObj.within (bs fs:List Nat):AObj→Bool
 | .box _ cs=>cs.all (AV.within1 bs fs)
 | .row _ _ _=>true
 | .que _ _ _=>true
 | .rowl _ _ _ c _=>match c with
  | some j=>inl fs j
  | none=>true
def Mem.names:Mem→List Nat
 | []=>[]
 | (k,_)::m=>k::Mem.names m
def Mem.within (bs fs:List Nat):Mem→Bool
 | []=>true
 | (_,o)::m=>o.within bs fs&&Mem.within bs fs m
theorem Mem.within_get {bs fs:List Nat} :∀ {m:Mem},m.within bs fs=true→∀ {n:Nat} {o:AObj},m.get n=some o→o.within bs fs=true
 | [],_,n,o,h=>by cases h
 | (k,x)::m,hw,n,o,h=>by
  simp only [Mem.within,Bool.and_eq_true] at hw
  simp only [Mem.get] at h
  cases e:Nat.beq k n with
  | true=>
   rw [e] at h
   simp only [cond_true,Option.some.injEq] at h
   subst h
   exact hw.1
  | false=>
   rw [e] at h
   exact Mem.within_get hw.2 h
theorem Mem.names_get:∀ {m:Mem} {n:Nat},inl m.names n=true→∃ o,m.get n=some o
 | [],n,h=>by cases h
 | (k,x)::m,n,h=>by
  simp only [Mem.names,inl] at h
  simp only [Mem.get]
  cases e:Nat.beq k n with
  | true=>exact ⟨x,by simp⟩
  | false=>
   rw [e] at h
   simpa using Mem.names_get h
def aI.same (N N':aI) (bs fs:List Nat):Prop:=(∀ k,inl bs k=true→N'.β k=N.β k)∧∀ k,inl fs k=true→N'.σ k=N.σ k
theorem Rep.within1 {F:Nat→Prop} {N N':aI} {w:World} {bs fs:List Nat} (hN:N.same N' bs fs) {v:Value} {p:AV} (hp:p.within1 bs fs=true) (h:Rep F N w v p):Rep F N' w v p:=by
 cases h with
 | d h=>exact .d h
 | own=>rw [←hN.2 _ hp];exact .own
 | ptr=>rw [←hN.1 _ hp];exact .ptr
 | optp=>rw [←hN.1 _ hp];exact .optp
 | rel h=>exact .rel (by rw [hN.2 _ hp];exact h)
 | psl ho=>rw [←hN.1 _ hp];exact .psl ho
 | rsl h ho=>exact .rsl (by rw [hN.2 _ hp];exact h) ho
 | qel h=>exact .qel (by rw [hN.2 _ hp];exact h)
 | tup hl h=>cases hp
 | when h hu=>exact .when h hu
 | und=>exact .und
theorem Rep.within {F:Nat→Prop} {N N':aI} {w:World} {bs fs:List Nat} (hN:N.same N' bs fs) {v:Value} {p:AV} (hp:p.within bs fs=true) (h:Rep F N w v p):Rep F N' w v p:=by
 cases h with
 | tup hl h=>
  refine .tup hl (fun i v c hv hc=>(h i v c hv hc).within1 hN ?_)
  have:(_:List AV).all (AV.within1 bs fs)=true:=hp
  exact List.all_eq_true.1 this c (List.mem_of_getElem? hc)
 | d h=>exact .d h
 | own=>exact Rep.within1 hN hp .own
 | ptr=>exact Rep.within1 hN hp .ptr
 | optp=>exact Rep.within1 hN hp .optp
 | rel h=>exact Rep.within1 hN hp (.rel h)
 | psl ho=>exact Rep.within1 hN hp (.psl ho)
 | rsl h ho=>exact Rep.within1 hN hp (.rsl h ho)
 | qel h=>exact Rep.within1 hN hp (.qel h)
 | when h hu=>exact .when h hu
 | und=>exact .und
theorem Mem.get_append (m1 m2:Mem) (n:Nat):Mem.get (m1++m2) n=(m1.get n).or (m2.get n):=by
 induction m1 with
 | nil=>rfl
 | cons p l ih=>
  obtain ⟨k,v⟩:=p
  simp only [List.cons_append,Mem.get]
  cases Nat.beq k n with
  | true=>rfl
  | false=>exact ih
structure Fits (m m0 m1 mr:Mem) (out:AV) (fs:List Nat) (P0 KN:List Nat):Prop where
 sub:∀ n o,m0.get n=some o→m.get n=some o
 hfs:∀ n o,m1.get n=some o→inl fs n=true∨∃ T cs T' cs',m0.get n=some (.box T cs)∧o= .box T' cs'
 hout:out.within m1.names fs=true
 hm1:m1.within m1.names fs=true
 rest:∀ n o,mr.get n=some o→m.get n=some o∧m0.get n=none∧m1.get n=none
 p0:∀ n,inl fs n=true→inl P0 n=false
 kn:∀ n o,m0.get n=some o→inl KN n=false
theorem bX.called {c:Ctx} {F F':Nat→Prop} {N N':aI} {w w':World} {m m0 m1 mr:Mem} {out:AV} {fs:List Nat} {e:Ending} {v:Value} (h:bX c F N w m) (hf:Fits m m0 m1 mr out fs c.P0 c.KN) (hd:Done F N w m0 out m1 e w' v F' N'):
  ∃ N2,bX c F' N2 w' (m1++mr.forget fs)∧Rep F' N2 w' v out∧∀ (a:Act) (E:Env),cg F N w a E→cg F' N2 w' a (E.forget fs):=by
 let N2:aI:=⟨fun n=>if inl fs n=true then N'.β n else N.β n,fun n=>if inl fs n=true then N'.σ n else N.σ n⟩
 have hN:N.eqBut N2 fs:=fun k hk=>⟨by show (if inl fs k=true then _ else _)=_;rw [hk];rfl,by show (if inl fs k=true then _ else _)=_;rw [hk];rfl⟩
 have hs:N'.same N2 m1.names fs:=by
  refine ⟨fun k hk=>?_,fun k hk=>?_⟩
  ·show (if inl fs k=true then N'.β k else N.β k)=N'.β k
   obtain ⟨o,ho⟩:=Mem.names_get hk
   rcases hf.hfs k o ho with h1 | ⟨T,cs,_,_,h1,_⟩
   ·rw [if_pos h1]
   ·split
    ·rfl
    ·exact (hd.boxes k T cs h1).symm
  ·show (if inl fs k=true then N'.σ k else N.σ k)=N'.σ k
   rw [if_pos hk]
 have hin:∀ b,ik N m0 b→∃ n o,m0.get n=some o∧m.get n=some o∧blk N n o=some b:=fun b ⟨n,o,hn,hb⟩=>⟨n,o,hn,hf.sub n o hn,hb⟩
 have hFk:∀ b,F b→w'.heap[b]? =w.heap[b]? :=fun b hb=>hd.kept b (h.Fin b hb) (fun hi=>by
  obtain ⟨n,o,_,hn,hb'⟩:=hin b hi
  exact (h.free n o b hn hb').1 hb)
 have blk1:∀ n o,m1.get n=some o→blk N2 n o=blk N' n o:=by
  intro n o ho
  rcases hf.hfs n o ho with h1 | ⟨T,cs,T',cs',h1,rfl⟩
  ·cases o with
   | box T cs=>show some (if inl fs n=true then _ else _)=_;rw [if_pos h1];rfl
   | row E sz es=>show (if inl fs n=true then N'.σ n else N.σ n).ownBlock=_;rw [if_pos h1];rfl
   | que E sz es=>show (if inl fs n=true then N'.σ n else N.σ n).ownBlock=_;rw [if_pos h1];rfl
   | rowl E sz k c es=>show (if inl fs n=true then N'.σ n else N.σ n).ownBlock=_;rw [if_pos h1];rfl
  ·show some (if inl fs n=true then N'.β n else N.β n)=some (N'.β n)
   split
   ·rfl
   ·rw [hd.boxes n T cs h1]
 have hold1:∀ n o,m1.get n=some o→db F' N2 w' n o:=by
  intro n o ho
  have hw:=Mem.within_get hf.hm1 ho
  have hh:=hd.mem.obj n o ho
  have hb:=blk1 n o ho
  cases o with
  | box T cs=>
   obtain ⟨vs,g1,g2,g3⟩:=hh
   have hb':N2.β n=N'.β n:=by injection hb
   refine ⟨vs,by rw [hb'];exact g1,g2,fun i v c hv hc=>(g3 i v c hv hc).within1 hs ?_⟩
   exact List.all_eq_true.1 (show cs.all _=true from hw) c (List.mem_of_getElem? hc)
  | row E sz es=>
   obtain ⟨vs,g1,g2,g3⟩:=hh
   rcases hf.hfs n _ ho with h1 | ⟨T,cs,T',cs',_,he⟩
   ·have:N2.σ n=N'.σ n:=by show (if inl fs n=true then _ else _)=_;rw [if_pos h1]
    exact ⟨vs,by rw [this];exact g1,g2,g3⟩
   ·cases he
  | rowl E sz k c es=>
   obtain ⟨vs,g1,g2,g3,g4,g5⟩:=hh
   rcases hf.hfs n _ ho with h1 | ⟨T,cs,T',cs',_,he⟩
   ·have:N2.σ n=N'.σ n:=by show (if inl fs n=true then _ else _)=_;rw [if_pos h1]
    refine ⟨vs,by rw [this];exact g1,g2,g3,g4,fun j hj he=>?_⟩
    subst hj
    have hj:inl fs j=true:=hw
    have:N2.σ j=N'.σ j:=by show (if inl fs j=true then _ else _)=_;rw [if_pos hj]
    rw [this]
    exact g5 j rfl he
   ·cases he
  | que E sz es=>
   obtain ⟨vs,g1,g2,g3⟩:=hh
   rcases hf.hfs n _ ho with h1 | ⟨T,cs,T',cs',_,he⟩
   ·have:N2.σ n=N'.σ n:=by show (if inl fs n=true then _ else _)=_;rw [if_pos h1]
    exact ⟨vs,by rw [this];exact g1,g2,g3⟩
   ·cases he
 have get:∀ n o,Mem.get (m1++mr.forget fs) n=some o→m1.get n=some o∨(inl fs n=false∧∃ y,m.get n=some y∧m0.get n=none∧o=y.forget fs):=by
  intro n o ho
  rw [Mem.get_append] at ho
  cases h1:m1.get n with
  | some x=>rw [h1] at ho;exact .inl ho
  | none=>
   rw [h1] at ho
   have ho':(mr.forget fs).get n=some o:=ho
   rw [Mem.get_forget] at ho'
   cases hfs:inl fs n with
   | true=>rw [hfs] at ho';simp at ho'
   | false=>
    rw [hfs] at ho'
    simp only [Bool.false_eq_true,if_false] at ho'
    obtain ⟨y,hy,rfl⟩:=Option.map_eq_some_iff.1 ho'
    obtain ⟨g1,g2,_⟩:=hf.rest n y hy
    exact .inr ⟨rfl,y,g1,g2,rfl⟩
 have far:∀ n y b,m.get n=some y→m0.get n=none→blk N n y=some b→b<w.heap.size∧¬ik N m0 b:=by
  intro n y b hy h0 hb
  refine ⟨(h.obj n y hy).lt hb,fun hi=>?_⟩
  obtain ⟨n',o',hn0,hn',hb'⟩:=hin b hi
  have:=h.apart n n' y o' b hy hn' hb hb'
  subst this
  rw [hn0] at h0
  cases h0
 refine ⟨N2,⟨fun b hb=>hd.le b (h.F0 b hb),?_,hd.mem.Fin,hd.os.trans h.os,hd.tape.trans h.tape,hd.output.trans h.output,Nat.le_trans h.size hd.size,?_,?_,?_,?_,?_,?_,?_,Nat.le_trans h.ksize hd.size⟩,hd.rep.within hs hf.hout,fun a E he=>⟨fun t=>?_,he.glob.mono hd.le hFk⟩⟩
 ·intro b hb
  rcases hd.new b hb with h1 | h1 | h1
  ·exact h.Fnew b h1
  ·exact .inr (.inl (Nat.le_trans h.size h1))
  ·obtain ⟨n',o',_,hn',hb'⟩:=hin b h1
   rcases (h.free n' o' b hn' hb').2 with h2 | h2
   ·exact .inr (.inr h2)
   ·exact .inr (.inl h2)
 ·intro b hb hs0
  refine (hd.kept b (Nat.lt_of_lt_of_le hb h.size) (fun hi=>?_)).trans (h.kept b hb hs0)
  obtain ⟨n,o,_,hn,hb'⟩:=hin b hi
  rcases (h.free n o b hn hb').2 with h1 | h1
  ·exact hs0 h1
  ·omega
 ·intro n o ho
  rcases get n o ho with h1 | ⟨hfs,y,hy,h0,rfl⟩
  ·exact hold1 n o h1
  ·refine db.forget hN hfs ((h.obj n y hy).mono hd.le hFk (fun b hb=>?_))
   have:=far n y b hy h0 hb
   exact hd.kept b this.1 this.2
 ·intro n o b ho hb
  rcases get n o ho with h1 | ⟨hfs,y,hy,h0,rfl⟩
  ·rw [blk1 n o h1] at hb
   refine ⟨hd.mem.free n o b h1 hb,?_⟩
   rcases hd.blocks n o b h1 hb with hi | hi
   ·obtain ⟨n',o',_,hn',hb'⟩:=hin b hi
    exact (h.free n' o' b hn' hb').2
   ·exact .inr (Nat.le_trans h.size hi)
  ·rw [ck hN hfs] at hb
   refine ⟨fun hF=>?_,(h.free n y b hy hb).2⟩
   rcases hd.new b hF with h1 | h1 | h1
   ·exact (h.free n y b hy hb).1 h1
   ·have:=(far n y b hy h0 hb).1
    omega
   ·exact (far n y b hy h0 hb).2 h1
 ·intro n n' o o' b ho ho' hb hb'
  rcases get n o ho with h1 | ⟨hfs,y,hy,h0,rfl⟩ <;> rcases get n' o' ho' with h1' | ⟨hfs',y',hy',h0',rfl⟩
  ·rw [blk1 n o h1] at hb
   rw [blk1 n' o' h1'] at hb'
   exact hd.mem.apart n n' o o' b h1 h1' hb hb'
  ·exfalso
   rw [blk1 n o h1] at hb
   rw [ck hN hfs'] at hb'
   have:=far n' y' b hy' h0' hb'
   rcases hd.blocks n o b h1 hb with hi | hi
   ·exact this.2 hi
   ·omega
  ·exfalso
   rw [blk1 n' o' h1'] at hb'
   rw [ck hN hfs] at hb
   have:=far n y b hy h0 hb
   rcases hd.blocks n' o' b h1' hb' with hi | hi
   ·exact this.2 hi
   ·omega
  ·rw [ck hN hfs] at hb
   rw [ck hN hfs'] at hb'
   exact h.apart n n' y y' b hy hy' hb hb'
 ·intro n hn
  have:inl fs n=false:=by
   cases hfs:inl fs n with
   | false=>rfl
   | true=>rw [hf.p0 n hfs] at hn;cases hn
  rw [(hN n this).1,(hN n this).2]
  exact h.named n hn
 ·intro b hb hl
  refine (hd.kept b (Nat.lt_of_lt_of_le hl h.ksize) (fun hi=>?_)).trans (h.agree b hb hl)
  obtain ⟨n,o,hn0,hn,hb'⟩:=hin b hi
  have h1:=h.knames n o b hn hb' hb hl
  rw [hf.kn n o hn0] at h1
  cases h1
 ·intro n o b ho hb hk hl
  rcases get n o ho with h1 | ⟨hfs,y,hy,h0,rfl⟩
  ·rw [blk1 n o h1] at hb
   rcases hd.blocks n o b h1 hb with hi | hi
   ·obtain ⟨n',o',hn0,hn',hb'⟩:=hin b hi
    have h2:=h.knames n' o' b hn' hb' hk hl
    rw [hf.kn n' o' hn0] at h2
    cases h2
   ·have:=h.ksize
    omega
  ·rw [ck hN hfs] at hb
   exact h.knames n y b hy hb hk hl
 ·rw [Env.get_forget]
  exact ((he t).mono hd.le hFk).forget hN
theorem ng {P:Program} {ρ:Operand→Value} {o:Oper} {f:FuncId} {fn:Func} {xs:List Operand} {ts:Array TypeId} (ho:o.op= .call {callee:= .value (.func f),args:=xs.toArray,argTypes:=ts}) (hρ:ρ (.func f)= .func (.func f) #[] #[])
  (hf:P.funcs[f]? =some fn) (hbody:fn.body.isNone=false) (hname:(fn.name== "runtime.NumGoroutine")=false) (w:World):(execOp ρ o).run P w= .ok (.enter f (xs.map ρ).toArray) w:=by
 have hname':¬fn.name= "runtime.NumGoroutine" :=by simpa using hname
 unfold execOp
 simp only [ho,resolve,hρ,Deferred.ofValue,invoke,callFunc]
 have hb':fn.body≠none:=fun h=>by rw [h] at hbody;cases hbody
 simp [hf,hname',hb']
section
variable {c:Ctx} {P:Program} {E:Env} {m:Mem} {o:Oper}
theorem WO.call {f:FuncId} {fn:Func} {xs:List Operand} {ts:Array TypeId} {args:List AV} {m0 m1 mr:Mem} {out:AV} {fs:List Nat} {d:Nat} (hS:Spec P f args m0 out m1) (hx:Ops E xs args) (ho:o.op= .call {callee:= .value (.func f),args:=xs.toArray,argTypes:=ts})
  (hf:P.funcs[f]? =some fn) (hbody:fn.body.isNone=false) (hname:(fn.name== "runtime.NumGoroutine")=false) (hfit:Fits m m0 m1 mr out fs c.P0 c.KN) (hd:o.dst=some d) (hlt:Nat.blt d c.ntmps=true):WO c P o E m ((d,out)::E.forget fs) (m1++mr.forget fs):=fun Q K a w hr h=>by
 obtain ⟨h1,h2,F,N,hm,he⟩:=hr
 unfold Oper.wp
 rw [ng ho rfl hf hbody hname,Oper.upon_enter]
 obtain ⟨hl,hv⟩:=hx.rep he
 refine (hS F N w (xs.map a.eval) ⟨he.glob,hm.Fin,fun n o hn=>hm.obj n o (hfit.sub n o hn),fun n o b hn hb=>(hm.free n o b (hfit.sub n o hn) hb).1,fun n n' o o' b hn hn'=>hm.apart n n' o o' b (hfit.sub n o hn) (hfit.sub n' o' hn')⟩ hl hv).mono ?_
 rintro e w' ⟨v,F',N',hdone⟩
 obtain ⟨N2,g1,g2,g3⟩:=hm.called hfit hdone
 rw [hdone.ending]
 simp only []
 exact h v _ _ rfl (by rw [hd];exact Rel.put h1 h2 g1 (g3 a E he) hlt g2)
theorem WO.call0 {f:FuncId} {fn:Func} {xs:List Operand} {ts:Array TypeId} {args:List AV} {m0 m1 mr:Mem} {out:AV} {fs:List Nat} (hS:Spec P f args m0 out m1) (hx:Ops E xs args) (ho:o.op= .call {callee:= .value (.func f),args:=xs.toArray,argTypes:=ts})
  (hf:P.funcs[f]? =some fn) (hbody:fn.body.isNone=false) (hname:(fn.name== "runtime.NumGoroutine")=false) (hfit:Fits m m0 m1 mr out fs c.P0 c.KN) (hd:o.dst=none):WO c P o E m (E.forget fs) (m1++mr.forget fs):=fun Q K a w hr h=>by
 obtain ⟨h1,h2,F,N,hm,he⟩:=hr
 unfold Oper.wp
 rw [ng ho rfl hf hbody hname,Oper.upon_enter]
 obtain ⟨hl,hv⟩:=hx.rep he
 refine (hS F N w (xs.map a.eval) ⟨he.glob,hm.Fin,fun n o hn=>hm.obj n o (hfit.sub n o hn),fun n o b hn hb=>(hm.free n o b (hfit.sub n o hn) hb).1,fun n n' o o' b hn hn'=>hm.apart n n' o o' b (hfit.sub n o hn) (hfit.sub n' o' hn')⟩ hl hv).mono ?_
 rintro e w' ⟨v,F',N',hdone⟩
 obtain ⟨N2,g1,g2,g3⟩:=hm.called hfit hdone
 rw [hdone.ending]
 simp only []
 exact h v _ _ rfl (by rw [hd];exact ⟨h1,h2,F',N2,g1,g3 a E he⟩)
end
def dc (m:Mem):Mem→Prop
 | []=>True
 | (k,o)::l=>m.get k=some o∧dc m l
theorem dc.get {m:Mem} :∀ {l:Mem},dc m l→∀ {n:Nat} {o:AObj},l.get n=some o→m.get n=some o
 | [],_,n,o,h=>by cases h
 | (k,x)::l,hs,n,o,h=>by
  simp only [Mem.get] at h
  cases e:Nat.beq k n with
  | true=>
   rw [e] at h
   simp only [cond_true,Option.some.injEq] at h
   have:=Nat.eq_of_beq_eq_true e
   subst this;subst h
   exact hs.1
  | false=>
   rw [e] at h
   exact dc.get hs.2 h
def su (E:Env):Env→Prop
 | []=>True
 | (k,v)::l=>E.get k=v∧su E l
theorem Less.mk' {E E':Env} {m m':Mem} (h1:su E E') (h2:dc m m'):Less E m E' m':=by
 refine ⟨fun t=>?_,fun n o hn=>h2.get hn⟩
 induction E' with
 | nil=>exact .inl rfl
 | cons p l ih=>
  obtain ⟨k,v⟩:=p
  simp only [Env.get]
  cases e:Nat.beq k t with
  | true=>
   have:=Nat.eq_of_beq_eq_true e
   subst this
   exact .inr h1.1.symm
  | false=>exact ih h1.2
theorem Ends.mk {P:Program} {fn:Func} {out:AV} {m1:Mem} {E:Env} {m:Mem} {rs:List ResultVar} {ps:List AV} (h1:fn.results=rs.toArray) (h2:Outs P E m rs ps) (h3:jZ ps=out) (h4:dc m m1):Ends P fn out m1 .ret E m:=⟨rs,ps,h1,h2,h3,fun _ _ h=>h4.get h⟩
theorem Ends.mkn {P:Program} {fn:Func} {out:AV} {m1:Mem} {E:Env} {m:Mem} {rs:List ResultVar} {ps:List AV} (h1:fn.results=rs.toArray) (h2:Outs P E m rs ps) (h3:jZ ps=out) (h4:dc m m1):Ends P fn out m1 .normal E m:=⟨rs,ps,h1,h2,h3,fun _ _ h=>h4.get h⟩
def Mem.less (fs:List Nat):Mem→Mem
 | []=>[]
 | (k,v)::l=>cond (inl fs k) (Mem.less fs l) ((k,v)::Mem.less fs l)
theorem Mem.get_less (fs:List Nat):∀ (m:Mem) (n:Nat) (o:AObj),(m.less fs).get n=some o→m.get n=some o∧inl fs n=false
 | [],n,o,h=>by cases h
 | (k,x)::m,n,o,h=>by
  simp only [Mem.less] at h
  simp only [Mem.get]
  cases hk:inl fs k with
  | true=>
   rw [hk] at h
   obtain ⟨h1,h2⟩:=Mem.get_less fs m n o h
   have:Nat.beq k n=false:=by
    cases e:Nat.beq k n with
    | false=>rfl
    | true=>
     have:=Nat.eq_of_beq_eq_true e
     subst this
     rw [hk] at h2
     cases h2
   rw [this]
   exact ⟨h1,h2⟩
  | false=>
   rw [hk] at h
   simp only [cond_false,Mem.get] at h
   cases e:Nat.beq k n with
   | true=>
    have:=Nat.eq_of_beq_eq_true e
    subst this
    rw [e] at h
    exact ⟨h,hk⟩
   | false=>
    rw [e] at h
    exact Mem.get_less fs m n o h
theorem Mem.get_names:∀ {m:Mem} {n:Nat},inl m.names n=false→m.get n=none
 | [],n,h=>rfl
 | (k,x)::m,n,h=>by
  simp only [Mem.names,inl] at h
  simp only [Mem.get]
  cases e:Nat.beq k n with
  | true=>rw [e] at h;cases h
  | false=>
   rw [e] at h
   exact Mem.get_names h
theorem rA (l1 l2:List Nat) (n:Nat):inl (l1++l2) n=(inl l1 n||inl l2 n):=by
 induction l1 with
 | nil=>rfl
 | cons x l ih=>
  simp only [List.cons_append,inl]
  cases Nat.beq x n with
  | true=>rfl
  | false=>exact ih
def FsOK (m0:Mem) (fs:List Nat):Mem→Bool
 | []=>true
 | (k,o)::l=>(inl fs k||(match m0.get k,o with | some (.box _ _), .box _ _=>true | _,_=>false))&&FsOK m0 fs l
theorem FsOK.get {m0:Mem} {fs:List Nat} :∀ {m1:Mem},FsOK m0 fs m1=true→∀ {n:Nat} {o:AObj},m1.get n=some o→inl fs n=true∨∃ T cs T' cs',m0.get n=some (.box T cs)∧o= .box T' cs'
 | [],_,n,o,h=>by cases h
 | (k,x)::l,hs,n,o,h=>by
  simp only [FsOK,Bool.and_eq_true,Bool.or_eq_true] at hs
  simp only [Mem.get] at h
  cases e:Nat.beq k n with
  | true=>
   rw [e] at h
   simp only [cond_true,Option.some.injEq] at h
   have:=Nat.eq_of_beq_eq_true e
   subst this;subst h
   rcases hs.1 with h1 | h1
   ·exact .inl h1
   ·split at h1
    ·rename_i T cs T' cs' hg
     exact .inr ⟨T,cs,T',cs',hg,rfl⟩
    ·cases h1
  | false=>
   rw [e] at h
   exact FsOK.get hs.2 h
def disj (fs ns:List Nat):Bool:=fs.all fun n=> !inl ns n
theorem kY:∀ {l:List Nat} {n:Nat},inl l n=true→n∈l
 | [],n,h=>by cases h
 | x::l,n,h=>by
  simp only [inl] at h
  cases e:Nat.beq x n with
  | true=>rw [Nat.eq_of_beq_eq_true e];exact List.mem_cons_self ..
  | false=>rw [e] at h;exact List.mem_cons_of_mem _ (kY h)
theorem Fits.mk' {m m0 m1:Mem} {out:AV} {fs P0 KN:List Nat} (h1:dc m m0) (h2:FsOK m0 fs m1=true) (h3:out.within m1.names fs=true) (h4:m1.within m1.names fs=true) (h5:disj fs P0=true) (h6:disj m0.names KN=true):Fits m m0 m1 (m.less (m0.names++m1.names)) out fs P0 KN where
 sub n o h:=h1.get h
 hfs n o h:=FsOK.get h2 h
 hout:=h3
 hm1:=h4
 rest n o h:=by
  obtain ⟨g1,g2⟩:=Mem.get_less _ _ _ _ h
  rw [rA,Bool.or_eq_false_iff] at g2
  exact ⟨g1,Mem.get_names g2.1,Mem.get_names g2.2⟩
 p0 n h:=by
  have:=List.all_eq_true.1 h5 n (kY h)
  simpa using this
 kn n o h:=by
  have:inl m0.names n=true:=by
   cases e:inl m0.names n with
   | true=>rfl
   | false=>rw [Mem.get_names e] at h;cases h
  have:=List.all_eq_true.1 h6 n (kY this)
  simpa using this
end LJ
