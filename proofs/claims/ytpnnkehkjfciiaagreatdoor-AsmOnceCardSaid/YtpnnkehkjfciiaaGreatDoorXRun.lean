/- A logic for the walks: whole regions, reckoned; calls that touch no memory. -/
import Derived.Test.YtpnnkehkjfciiaaGreatDoorXAuto
namespace LJ
open Go Go.RowKit
set_option linter.unusedVariables false
set_option linter.unusedSimpArgs false
theorem bX.read {c:Ctx} {F F':Nat→Prop} {N:aI} {w w':World} {m:Mem} (h:bX c F N w m) (hle:∀ b,F b→F' b) (hnew:∀ b,F' b→F b∨w.heap.size≤b) (hin:∀ b,F' b→b<w'.heap.size) (g:Grew w w'):bX c F' N w' m where
 F0 b hb:=hle b (h.F0 b hb)
 Fnew b hF:=by
  rcases hnew b hF with h1 | h1
  ·exact h.Fnew b h1
  ·exact .inr (.inl (Nat.le_trans h.size h1))
 Fin:=hin
 os:=g.os.trans h.os
 tape:=g.tape.trans h.tape
 output:=g.output.trans h.output
 size:=Nat.le_trans h.size g.size
 kept b hl hs:=(g.block b (Nat.lt_of_lt_of_le hl h.size)).trans (h.kept b hl hs)
 obj n o hn:=(h.obj n o hn).mono hle (fun b hF=>g.block b (h.Fin b hF)) (fun b hk=>g.block b ((h.obj n o hn).lt hk))
 free n o b hn hk:=by
  refine ⟨fun hF=>?_,(h.free n o b hn hk).2⟩
  rcases hnew b hF with h1 | h1
  ·exact (h.free n o b hn hk).1 h1
  ·have:=(h.obj n o hn).lt hk;omega
 apart:=h.apart
 named:=h.named
 agree b hK hl:=(g.block b (Nat.lt_of_lt_of_le hl h.ksize)).trans (h.agree b hK hl)
 knames:=h.knames
 ksize:=Nat.le_trans h.ksize g.size
def AV.plain:AV→Bool
 | .d _=>true
 | .tup vs=>vs.all fun | .d _=>true | _=>false
 | _=>false
theorem Rep.plain {F:Nat→Prop} {N N':aI} {w:World} {v:Value} {p:AV} (hp:p.plain=true) (h:Rep F N w v p):Rep F N' w v p:=by
 cases h with
 | d h=>exact .d h
 | tup hl h=>
  refine .tup hl fun i v c hv hc=>?_
  have hm:=List.all_eq_true.1 (show List.all _ _=true from hp) c (List.mem_of_getElem? hc)
  cases c with
  | d x=>exact .d (h i v _ hv hc).d_inv
  | _=>cases hm
 | _=>cases hp
def sN (P:Program) (f:FuncId) (args:List AV) (m:Mem) (out:AV):Prop:=
 ∀ (F:Nat→Prop) (N:aI) (w:World) (vals:List Value),mc F N w m→vals.length=args.length→(∀ (i:Nat) (v:Value) (p:AV),vals[i]? =some v→args[i]? =some p→Rep F N w v p)→
  Calls P f vals.toArray w fun e w'=>∃ v F',e= .returned v∧Rep F' N w' v out∧(∀ b,F b→F' b)∧(∀ b,F' b→F b∨w.heap.size≤b)∧(∀ b,F' b→b<w'.heap.size)∧Grew w w'
theorem sN.of_spec {P:Program} {f:FuncId} {args:List AV} {m:Mem} {out:AV} (h:Spec P f args [] out []) (hp:out.plain=true):sN P f args m out:=by
 intro F N w vals hm hl hv
 refine (h F N w vals ⟨hm.glob,hm.Fin,fun n o hn=>(by cases hn),fun n o b hn=>(by cases hn),fun n n' o o' b hn=>(by cases hn)⟩ hl hv).mono ?_
 rintro e w' ⟨v,F',N',hd⟩
 have none':∀ b,¬ik N [] b:=fun b ⟨n,o,hn,_⟩=>by cases hn
 refine ⟨v,F',hd.ending,hd.rep.plain hp,hd.le,fun b hb=>?_,hd.mem.Fin,⟨hd.os,hd.tape,hd.output,hd.size,fun b hb=>hd.kept b hb (none' b)⟩⟩
 rcases hd.new b hb with h1 | h1 | h1
 ·exact .inl h1
 ·exact .inr h1
 ·exact absurd h1 (none' b)
structure PSig (P:Program) where
 f:Nat
 go:List AV→Mem→VR
 code:∃ fn,P.funcs[f]? =some fn∧fn.body.isNone=false∧(fn.name== "runtime.NumGoroutine")=false
 ok:∀ args m ψ out,go args m=some (ψ,out)→dJ ψ→sN P f args m out∧out.plain=true
section
variable {P:Program}
def uK:List (PSig P)→Nat→Option (PSig P)
 | [],_=>none
 | s::l,f=>cond (Nat.beq s.f f) (some s) (uK l f)
theorem qN:∀ {l:List (PSig P)} {f:Nat} {s:PSig P},uK l f=some s→s.f=f
 | [],f,s,h=>by cases h
 | t::l,f,s,h=>by
  simp only [uK] at h
  cases e:Nat.beq t.f f with
  | true=>
   rw [e] at h
   simp only [cond_true,Option.some.injEq] at h
   subst h
   exact Nat.eq_of_beq_eq_true e
  | false=>rw [e] at h;exact qN h
def kt (E:Env):List Operand→Option (List AV)
 | []=>some []
 | x::xs=>match opnd E x,kt E xs with
  | some p,some ps=>some (p::ps)
  | _,_=>none
theorem gW {E:Env} :∀ {xs:List Operand} {ps:List AV},kt E xs=some ps→Ops E xs ps
 | [],ps,h=>by simp only [kt,Option.some.injEq] at h;subst h;exact .nil
 | x::xs,ps,h=>by
  simp only [kt] at h
  split at h
  ·rename_i p qs h1 h2
   injection h with h
   subst h
   exact .cons (aA h1) (gW h2)
  ·cases h
theorem WO.pcall {c:Ctx} {o:Oper} {E:Env} {m:Mem} {f:FuncId} {xs:List Operand} {ts:Array TypeId} {args:List AV} {out:AV} {d:Nat} (hS:sN P f args m out) (hx:Ops E xs args) (ho:o.op= .call {callee:= .value (.func f),args:=xs.toArray,argTypes:=ts})
  (hf:∃ fn,P.funcs[f]? =some fn∧fn.body.isNone=false∧(fn.name== "runtime.NumGoroutine")=false) (hd:o.dst=some d) (hlt:Nat.blt d c.ntmps=true):WO c P o E m ((d,out)::E) m:=fun Q K a w hr h=>by
 obtain ⟨h1,h2,F,N,hm,he⟩:=hr
 obtain ⟨fn,hf,hbody,hname⟩:=hf
 unfold Oper.wp
 rw [ng ho rfl hf hbody hname,Oper.upon_enter]
 obtain ⟨hl,hv⟩:=hx.rep he
 refine (hS F N w (xs.map a.eval) ⟨he.glob,hm.Fin,hm.obj,fun n o b hn hb=>(hm.free n o b hn hb).1,hm.apart⟩ hl hv).mono ?_
 rintro e w' ⟨v,F',he',hv',hle,hnew,hin,hg⟩
 rw [he']
 simp only []
 exact h v _ _ rfl (by rw [hd];exact Rel.put h1 h2 (hm.read hle hnew hin hg) ⟨fun t=>(he t).mono hle (fun b hb=>hg.block b (hm.Fin b hb)),he.glob.mono hle (fun b hb=>hg.block b (hm.Fin b hb))⟩ hlt hv')
def callee (c:Call):Option Nat:=
 match c.callee with
 | .value (.func f)=>some f
 | _=>none
def gOp (tt:List (Nat×TK)) (sg:List (PSig P)) (E:Env) (m:Mem) (op:Op):VR:=
 match op with
 | .call c=>match callee c with
  | some f=>match uK sg f with
   | some s=>match kt E c.args.toList with
    | some ps=>s.go ps m
    | none=>none
   | none=>none
  | none=>sM tt E m c
 | op=>oC tt E m op
theorem vA {tt:List (Nat×TK)} (htt:ttOK P tt=true) {sg:List (PSig P)} {c:Ctx} {o:Oper} {E:Env} {m:Mem} {ψ:Option Prop} {p:AV} {d:Nat} (h:gOp tt sg E m o.op=some (ψ,p)) (hψ:dJ ψ) (hd:o.dst=some d) (hlt:Nat.blt d c.ntmps=true):WO c P o E m ((d,p)::E) m:=by
 unfold gOp at h
 split at h
 ·rename_i op cl ho
  split at h
  ·rename_i f hf
   split at h
   ·rename_i s hs
    split at h
    ·rename_i ps hps
     have hfe:=qN hs
     subst hfe
     obtain ⟨k1,k2⟩:=s.ok _ _ _ _ h hψ
     unfold callee at hf
     split at hf
     ·rename_i f' hc
      injection hf with hf
      subst hf
      refine WO.pcall k1 (gW hps) (ts:=cl.argTypes) ?_ s.code hd hlt
      rw [ho]
      cases cl
      simp_all
     ·cases hf
    ·cases h
   ·cases h
  ·exact WO.val (iY htt (by rw [ho];exact h) hψ) hd hlt
 ·exact WO.val (iY htt h hψ) hd hlt
def jH (okd:Nat→Bool):List Oper→Bool
 | []=>true
 | o::l=>(match o.dst with | some d=>okd d | none=>false)&&jH okd l
def iZ (nt:Nat) (l:List Oper):Bool:=jH (fun d=>Nat.blt d nt) l
def gEq (j:Nat) (want:Bool) (g:Option (Nat×Bool)):Bool:=
 match g with
 | none=>false
 | some (j',w')=>Nat.beq j' j&&(w'==want)
def andP (φ:Option Prop) (ψ:Prop):Prop:=
 match φ with
 | none=>ψ
 | some φ=>φ∧ψ
structure rD (okd:Nat→Bool) (ops:Array Oper) (ev:Env→Op→VR) (W:List Oper→Env→Prop):Prop where
 step:∀ {o:Oper} {E:Env} {p:AV} {φ:Option Prop} {d:Nat} {rest:List Oper},ev E o.op=some (φ,p)→dJ φ→o.dst=some d→okd d=true→o.guard=none→W rest ((d,p)::E)→W (o::rest) E
 gstep:∀ {o:Oper} {E:Env} {p:AV} {φ:Option Prop} {d j g:Nat} {want:Bool} {x:Oper} {rest:List Oper},ev E o.op=some (φ,p)→dJ φ→o.dst=some d→okd d=true→o.guard=some (j,want)→ops[j]? =some x→x.dst=some g→E.get g= .d (.bool want)→W rest ((d,p)::E)→W (o::rest) E
 goff:∀ {o:Oper} {E:Env} {q:AV} {d j g:Nat} {want:Bool} {x:Oper} {rest:List Oper},o.guard=some (j,want)→ops[j]? =some x→x.dst=some g→(∀ F N w v,Rep F N w v (E.get g)→v=undef∨v= .bool (!want))→(∀ F N w,Rep F N w undef q)→o.dst=some d→okd d=true→W rest ((d,q)::E)→W (o::rest) E
 weak:∀ {l:List Oper} {E E':Env},(∀ F N w v t,Rep F N w v (E.get t)→Rep F N w v (E'.get t))→W l E'→W l E
def i0 (ev:Env→Op→VR):List Oper→Env→Option (Prop×Env)
 | [],E=>some (True,E)
 | o::l,E=>match o.guard with
  | some _=>none
  | none=>match o.dst with
   | none=>none
   | some d=>match ev E o.op with
    | some (none,p)=>i0 ev l ((d,p)::E)
    | some (some φ,p)=>match i0 ev l ((d,p)::E) with
     | some (ψ,E')=>some (φ∧ψ,E')
     | none=>none
    | none=>none
theorem i1 {ev:Env→Op→VR} {okd:Nat→Bool} {ops:Array Oper} {W:List Oper→Env→Prop} (hs:rD okd ops ev W) {rest:List Oper} :∀ {l:List Oper} {E E':Env} {ψ:Prop},i0 ev l E=some (ψ,E')→ψ→jH okd l=true→W rest E'→W (l++rest) E
 | [],E,E',ψ,h,hψ,hd,hk=>by
  simp only [i0,Option.some.injEq,Prod.mk.injEq] at h
  obtain ⟨rfl,rfl⟩:=h
  exact hk
 | o::l,E,E',ψ,h,hψ,hd,hk=>by
  simp only [jH,Bool.and_eq_true] at hd
  simp only [i0] at h
  split at h
  ·cases h
  ·rename_i hg
   split at h
   ·cases h
   ·rename_i d ho
    have hd1:=hd.1
    rw [ho] at hd1
    split at h
    ·rename_i p hp
     exact hs.step hp trivial ho hd1 hg (i1 hs h hψ hd.2 hk)
    ·rename_i φ p hp
     split at h
     ·rename_i ψ' E'' hr
      simp only [Option.some.injEq,Prod.mk.injEq] at h
      obtain ⟨rfl,rfl⟩:=h
      exact hs.step hp hψ.1 ho hd1 hg (i1 hs hr hψ.2 hd.2 hk)
     ·cases h
    ·cases h
def i3 (ev:Env→Op→VR) (j:Nat) (want:Bool) (b:Bool):List Oper→Env→Env→Option (Prop×Env)
 | [],E,W=>some (True,W)
 | o::l,E,W=>match gEq j want o.guard with
  | false=>none
  | true=>match o.dst with
   | none=>none
   | some d=>match ev E o.op with
    | some (none, .d v)=>i3 ev j want b l ((d, .d v)::E) ((d, .when b v)::W)
    | some (none,p)=>i3 ev j want b l ((d,p)::E) ((d, .und)::W)
    | some (some φ, .d v)=>match i3 ev j want b l ((d, .d v)::E) ((d, .when b v)::W) with
     | some (ψ,E')=>some (φ∧ψ,E')
     | none=>none
    | some (some φ,p)=>match i3 ev j want b l ((d,p)::E) ((d, .und)::W) with
     | some (ψ,E')=>some (φ∧ψ,E')
     | none=>none
    | none=>none
theorem Rel.weaker {c:Ctx} {E W:Env} {m:Mem} {a:Act} {w:World} (h:Rel c E m a w) (hW:∀ F N v t,Rep F N w v (E.get t)→Rep F N w v (W.get t)):Rel c W m a w:=by
 obtain ⟨h1,h2,F,N,hm,he⟩:=h
 exact ⟨h1,h2,F,N,hm,⟨fun t=>hW F N _ t (he t),he.glob⟩⟩
theorem qO {j:Nat} {want:Bool} {g:Option (Nat×Bool)} (h:gEq j want g=true):g=some (j,want):=by
 unfold gEq at h
 split at h
 ·cases h
 ·rename_i j' w'
  simp only [Bool.and_eq_true,beq_iff_eq] at h
  rw [Nat.eq_of_beq_eq_true h.1,h.2]
def Wk (b:Bool) (E W:Env):Prop:=b=true→∀ F N w v t,Rep F N w v (E.get t)→Rep F N w v (W.get t)
theorem Wk.push {b:Bool} {E W:Env} (h:Wk b E W) (d:Nat) (p q:AV) (hq:b=true→∀ F N w v,Rep F N w v p→Rep F N w v q):Wk b ((d,p)::E) ((d,q)::W):=fun hb F N w v t=>by
 simp only [Env.get]
 cases Nat.beq d t with
 | true=>exact hq hb F N w v
 | false=>exact h hb F N w v t
theorem oD {ev:Env→Op→VR} {okd:Nat→Bool} {ops:Array Oper} {J:List Oper→Env→Prop} (hs:rD okd ops ev J) {rest:List Oper} {j g:Nat} {want b:Bool} {x:Oper} (hj:ops[j]? =some x) (hx:x.dst=some g):
  ∀ {l:List Oper} {E W W':Env} {ψ:Prop},i3 ev j want b l E W=some (ψ,W')→(b=true→ψ)→jH okd l=true→inl (l.map fun o=>o.dst.getD 0) g=false→Wk b E W→(b=true→E.get g= .d (.bool want))→(b=false→∀ F N w v,Rep F N w v (W.get g)→v=undef∨v= .bool (!want))→
   J rest W'→(b=true→J (l++rest) E)∧(b=false→J (l++rest) W)
 | [],E,W,W',ψ,h,hψ,hd,hn,hW,h1,h2,hk=>by
  simp only [i3,Option.some.injEq,Prod.mk.injEq] at h
  obtain ⟨rfl,rfl⟩:=h
  exact ⟨fun hb=>hs.weak (hW hb) hk,fun _=>hk⟩
 | o::l,E,W,W',ψ,h,hψ,hd,hn,hW,h1,h2,hk=>by
  simp only [jH,Bool.and_eq_true] at hd
  simp only [i3] at h
  split at h
  ·cases h
  ·rename_i hg
   have hg':=qO hg
   split at h
   ·cases h
   ·rename_i d ho
    have hd1:=hd.1
    rw [ho] at hd1
    simp only [List.map_cons,inl,ho,Option.getD_some] at hn
    have hdg:Nat.beq d g=false:=by
     cases e:Nat.beq d g with
     | false=>rfl
     | true=>rw [e] at hn;cases hn
    rw [hdg] at hn
    simp only [cond_false] at hn
    have go:∀ {p q:AV} {φ:Option Prop} {ψ':Prop},ev E o.op=some (φ,p)→(b=true→dJ φ)→(b=true→∀ F N w v,Rep F N w v p→Rep F N w v q)→i3 ev j want b l ((d,p)::E) ((d,q)::W)=some (ψ',W')→(b=true→ψ')→(∀ F N w,b=false→Rep F N w undef q)→
      (b=true→J (o::l++rest) E)∧(b=false→J (o::l++rest) W):=by
     intro p q φ ψ' hp hφ hq hr hψ' hall
     have ih:=oD hs hj hx hr hψ' hd.2 hn (hW.push d p q hq) (fun hb=>by simp only [Env.get,hdg,cond_false];exact h1 hb) (fun hb=>by simp only [Env.get,hdg,cond_false];exact h2 hb) hk
     refine ⟨fun hb=>?_,fun hb=>?_⟩
     ·exact hs.gstep hp (hφ hb) ho hd1 hg' hj hx (h1 hb) (ih.1 hb)
     ·exact hs.goff hg' hj hx (h2 hb) (fun F N w=>hall F N w hb) ho hd1 (ih.2 hb)
    have wen:∀ {v:DV},(b=true→∀ F N w u,Rep F N w u (.d v)→Rep F N w u (.when b v)):=fun hb F N w u h=> .when (fun _=>h.d_inv) (fun hf=>by rw [hb] at hf;cases hf)
    have wen':∀ {v:DV},(∀ F N w,b=false→Rep F N w undef (.when b v)):=fun F N w hb=> .when (fun hb'=>by rw [hb] at hb';cases hb') (fun _=>rfl)
    split at h
    ·rename_i v hp
     exact go hp (fun _=>trivial) wen h hψ wen'
    ·rename_i p _ hp
     exact go hp (fun _=>trivial) (fun _ _ _ _ _ _=> .und) h hψ (fun _ _ _ _=> .und)
    ·rename_i φ v hp
     split at h
     ·rename_i ψ' E'' hr
      simp only [Option.some.injEq,Prod.mk.injEq] at h
      obtain ⟨rfl,rfl⟩:=h
      exact go hp (fun hb=>(hψ hb).1) wen hr (fun hb=>(hψ hb).2) wen'
     ·cases h
    ·rename_i φ p _ hp
     split at h
     ·rename_i ψ' E'' hr
      simp only [Option.some.injEq,Prod.mk.injEq] at h
      obtain ⟨rfl,rfl⟩:=h
      exact go hp (fun hb=>(hψ hb).1) (fun _ _ _ _ _ _=> .und) hr (fun hb=>(hψ hb).2) (fun _ _ _ _=> .und)
     ·cases h
    ·cases h
theorem WL.steps {tt:List (Nat×TK)} (htt:ttOK P tt=true) (sg:List (PSig P)) (c:Ctx) (ops:Array Oper) (Q:Exit→Env→Mem→Prop) (m:Mem):rD (fun d=>Nat.blt d c.ntmps) ops (fun E op=>gOp tt sg E m op) (fun l E=>WL c P ops Q l E m) where
 step hp hφ ho hlt hg hk:=WL.step (vA htt hp hφ ho hlt) hg hk
 gstep hp hφ ho hlt hg hj hx hb hk:=WL.gstep (vA htt hp hφ ho hlt) hg hj hx hb hk
 goff hg hj hx hb hq ho hlt hk:=WL.goff hg hj hx hb hq ho hlt hk
 weak hW hk:=fun a w hr=>hk a w (hr.weaker (fun F N v t=>hW F N w v t))
def WS (c:Ctx) (P:Program) (ops:Array Oper) (K:Env→Prop) (m:Mem) (l:List Oper) (E:Env):Prop:=∀ a w,Rel c E m a w→wpStill P ops w (fun a'=>∃ E',K E'∧Rel c E' m a' w) l a
theorem Rel.grew {c:Ctx} {E:Env} {m:Mem} {a:Act} {w w':World} (h:Rel c E m a w) (g:Grew w w'):Rel c E m a w':=by
 obtain ⟨h1,h2,F,N,hm,he⟩:=h
 exact ⟨h1,h2,F,N,hm.grew g,he.grew (fun b hb=>g.block b (hm.Fin b hb))⟩
def sO (E:Env) (g:Nat) (want:Bool):Option (Bool×DV):=
 match E.get g with
 | .d (.bool b)=>match want with
  | true=>some (b, .bool b)
  | false=>some (!b, .bool b)
 | .when u (.bool b)=>match want with
  | true=>some (u&&b, .bool b)
  | false=>some (u&& !b, .bool b)
 | _=>none
def vB (ops:Array Oper) (j:Nat):Option Nat:=
 match nth ops.toList j with
 | some x=>x.dst
 | none=>none
def qP (ev:Env→Op→VR) (ops:Array Oper) (j:Nat) (want:Bool) (l:List Oper) (E:Env):Option (Prop×Bool×Env):=
 match vB ops j with
 | none=>none
 | some g=>match inl (l.map fun o=>o.dst.getD 0) g with
  | true=>none
  | false=>match sO E g want with
   | none=>none
   | some (b,_)=>match i3 ev j want b l ((g, .d (.bool want))::E) E with
    | some (ψ,E')=>some (ψ,b,E')
    | none=>none
theorem oE {ev:Env→Op→VR} {okd:Nat→Bool} {ops:Array Oper} {J:List Oper→Env→Prop} (hs:rD okd ops ev J) {E E':Env} {l:List Oper} {ψ:Prop} {b:Bool} (n j:Nat) (want:Bool) (h:qP ev ops j want (l.take n) E=some (ψ,b,E')) (hd:jH okd (l.take n)=true) (hψ:b=true→ψ) (hk:J (l.drop n) E'):J l E:=by
 unfold qP at h
 split at h
 ·cases h
 ·rename_i g hg
  split at h
  ·cases h
  ·rename_i hn
   split at h
   ·cases h
   ·rename_i b0 x0 hc
    split at h
    ·rename_i ψ' E'' hsec
     simp only [Option.some.injEq,Prod.mk.injEq] at h
     obtain ⟨rfl,rfl,rfl⟩:=h
     unfold vB at hg
     split at hg
     ·rename_i x hx
      rw [ep,Array.getElem?_toList] at hx
      have facts:((b0=true→∀ F N w v,Rep F N w v (E.get g)→v= .bool want)∧(b0=false→∀ F N w v,Rep F N w v (E.get g)→v=undef∨v= .bool (!want)))∧(b0=true→∀ F N w,Rep F N w (.bool want) (E.get g)):=by
       unfold sO at hc
       split at hc
       ·rename_i b1 he
        rw [he]
        have key:∃ z:Bool,(b0=true→b1=want)∧(b0=false→b1= !want):=by
         refine ⟨true,?_⟩
         split at hc <;> (simp only [Option.some.injEq,Prod.mk.injEq] at hc;obtain ⟨rfl,_⟩:=hc;cases b1 <;> simp)
        obtain ⟨_,k1,k2⟩:=key
        exact ⟨⟨fun hb F N w v hr=>by rw [hr.d_inv.bool_inv,k1 hb],fun hb F N w v hr=> .inr (by rw [hr.d_inv.bool_inv,k2 hb])⟩,fun hb F N w=>by rw [k1 hb];exact .d .bool⟩
       ·rename_i u b1 he
        rw [he]
        have key:∃ z:Bool,(b0=true→u=true∧b1=want)∧(b0=false→u=true→b1= !want):=by
         refine ⟨true,?_⟩
         split at hc <;> (simp only [Option.some.injEq,Prod.mk.injEq] at hc;obtain ⟨rfl,_⟩:=hc;cases b1 <;> cases u <;> simp)
        obtain ⟨_,k1,k2⟩:=key
        refine ⟨⟨fun hb F N w v hr=>by rw [(hr.when_inv (k1 hb).1).bool_inv,(k1 hb).2],fun hb F N w v hr=>?_⟩,fun hb F N w=> .when (fun _=>by rw [(k1 hb).2];exact .bool) (fun hu=>by rw [(k1 hb).1] at hu;cases hu)⟩
        cases hu:u with
        | false=>exact .inl (hr.when_off hu)
        | true=>exact .inr (by rw [(hr.when_inv hu).bool_inv,k2 hb hu])
       ·cases hc
      have up:b0=true→∀ F N w v t,Rep F N w v (E.get t)→Rep F N w v (Env.get ((g, .d (.bool want))::E) t):=by
       intro hb F N w v t hr
       simp only [Env.get]
       cases e:Nat.beq g t with
       | false=>exact hr
       | true=>
        have:=Nat.eq_of_beq_eq_true e
        subst this
        rw [facts.1.1 hb F N w v hr]
        exact .d .bool
      have key:=oD (rest:=l.drop n) hs hx hg hsec hψ hd hn (W:=E) (E:=(g, .d (.bool want))::E) (fun hb F N w v t hr=>by
       simp only [Env.get] at hr
       cases e:Nat.beq g t with
       | false=>rw [e] at hr;exact hr
       | true=>
        have:=Nat.eq_of_beq_eq_true e
        subst this
        rw [e] at hr
        simp only [cond_true] at hr
        rw [hr.d_inv.bool_inv]
        exact facts.2 hb F N w) (fun hb=>by simp [Env.get]) facts.1.2 hk
      rw [List.take_append_drop] at key
      cases hb:b0 with
      | true=>exact hs.weak (up hb) (key.1 hb)
      | false=>exact key.2 hb
     ·cases hg
    ·cases h
section
variable {tt:List (Nat×TK)} {c:Ctx} {ops:Array Oper} {Q:Exit→Env→Mem→Prop} {E E':Env} {m:Mem} {l:List Oper} {ψ:Prop} {b:Bool} {K:Env→Prop}
theorem WL.run (n:Nat) (htt:ttOK P tt=true) (sg:List (PSig P)) (h:i0 (fun E op=>gOp tt sg E m op) (l.take n) E=some (ψ,E')) (hd:iZ c.ntmps (l.take n)=true) (hψ:ψ) (hk:WL c P ops Q (l.drop n) E' m):WL c P ops Q l E m:=by
 have:=i1 (rest:=l.drop n) (WL.steps htt sg c ops Q m) h hψ hd hk
 rwa [List.take_append_drop] at this
theorem WL.sect (n j:Nat) (want:Bool) (htt:ttOK P tt=true) (sg:List (PSig P)) (h:qP (fun E op=>gOp tt sg E m op) ops j want (l.take n) E=some (ψ,b,E')) (hd:iZ c.ntmps (l.take n)=true) (hψ:b=true→ψ) (hk:WL c P ops Q (l.drop n) E' m):WL c P ops Q l E m:=
 oE (WL.steps htt sg c ops Q m) n j want h hd hψ hk
end
end
end LJ
