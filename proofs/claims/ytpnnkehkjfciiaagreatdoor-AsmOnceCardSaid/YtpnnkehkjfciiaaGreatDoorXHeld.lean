/- A logic for the walks: regions whose operations may be taken in many orders, with calls and writes among them. -/
import Derived.Test.YtpnnkehkjfciiaaGreatDoorXMore
namespace LJ
open Go Go.RowKit
set_option linter.unusedVariables false
set_option linter.unusedSimpArgs false
def AV.fast (P0:List Nat):AV→Bool
 | .d _=>true
 | .when _ _=>true
 | .ptr n _=>inl P0 n
 | .optp _ n _=>inl P0 n
 | .psl n _ _ _=>inl P0 n
 | .own n=>inl P0 n&&inl P0 (n+1000000)
 | .rel n _=>inl P0 n&&inl P0 (n+1000000)
 | .rsl n _ _ _=>inl P0 n&&inl P0 (n+1000000)
 | .qel n _=>inl P0 n&&inl P0 (n+1000000)
 | .tup vs=>vs.all fun | .d _=>true | _=>false
 | .und=>true
def fR (P0:List Nat):Env→Bool
 | []=>true
 | (_,p)::l=>p.fast P0&&fR P0 l
theorem lj {P0:List Nat} :∀ {E:Env},fR P0 E=true→∀ t,(E.get t).fast P0=true
 | [],_,t=>rfl
 | (k,p)::l,h,t=>by
  simp only [fR,Bool.and_eq_true] at h
  simp only [Env.get]
  cases Nat.beq k t with
  | true=>exact h.1
  | false=>exact lj h.2 t
structure Stay where
 F:Nat→Prop
 N:aI
 w:World
 m:Mem
structure oN (s:Stay) (c0 c:Ctx):Prop where
 mem:∃ c1,bX c1 s.F s.N s.w s.m
 wK:c.wK=s.w
 K:∀ b,s.F b→c.K b
 Km:∀ n o b,s.m.get n=some o→blk s.N n o=some b→c.K b
 β:∀ n,inl c.P0 n=true→s.N.β n=c.B0.β n∧(inl c.P0 (n+1000000)=true→s.N.σ n=c.B0.σ n)
 F0:∀ b,s.F b→c.F0 b
 back:∀ E m a w,Rel c E m a w→Rel c0 E m a w
def KS (c:Ctx):World→Prop:=fun w=>∀ b,c.K b→b<c.wK.heap.size→w.heap[b]? =c.wK.heap[b]?
section
variable {tp:Bool} {s:Stay} {c0 c:Ctx} {P:Program} {ops:Array Oper} {Q:Exit→Env→Mem→Prop} {EK E E':Env} {m m':Mem}
theorem Rep.fast {F F':Nat→Prop} {N N':aI} {w w':World} {P0:List Nat} {v:Value} {p:AV} (hp:p.fast P0=true) (hF:∀ b,F b→F' b) (hw:∀ b,F b→w'.heap[b]? =w.heap[b]?) (hN:∀ n,inl P0 n=true→N'.β n=N.β n∧(inl P0 (n+1000000)=true→N'.σ n=N.σ n)) (h:Rep F N w v p):Rep F' N' w' v p:=by
 cases h with
 | d h=>exact .d (h.mono hF hw)
 | when h hu=>exact .when (fun hb=>(h hb).mono hF hw) hu
 | und=>exact .und
 | @ptr n o=>
  have:=(hN n hp).1
  rw [←this]
  exact .ptr
 | @optp b n o=>
  have:=(hN n hp).1
  rw [←this]
  exact .optp
 | @psl n o a b o' ho=>
  have:=(hN n hp).1
  rw [←this]
  exact .psl ho
 | @own n=>
  simp only [AV.fast,Bool.and_eq_true] at hp
  rw [←(hN n hp.1).2 hp.2]
  exact .own
 | @rel n o g l c h=>
  simp only [AV.fast,Bool.and_eq_true] at hp
  exact .rel (by rw [(hN n hp.1).2 hp.2];exact h)
 | @rsl n o a b o' g l c h ho=>
  simp only [AV.fast,Bool.and_eq_true] at hp
  exact .rsl (by rw [(hN n hp.1).2 hp.2];exact h) ho
 | @qel n i g o l c h=>
  simp only [AV.fast,Bool.and_eq_true] at hp
  exact .qel (by rw [(hN n hp.1).2 hp.2];exact h)
 | tup hl h=>
  refine .tup hl fun i v c hv hc=>?_
  have hm:=List.all_eq_true.1 (show List.all _ _=true from hp) c (List.mem_of_getElem? hc)
  cases c with
  | d x=>exact .d ((h i v _ hv hc).d_inv.mono hF hw)
  | _=>cases hm
theorem Rel.ks {a:Act} {w:World} (h:Rel c E m a w):KS c w:=by
 obtain ⟨_,_,F,N,hm,_⟩:=h
 exact hm.agree
theorem Env.get_append (t:Nat):∀ (A B:Env),((A++B).get t=A.get t)∨((A++B).get t=B.get t)
 | [],B=> .inr rfl
 | (k,v)::A,B=>by
  simp only [List.cons_append,Env.get]
  cases Nat.beq k t with
  | true=>exact .inl rfl
  | false=>exact Env.get_append t A B
theorem oN.both (hs:oN s c0 c) {a:Act} {w:World} (h:Rel c E m a w) (hk:cg s.F s.N s.w a EK) (hf:fR c.P0 EK=true):Rel c (EK++E) m a w:=by
 obtain ⟨h1,h2,F,N,hm,he⟩:=h
 refine ⟨h1,h2,F,N,hm,⟨fun t=>?_,he.glob⟩⟩
 rcases Env.get_append t EK E with h | h
 ·rw [h]
  obtain ⟨c1,hm1⟩:=hs.mem
  refine (hk t).fast (lj hf t) (fun b hb=>hm.F0 b (hs.F0 b hb)) (fun b hb=>?_) (fun n hn=>?_)
  ·have:=hm.agree b (hs.K b hb) (by rw [hs.wK];exact hm1.Fin b hb)
   rw [hs.wK] at this
   exact this
  ·exact ⟨(hm.named n hn).1.trans (hs.β n hn).1.symm,fun hp=>((hm.named n hn).2 hp).trans ((hs.β n hn).2 hp).symm⟩
 ·rw [h]
  exact he t
inductive Sch where
 | done
 | one (i:Nat) (q:Bool) (r:Sch)
 | fork (a b:Sch)
def Sch.len:Sch→Nat
 | .done=>0
 | .one _ _ r=>r.len+1
 | .fork a _=>a.len
def Sch.heads:Sch→List Nat
 | .done=>[]
 | .one i q _=>cond q [] [i]
 | .fork a b=>a.heads++b.heads
def Sch.qs:List Nat→Sch→Sch
 | [],r=>r
 | i::is,r=> .one i true (Sch.qs is r)
def schB (ops:Array Oper):Sch→Bool→Array Bool→Bool
 | .done,tp,listed=>tp&&(Region.ready .any ops listed).isEmpty
 | .one i true l,tp,listed=>tp&&(Region.free .any ops listed i&&(Region.ready .any ops listed).contains i&&schB ops l true (listed.setIfInBounds i true))
 | .one i false l,tp,listed=>(match tp with
  | true=>decide (Region.ready .any ops listed=[i])
  | false=>true)&&schB ops l true (listed.setIfInBounds i true)
 | .fork a b,tp,listed=>(match tp with
  | true=>decide (Region.ready .any ops listed=a.heads++b.heads)&& !(a.heads++b.heads).isEmpty
  | false=>true)&&(Nat.beq a.len b.len&&Nat.blt 0 a.len&&schB ops a false listed&&schB ops b false listed)
def runS (P:Program) (ops:Array Oper) (L:Exit→Act→World→Prop) (K:World→Prop):Bool→List Nat→Nat→Array Bool→Act→World→Prop
 | true,_,n,listed,a,w=>wpAnyH P .any ops L K n listed a w
 | false,hs,n,listed,a,w=>∀ i∈hs,wpOp P ops L i (fun a' w'=>K w'∧wpAnyH P .any ops L K (n - 1) (listed.setIfInBounds i true) a' w') a w
def WH (tp:Bool) (c0 c:Ctx) (s:Stay) (P:Program) (ops:Array Oper) (Q:Exit→Env→Mem→Prop) (sch:Sch) (EK E:Env) (m:Mem):Prop:=
 oN s c0 c→Region.noSelect ops=true→(∀ ch E m,Q (.panic ch) E m→Q (.panic ch) [] [])→∀ (a:Act) (w:World) (listed:Array Bool),schB ops sch tp listed=true→Rel c E m a w→cg s.F s.N s.w a EK→
  runS P ops (lift c0 Q) (KS c) tp sch.heads sch.len listed a w
theorem ny {P:Program} {ops:Array Oper} {L:Exit→Act→World→Prop} {K:World→Prop} {tp:Bool} {i:Nat} {sch:Sch} {listed:Array Bool} {a:Act} {w:World} (hB:schB ops (.one i false sch) tp listed=true)
  (h:schB ops sch true (listed.setIfInBounds i true)=true→wpOp P ops L i (fun a' w'=>K w'∧wpAnyH P .any ops L K sch.len (listed.setIfInBounds i true) a' w') a w):runS P ops L K tp (Sch.one i false sch).heads (Sch.one i false sch).len listed a w:=by
 have key:∀ k∈[i],wpOp P ops L k (fun a' w'=>K w'∧wpAnyH P .any ops L K sch.len (listed.setIfInBounds k true) a' w') a w:=fun k hk=>by
  have:k=i:=by simpa using hk
  subst this
  simp only [schB,Bool.and_eq_true] at hB
  exact h hB.2
 cases tp with
 | false=>exact key
 | true=>
  simp only [schB,Bool.and_eq_true,decide_eq_true_eq] at hB
  exact wpAnyH_all hB.1 (by simp) key
theorem WH.fork {c0 c:Ctx} {s:Stay} {P:Program} {ops:Array Oper} {Q:Exit→Env→Mem→Prop} {tp:Bool} {A B:Sch} {EK E:Env} {m:Mem} (ha:WH false c0 c s P ops Q A EK E m) (hb:WH false c0 c s P ops Q B EK E m):WH tp c0 c s P ops Q (.fork A B) EK E m:=fun hst hsel hp a w listed hB hr hek=>by
 simp only [schB,Bool.and_eq_true] at hB
 obtain ⟨h0,⟨⟨hl,hpos⟩,hA⟩,hB⟩:=hB
 have h1:=ha hst hsel hp a w listed hA hr hek
 have h2:=hb hst hsel hp a w listed hB hr hek
 rw [←Nat.eq_of_beq_eq_true hl] at h2
 have key:∀ k∈A.heads++B.heads,wpOp P ops (lift c0 Q) k (fun a' w'=>KS c w'∧wpAnyH P .any ops (lift c0 Q) (KS c) (A.len - 1) (listed.setIfInBounds k true) a' w') a w:=fun k hk=>by
  rcases List.mem_append.1 hk with h | h
  ·exact h1 k h
  ·exact h2 k h
 cases tp with
 | false=>exact key
 | true=>
  simp only [Bool.and_eq_true,decide_eq_true_eq] at h0
  have hpos:=Nat.le_of_ble_eq_true hpos
  show wpAnyH P .any ops (lift c0 Q) (KS c) A.len listed a w
  obtain ⟨n,hn⟩:∃ n,A.len=n+1:=⟨A.len - 1,by omega⟩
  rw [hn] at key ⊢
  refine wpAnyH_all h0.1 (fun h=>?_) key
  rw [h] at h0
  simp at h0
theorem WH.nil (hf:fR c.P0 EK=true) (h:Q .normal (EK++E) m):WH true c0 c s P ops Q .done EK E m:=fun hs _ _ a w listed hB hr hk=>by
 simp only [schB,Bool.and_eq_true,List.isEmpty_iff] at hB
 exact wpAnyH_done hB.2 ⟨_,_,h,hs.back _ _ _ _ (hs.both hr hk hf)⟩ _
theorem cg.keep {F:Nat→Prop} {N:aI} {w:World} {a:Act} (h:cg F N w a E) {d:Nat} {v:Value} (hd:E.get d= .und):cg F N w (a.put (some d) v) E:=by
 refine ⟨fun t=>?_,h.glob⟩
 simp only [Act.put]
 rw [kE]
 by_cases ht:d=t
 ·subst ht
  rw [hd]
  exact .und
 ·rw [if_neg (fun h=>ht h.1)]
  exact h t
theorem Rel.keep {a:Act} {w:World} (h:Rel c E m a w) {d:Nat} {v:Value} (hd:E.get d= .und):Rel c E m (a.put (some d) v) w:=by
 obtain ⟨h1,h2,F,N,hm,he⟩:=h
 exact ⟨h1,by simp [Act.put,h2],F,N,hm,he.keep hd⟩
def undB:AV→Bool
 | .und=>true
 | _=>false
theorem ta {p:AV} (h:undB p=true):p= .und:=by cases p <;> first | rfl | cases h
def okQ (nt:Nat) (E:Env) (d:Nat):Bool:=Nat.blt d nt&&undB (E.get d)
theorem bX.bare {c:Ctx} {F:Nat→Prop} {N:aI} {w:World} {m:Mem} (h:bX c F N w m):bX c F N w []:=
 ⟨h.F0,h.Fnew,h.Fin,h.os,h.tape,h.output,h.size,h.kept,fun n o h=>(by cases h),fun n o b h=>(by cases h),fun n n' o o' b h=>(by cases h),h.named,h.agree,fun n o b h=>(by cases h),h.ksize⟩
theorem mF {c0:Ctx} {Q:Exit→Env→Mem→Prop} (hp:∀ ch E m,Q (.panic ch) E m→Q (.panic ch) [] []) (o:Option Nat) (v:Value):∀ ch a w,lift c0 Q (.panic ch) (a.put o v) w→lift c0 Q (.panic ch) a w:=by
 rintro ch a w ⟨E,m,h,h1,h2,F,N,hm,he⟩
 refine ⟨[],[],hp ch E m h,?_,?_,F,N,hm.bare,⟨fun t=> .und,he.glob⟩⟩
 ·cases o <;> exact h1
 ·cases o <;> simpa [Act.put] using h2
def WHQ (c0 c:Ctx) (s:Stay) (P:Program) (ops:Array Oper) (Q:Exit→Env→Mem→Prop) (rest:Sch) (E:Env) (m:Mem) (l:List Oper) (EK:Env):Prop:=
 ∀ is:List Nat,is.map (fun i=>ops[i]?)=l.map some→WH true c0 c s P ops Q (Sch.qs is rest) EK E m
theorem WHQ.take {rest:Sch} {o:Oper} {p:AV} {d:Nat} {l:List Oper} (ho:o.dst=some d) (hlt:okQ c.ntmps E d=true)
  (hy:∀ a,cg s.F s.N s.w a EK→oN s c0 c→∃ v,Rep s.F s.N s.w v p∧YieldsIf P ops (KS c) o v a) (hk:WHQ c0 c s P ops Q rest E m l ((d,p)::EK)):WHQ c0 c s P ops Q rest E m (o::l) EK:=by
 intro is his
 match is,his with
 | [],his=>cases his
 | i::is,his=>
  simp only [List.map_cons,List.cons.injEq] at his
  obtain ⟨hi,his⟩:=his
  intro hs hsel hp a w listed hB hr hek
  simp only [Sch.qs,schB,Bool.and_eq_true] at hB
  obtain ⟨_,⟨hf,hrd⟩,hB⟩:=hB
  obtain ⟨v,hv,hyi⟩:=hy a hek hs
  unfold okQ at hlt
  simp only [Bool.and_eq_true] at hlt
  have hd:=ta hlt.2
  show wpAnyH P .any ops (lift c0 Q) (KS c) ((Sch.qs is rest).len+1) listed a w
  refine wpAnyH_take hi hsel hf hrd (mF hp _ _) hyi hr.ks ?_
  rw [ho]
  refine hk is his hs hsel hp _ _ _ hB (hr.keep hd) ?_
  obtain ⟨_,h2,_⟩:=hr
  exact hek.put (by rw [h2];exact Nat.le_of_ble_eq_true hlt.1) hv
theorem er {o:Oper} {p:AV} (hy:aF P o EK s.m p) {a:Act} (hek:cg s.F s.N s.w a EK) (hs:oN s c0 c):∃ v,Rep s.F s.N s.w v p∧∀ w,KS c w→(execOp a.eval o).run P w= .ok (.value v) w:=by
 obtain ⟨c1,hm⟩:=hs.mem
 obtain ⟨v,hv,hrun⟩:=hy c1 s.F s.N s.w a hm hek
 refine ⟨v,hv,fun w hw=>hrun w (fun b hb=>?_) (fun n x b hn hb=>?_)⟩
 ·have:=hw b (hs.K b hb) (by rw [hs.wK];exact hm.Fin b hb)
  rw [hs.wK] at this
  exact this
 ·have:=hw b (hs.Km n x b hn hb) (by rw [hs.wK];exact (hm.obj n x hn).lt hb)
  rw [hs.wK] at this
  exact this
theorem WHQ.steps {tt:List (Nat×TK)} (htt:ttOK P tt=true) (c0 c:Ctx) (s:Stay) (ops:Array Oper) (Q:Exit→Env→Mem→Prop) (rest:Sch) (E:Env) (m:Mem):rD (okQ c.ntmps E) ops (fun EK op=>oC tt EK s.m op) (WHQ c0 c s P ops Q rest E m) where
 step {o EK p φ d rest'} hp hφ ho hlt hg hk:=WHQ.take ho hlt (fun a hek hs=>by
  obtain ⟨v,hv,hrun⟩:=er (iY (P:=P) htt hp hφ) hek hs
  exact ⟨v,hv, .inl ⟨by simp [Region.wanted,hg],hrun⟩⟩) hk
 gstep {o EK p φ d j g want x rest'} hp hφ ho hlt hg hj hx hb hk:=WHQ.take ho hlt (fun a hek hs=>by
  obtain ⟨v,hv,hrun⟩:=er (iY (P:=P) htt hp hφ) hek hs
  refine ⟨v,hv, .inl ⟨?_,hrun⟩⟩
  have hbv:a.tmps.getD g undef= .bool want:=by
   have:=hek g
   rw [hb] at this
   exact this.d_inv.bool_inv
  rw [iO hg hj hx hbv]
  simp) hk
 goff {o EK q d j g want x rest'} hg hj hx hb hq ho hlt hk:=WHQ.take ho hlt (fun a hek hs=>by
  refine ⟨undef,hq _ _ _, .inr ⟨?_,rfl⟩⟩
  have hv:=hb _ _ _ _ (hek g)
  rw [Array.getD_eq_getD_getElem?] at hv
  cases ht:a.tmps[g]? with
  | none=>simp [Region.wanted,hg,yielded,hj,hx,ht]
  | some v=>
   rw [ht] at hv
   simp only [Option.getD_some] at hv
   rcases hv with rfl | rfl
   ·simp [Region.wanted,hg,yielded,hj,hx,ht,undef]
   ·cases want <;> simp [Region.wanted,hg,yielded,hj,hx,ht]) hk
 weak hW hk:=fun is his hs hsel hp a w listed hB hr hek=>hk is his hs hsel hp a w listed hB hr ⟨fun t=>hW _ _ _ _ t (hek t),hek.glob⟩
def pO (ops:List Oper):List Nat→Option (List Oper)
 | []=>some []
 | i::is=>match nth ops i with
  | some o=>match pO ops is with
   | some l=>some (o::l)
   | none=>none
  | none=>none
theorem kM {ops:Array Oper} :∀ {is:List Nat} {l:List Oper},pO ops.toList is=some l→is.map (fun i=>ops[i]?)=l.map some
 | [],l,h=>by simp only [pO,Option.some.injEq] at h;subst h;rfl
 | i::is,l,h=>by
  simp only [pO] at h
  split at h
  ·rename_i o ho
   split at h
   ·rename_i l' hl
    injection h with h
    subst h
    rw [ep,Array.getElem?_toList] at ho
    simp only [List.map_cons,ho,kM hl]
   ·cases h
  ·cases h
def pP:Nat→Sch→Option (List Nat×Sch)
 | 0,l=>some ([],l)
 | n+1, .one i true l=>match pP n l with
  | some (is,r)=>some (i::is,r)
  | none=>none
 | _+1,_=>none
theorem kN:∀ {n:Nat} {l:Sch} {is:List Nat} {r:Sch},pP n l=some (is,r)→l=Sch.qs is r
 | 0,l,is,r,h=>by simp only [pP,Option.some.injEq,Prod.mk.injEq] at h;obtain ⟨rfl,rfl⟩:=h;rfl
 | n+1, .one i true l,is,r,h=>by
  simp only [pP] at h
  split at h
  ·rename_i is' r' hl
   simp only [Option.some.injEq,Prod.mk.injEq] at h
   obtain ⟨rfl,rfl⟩:=h
   rw [kN hl]
   rfl
  ·cases h
 | n+1, .one i false l,is,r,h=>by cases h
 | n+1, .done,is,r,h=>by cases h
 | n+1, .fork _ _,is,r,h=>by cases h
section
variable {tt:List (Nat×TK)} {sch rest:Sch} {is:List Nat} {l:List Oper} {ψ:Prop} {EK':Env}
theorem WH.run (n:Nat) (htt:ttOK P tt=true) (hq:pP n sch=some (is,rest)) (hl:pO ops.toList is=some l) (h:i0 (fun EK op=>oC tt EK s.m op) l EK=some (ψ,EK')) (hd:jH (okQ c.ntmps E) l=true) (hψ:ψ) (hk:WH true c0 c s P ops Q rest EK' E m):WH true c0 c s P ops Q sch EK E m:=by
 rw [kN hq]
 have:=i1 (rest:=[]) (WHQ.steps htt c0 c s ops Q rest E m) h hψ hd (fun is his=>by
  cases is with
  | nil=>exact hk
  | cons i is=>cases his)
 rw [List.append_nil] at this
 exact this is (kM hl)
theorem WH.sect (n j:Nat) (want:Bool) {b:Bool} (htt:ttOK P tt=true) (hq:pP n sch=some (is,rest)) (hl:pO ops.toList is=some l) (h:qP (fun EK op=>oC tt EK s.m op) ops j want l EK=some (ψ,b,EK')) (hd:jH (okQ c.ntmps E) l=true) (hψ:b=true→ψ) (hk:WH true c0 c s P ops Q rest EK' E m):WH true c0 c s P ops Q sch EK E m:=by
 rw [kN hq]
 have hlen:l.take l.length=l:=List.take_length
 have:=oE (l:=l) (WHQ.steps htt c0 c s ops Q rest E m) l.length j want (by rw [hlen];exact h) (by rw [hlen];exact hd) hψ (by
  rw [List.drop_length]
  intro is his
  cases is with
  | nil=>exact hk
  | cons i is=>cases his)
 exact this is (kM hl)
end
def Env.del (d:Nat):Env→Env
 | []=>[]
 | (k,v)::l=>cond (Nat.beq k d) (Env.del d l) ((k,v)::Env.del d l)
theorem Env.get_del (d t:Nat):∀ E:Env,(E.del d).get t=if d=t then .und else E.get t
 | []=>by simp [Env.del,Env.get]
 | (k,v)::l=>by
  simp only [Env.del]
  cases hk:Nat.beq k d with
  | true=>
   have:=Nat.eq_of_beq_eq_true hk
   subst this
   simp only [cond_true,Env.get_del k t l]
   by_cases h:k=t
   ·simp [h]
   ·rw [if_neg h,if_neg h]
    simp only [Env.get]
    cases e:Nat.beq k t with
    | true=>exact absurd (Nat.eq_of_beq_eq_true e) h
    | false=>rfl
  | false=>
   simp only [cond_false,Env.get]
   cases e:Nat.beq k t with
   | true=>
    have:=Nat.eq_of_beq_eq_true e
    subst this
    rw [if_neg (fun h=>by rw [h,Nat.beq_refl] at hk;cases hk)]
    rfl
   | false=>exact Env.get_del d t l
def pQ (E':Env):Env→Env
 | []=>[]
 | (k,_)::l=>match E'.get k with
  | v=>(k,v)::pQ E' l
theorem i5 {E':Env} :∀ (E:Env) (t:Nat),(pQ E' E).get t= .und∨(pQ E' E).get t=E'.get t
 | [],t=> .inl rfl
 | (k,v)::l,t=>by
  simp only [pQ,Env.get]
  cases e:Nat.beq k t with
  | true=>exact .inr (by rw [Nat.eq_of_beq_eq_true e];rfl)
  | false=>exact i5 l t
def ft (dst:Option Nat) (E' EK E:Env):Option (Env×Env):=
 match dst with
 | none=>match eC (pQ E' E) with
  | some l=>some (EK,l)
  | none=>none
 | some d=>match E'.get d with
  | p=>match p.bare with
   | true=>match eC (pQ E' (E.del d)) with
    | some l=>some ((d,p)::EK,l)
    | none=>none
   | false=>match eC (EK.del d),eC (pQ E' (E.del d)) with
    | some k,some l=>some (k,(d,p)::l)
    | _,_=>none
theorem Rel.sub {a:Act} {w:World} (h:Rel c E m a w) {E2:Env} (hs:∀ t,E2.get t= .und∨E2.get t=E.get t):Rel c E2 m a w:=by
 obtain ⟨h1,h2,F,N,hm,he⟩:=h
 refine ⟨h1,h2,F,N,hm,⟨fun t=>?_,he.glob⟩⟩
 rcases hs t with h | h
 ·rw [h];exact .und
 ·rw [h];exact he t
theorem oO {o:Oper} {EK2 E2:Env} (h:ft o.dst E' EK E=some (EK2,E2)) {F:Nat→Prop} {N:aI} {w0:World} {a:Act} {v:Value} {w:World} (hr:Rel c E' m' (a.put o.dst v) w) (hek:cg F N w0 a EK):Rel c E2 m' (a.put o.dst v) w∧cg F N w0 (a.put o.dst v) EK2:=by
 unfold ft at h
 split at h
 ·rename_i hd
  split at h
  ·rename_i l hl
   simp only [Option.some.injEq,Prod.mk.injEq] at h
   obtain ⟨rfl,rfl⟩:=h
   rw [bt hl]
   refine ⟨hr.sub (i5 E),?_⟩
   rw [hd]
   exact hek
  ·cases h
 ·rename_i d hd
  rw [hd] at hr ⊢
  simp only [] at h
  have other:∀ t,t≠d→(a.put (some d) v).tmps.getD t undef=a.tmps.getD t undef:=fun t ht=>by
   simp only [Act.put]
   rw [kE,if_neg (fun h=>ht h.1.symm)]
  split at h
  ·rename_i hb
   split at h
   ·rename_i l hl
    simp only [Option.some.injEq,Prod.mk.injEq] at h
    obtain ⟨rfl,rfl⟩:=h
    rw [bt hl]
    refine ⟨hr.sub (i5 _),⟨fun t=>?_,hek.glob⟩⟩
    simp only [Env.get]
    cases e:Nat.beq d t with
    | true=>
     have:=Nat.eq_of_beq_eq_true e
     subst this
     obtain ⟨_,_,F',N',_,he⟩:=hr
     exact (he d).bare hb
    | false=>
     rw [other t (fun h=>by rw [h,Nat.beq_refl] at e;cases e)]
     exact hek t
   ·cases h
  ·split at h
   ·rename_i k l hk hl
    simp only [Option.some.injEq,Prod.mk.injEq] at h
    obtain ⟨rfl,rfl⟩:=h
    rw [bt hl,bt hk]
    refine ⟨hr.sub (fun t=>?_),⟨fun t=>?_,hek.glob⟩⟩
    ·simp only [Env.get]
     cases e:Nat.beq d t with
     | true=>exact .inr (by rw [Nat.eq_of_beq_eq_true e];rfl)
     | false=>exact i5 _ t
    ·rw [Env.get_del]
     by_cases h:d=t
     ·rw [if_pos h];exact .und
     ·rw [if_neg h,other t (fun e=>h e.symm)]
      exact hek t
   ·cases h
theorem WH.step {i:Nat} {o:Oper} {sch:Sch} {EK2 E2:Env} (hi:nth ops.toList i=some o) (hs:WO c P o (EK++E) m E' m') (hg:o.guard=none) (hf:fR c.P0 EK=true) (h2:ft o.dst E' EK E=some (EK2,E2)) (hk:WH true c0 c s P ops Q sch EK2 E2 m'):WH tp c0 c s P ops Q (.one i false sch) EK E m:=fun hst hsel hp a w listed hB hr hek=>by
 rw [ep,Array.getElem?_toList] at hi
 refine ny hB fun hB2=>?_
 unfold wpOp
 simp only [hi]
 rw [show Region.wanted o (yielded ops a.tmps)=true by simp [Region.wanted,hg],if_pos rfl]
 refine .inl (hs _ _ a w (hst.both hr hek hf) fun v a' w' ha hr'=>?_)
 subst ha
 obtain ⟨k1,k2⟩:=oO h2 hr' hek
 exact ⟨hr'.ks,hk hst hsel hp _ _ _ hB2 k1 k2⟩
theorem WH.gstep {i j g:Nat} {want:Bool} {o x:Oper} {sch:Sch} {EK2 E2:Env} (hi:nth ops.toList i=some o) (hs:WO c P o (EK++E) m E' m') (hg:o.guard=some (j,want)) (hj:nth ops.toList j=some x) (hx:x.dst=some g) (hb:EK.get g= .d (.bool want)) (hf:fR c.P0 EK=true) (h2:ft o.dst E' EK E=some (EK2,E2)) (hk:WH true c0 c s P ops Q sch EK2 E2 m'):WH tp c0 c s P ops Q (.one i false sch) EK E m:=fun hst hsel hp a w listed hB hr hek=>by
 rw [ep,Array.getElem?_toList] at hi hj
 refine ny hB fun hB2=>?_
 have hbv:a.tmps.getD g undef= .bool want:=by
  have:=hek g
  rw [hb] at this
  exact this.d_inv.bool_inv
 unfold wpOp
 simp only [hi]
 rw [iO hg hj hx hbv,if_pos (by simp)]
 refine .inl (hs _ _ a w (hst.both hr hek hf) fun v a' w' ha hr'=>?_)
 subst ha
 obtain ⟨k1,k2⟩:=oO h2 hr' hek
 exact ⟨hr'.ks,hk hst hsel hp _ _ _ hB2 k1 k2⟩
theorem WH.split {sch:Sch} {g:Nat} {b:Bool} (hb:EK.get g= .d (.bool b)) (ht:b=true→WH tp c0 c s P ops Q sch ((g, .d (.bool true))::EK) E m) (hf:b=false→WH tp c0 c s P ops Q sch ((g, .d (.bool false))::EK) E m):WH tp c0 c s P ops Q sch EK E m:=fun hst hsel hp a w listed hB hr hek=>by
 have up:∀ v,b=v→cg s.F s.N s.w a ((g, .d (.bool v))::EK):=fun v hv=>by
  refine ⟨fun t=>?_,hek.glob⟩
  simp only [Env.get]
  cases e:Nat.beq g t with
  | true=>
   have:=Nat.eq_of_beq_eq_true e
   subst this
   have:=hek g
   rw [hb,hv] at this
   exact this
  | false=>exact hek t
 cases b with
 | true=>exact ht rfl hst hsel hp a w listed hB hr (up true rfl)
 | false=>exact hf rfl hst hsel hp a w listed hB hr (up false rfl)
end
def pR (ks:List Nat):Mem→Option Mem
 | []=>some []
 | (k,o)::l=>match pR ks l with
  | none=>none
  | some l'=>match inl ks k with
   | true=>some ((k,o)::l')
   | false=>some l'
theorem lk {ks:List Nat} :∀ {m m':Mem},pR ks m=some m'→∀ n o,m'.get n=some o→m.get n=some o∧inl ks n=true
 | [],m',h,n,o,hn=>by simp only [pR,Option.some.injEq] at h;subst h;cases hn
 | (k,x)::l,m',h,n,o,hn=>by
  simp only [pR] at h
  split at h
  ·cases h
  ·rename_i l' hl
   simp only [Mem.get]
   split at h
   ·rename_i hk
    injection h with h
    subst h
    simp only [Mem.get] at hn
    cases e:Nat.beq k n with
    | true=>
     rw [e] at hn
     simp only [cond_true] at hn ⊢
     exact ⟨hn,by rw [←Nat.eq_of_beq_eq_true e];exact hk⟩
    | false=>
     rw [e] at hn
     exact lk hl n o hn
   ·rename_i hk
    injection h with h
    subst h
    have:=lk hl n o hn
    cases e:Nat.beq k n with
    | true=>rw [Nat.eq_of_beq_eq_true e,this.2] at hk;cases hk
    | false=>exact this
def Env.parts (P0:List Nat):Env→List Nat→Env×Env
 | [],_=>([],[])
 | (k,v)::l,seen=>cond (inl seen k) (Env.parts P0 l seen) (match v.fast P0 with
  | true=>match Env.parts P0 l (k::seen) with
   | (a,b)=>((k,v)::a,b)
  | false=>match Env.parts P0 l (k::seen) with
   | (a,b)=>(a,(k,v)::b))
theorem WC.heldS {c:Ctx} {P:Program} {Q:Exit→Env→Mem→Prop} {E EK E2:Env} {m mK:Mem} {id:Nat} {l:List Oper} (sch:Sch) (P0 ks:List Nat) (hm:P.follows .mixedOrders=true) (hsel:Region.noSelect l.toArray=true) (hlen:Nat.beq sch.len l.length=true) (hB:schB l.toArray sch true (Array.replicate l.length false)=true)
  (hP0:c.P0.all (fun n=>inl P0 n)=true) (hKN:c.KN=[]) (hK:∀ b,c.K b→False) (hmK:pR ks m=some mK) (hks:mK.all (fun p=>inl ks p.1)=true)
  (h1:∀ t,EK.get t= .und∨EK.get t=E.get t) (h2:∀ t,E2.get t= .und∨E2.get t=E.get t) (hp:∀ ch E m,Q (.panic ch) E m→Q (.panic ch) [] [])
  (h:∀ FK NK wK K,WH true c {w0:=c.w0,F0:=FK,S0:=c.S0,ntmps:=c.ntmps,dfs:=c.dfs,P0:=P0,B0:=NK,K:=K,wK:=wK,KN:=ks} ⟨FK,NK,wK,mK⟩ P l.toArray Q sch EK E2 m):WC c P (.region id l.toArray true) Q E m:=fun a w hr=>by
 have hlen':=Nat.eq_of_beq_eq_true hlen
 refine wp_region_held (S:=KS {w0:=c.w0,F0:=fun _=>False,S0:=c.S0,ntmps:=c.ntmps,dfs:=c.dfs,P0:=P0,B0:=⟨fun _=>0,fun _=>undef⟩,K:=fun b=>True∧False,wK:=w,KN:=ks}) hm ?_
 have g:Grew w {w with drawn:=w.drawn+1} :=⟨rfl,rfl,rfl,Nat.le_refl _,fun _ _=>rfl⟩
 have hr:=hr.grew g
 generalize {w with drawn:=w.drawn+1} =w1 at hr
 obtain ⟨d1,d2,F,N,hmem,henv⟩:=hr
 have hmK':∀ n o,mK.get n=some o→m.get n=some o∧inl ks n=true:=lk hmK
 have memK:bX c F N w1 mK:=⟨hmem.F0,hmem.Fnew,hmem.Fin,hmem.os,hmem.tape,hmem.output,hmem.size,hmem.kept,fun n o hn=>hmem.obj n o (hmK' n o hn).1,fun n o b hn=>hmem.free n o b (hmK' n o hn).1,fun n n' o o' b hn hn'=>hmem.apart n n' o o' b (hmK' n o hn).1 (hmK' n' o' hn').1,hmem.named,hmem.agree,fun n o b hn=>hmem.knames n o b (hmK' n o hn).1,hmem.ksize⟩
 let K:Nat→Prop:=fun b=>F b∨∃ n o,mK.get n=some o∧blk N n o=some b
 let c':Ctx:= {w0:=c.w0,F0:=F,S0:=c.S0,ntmps:=c.ntmps,dfs:=c.dfs,P0:=P0,B0:=N,K:=K,wK:=w1,KN:=ks}
 have st:oN ⟨F,N,w1,mK⟩ c c':= {
  mem:=⟨c,memK⟩
  wK:=rfl
  K:=fun b hb=> .inl hb
  Km:=fun n o b hn hb=> .inr ⟨n,o,hn,hb⟩
  β:=fun n hn=>⟨rfl,fun _=>rfl⟩
  F0:=fun b hb=>hb
  back:=by
   rintro E' m' a' w' ⟨e1,e2,F',N',hm',he'⟩
   refine ⟨e1,e2,F',N',⟨fun b hb=>hm'.F0 b (hmem.F0 b hb),fun b hb=>?_,hm'.Fin,hm'.os,hm'.tape,hm'.output,hm'.size,hm'.kept,hm'.obj,hm'.free,hm'.apart,fun n hn=>?_,fun b hb=>(hK b hb).elim,fun n o b hn hb hk=>(hK b hk).elim,?_⟩,he'⟩
   ·rcases hm'.Fnew b hb with h1 | h1
    ·exact hmem.Fnew b h1
    ·exact .inr h1
   ·have:=List.all_eq_true.1 hP0 n (kY hn)
    have e1:=hm'.named n this
    have e2:=hmem.named n hn
    exact ⟨e1.1.trans e2.1,fun hp=>(e1.2 (List.all_eq_true.1 hP0 _ (kY hp))).trans (e2.2 hp)⟩
   ·exact Nat.le_trans hmem.ksize hm'.ksize}
 have rel:Rel c' E m a w1:=⟨d1,d2,F,N,⟨fun b hb=>hb,fun b hb=> .inl hb,hmem.Fin,hmem.os,hmem.tape,hmem.output,hmem.size,hmem.kept,hmem.obj,fun n o b hn hb=>⟨(hmem.free n o b hn hb).1,(hmem.free n o b hn hb).2⟩,hmem.apart,fun _ _=>⟨rfl,fun _=>rfl⟩,fun _ _ _=>rfl,fun n o b hn hb hk hl=>?_,Nat.le_refl _⟩,henv⟩
 ·have:=h F N w1 K st hsel hp a w1 (Array.replicate l.length false) hB (rel.sub h2) ⟨fun t=>by
   rcases h1 t with e | e
   ·rw [e];exact .und
   ·rw [e];exact henv t,henv.glob⟩
  rw [hlen'] at this
  have key:∀ (n:Nat) (listed:Array Bool) (a:Act) (w2:World),wpAnyH P .any l.toArray (lift c Q) (KS c') n listed a w2→wpAnyH P .any l.toArray (lift c Q) (KS {w0:=c.w0,F0:=fun _=>False,S0:=c.S0,ntmps:=c.ntmps,dfs:=c.dfs,P0:=P0,B0:=⟨fun _=>0,fun _=>undef⟩,K:=fun b=>True∧False,wK:=w,KN:=ks}) n listed a w2:=by
   intro n
   induction n with
   | zero=>intro listed a w2 h;exact h
   | succ n ih=>
    intro listed a w2 h
    exact ⟨h.1,fun i hi=>wpOp_mono (fun a' w' h'=>⟨fun b hb=>hb.2.elim,ih _ a' w' h'.2⟩) (h.2 i hi)⟩
  have hz:l.toArray.size=l.length:=by simp
  rw [hz]
  exact key _ _ _ _ this
 ·rcases hk with h1 | ⟨n',o',hn',hb'⟩
  ·exact absurd h1 (hmem.free n o b hn hb).1
  ·have:=hmem.apart n n' o o' b hn (hmK' n' o' hn').1 hb hb'
   subst this
   exact (hmK' n o' hn').2
end LJ
