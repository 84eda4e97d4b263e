/- A logic for the walks: rows: append, literals, what is given away; structs built; conversions. -/
import Derived.Test.YtpnnkehkjfciiaaGreatDoorXWr
namespace LJ
open Go Go.RowKit
set_option linter.unusedVariables false
set_option linter.unusedSimpArgs false
def AV.frz (r:Nat) (es:List (List DV)):AV→AV
 | .own k=>cond (Nat.beq k r) (.d (.sl es)) (.own k)
 | .rel k o=>cond (Nat.beq k r) .und (.rel k o)
 | .rsl k o a b=>cond (Nat.beq k r) .und (.rsl k o a b)
 | .qel k o=>cond (Nat.beq k r) .und (.qel k o)
 | .tup _=> .und
 | p=>p
def Env.frz (r:Nat) (es:List (List DV)):Env→Env
 | []=>[]
 | (k,v)::l=>(k,v.frz r es)::Env.frz r es l
def AObj.frz (r:Nat) (es:List (List DV)):AObj→AObj
 | .box T cs=> .box T (cs.map (AV.frz r es))
 | .rowl E sz k c fs=> .rowl E sz k (cutN [r] c) fs
 | o=>o
def Mem.frz (r:Nat) (es:List (List DV)):Mem→Mem
 | []=>[]
 | (k,v)::l=>cond (Nat.beq k r) (Mem.frz r es l) ((k,v.frz r es)::Mem.frz r es l)
theorem Env.get_frz (r:Nat) (es:List (List DV)) (t:Nat):∀ E:Env,(E.frz r es).get t=(E.get t).frz r es
 | []=>rfl
 | (k,v)::l=>by
  simp only [Env.frz,Env.get]
  cases Nat.beq k t with
  | true=>rfl
  | false=>exact Env.get_frz r es t l
theorem Mem.get_frz (r:Nat) (es:List (List DV)):∀ (m:Mem) (k:Nat),(m.frz r es).get k=if k=r then none else (m.get k).map (AObj.frz r es)
 | [],k=>by simp [Mem.frz,Mem.get]
 | (j,o)::m,k=>by
  simp only [Mem.frz]
  cases e:Nat.beq j r with
  | true=>
   have hj:=Nat.eq_of_beq_eq_true e
   simp only [cond_true,Mem.get]
   rw [Mem.get_frz r es m k]
   by_cases hk:k=r
   ·simp [hk]
   ·have:Nat.beq j k=false:=by
     cases h:Nat.beq j k with
     | false=>rfl
     | true=>exact absurd ((Nat.eq_of_beq_eq_true h).symm.trans hj) hk
    simp [hk,this]
  | false=>
   have hj:=Nat.ne_of_beq_eq_false e
   simp only [cond_false,Mem.get]
   cases h:Nat.beq j k with
   | true=>
    have hjk:=Nat.eq_of_beq_eq_true h
    subst hjk
    simp [hj]
   | false=>
    simp only [cond_false]
    exact Mem.get_frz r es m k
theorem db.row_rep {F:Nat→Prop} {N:aI} {w:World} {r:Nat} {E':TypeId} {sz:Nat} {es:List (List DV)} (h:db F N w r (.row E' sz es)):RepD (fun b=>F b∨blk N r (.row E' sz es)=some b) w (N.σ r) (.sl es):=by
 have h0:=h
 obtain ⟨vs,⟨hl,h2⟩,hz,hr⟩:=h
 rcases h2 with ⟨h2,h3⟩ | ⟨g,cap,cur,h2,_,h4,h5,h6,h7,h8⟩
 ·have:es=[]:=List.eq_nil_of_length_eq_zero h3
  subst this
  rw [h2]
  exact .nil
 ·by_cases he:es=[]
  ·subst he
   rw [h2]
   exact .nil
  ·have hpos:0<es.length:=List.length_pos_iff.2 he
   rw [h2]
   have hcell:∀ (i j:Nat) (e:List DV) (d:DV),es[i]? =some e→e[j]? =some d→∃ v,w.cell? ⟨g,i*sz+j,none⟩=some v∧RepD F w v d:=
    fun i j e d hi hj=>h0.row_cell h2 (dw es sz i j e d hz hi hj)
   refine .sl (sz:=sz) (fun i j=>(w.cell? ⟨g,i*sz+j,none⟩).getD undef) rfl hpos h5 rfl (.inr (by show (N.σ r).ownBlock=some g;rw [h2];rfl)) (fun i e hi=>hz e (List.mem_of_getElem? hi)) (fun i j e d hi hj=>?_) (fun i j e d hi hj=>?_)
   ·obtain ⟨v,hv,_⟩:=hcell i j e d hi hj
    simp only [Nat.zero_add]
    rw [hv]
    rfl
   ·obtain ⟨v,hv,hd⟩:=hcell i j e d hi hj
    rw [hv]
    exact hd.mono (fun _ hb=> .inl hb) (fun _ _=>rfl)
theorem Rep.frz {F F':Nat→Prop} {N:aI} {w:World} {r:Nat} {es:List (List DV)} (hF:∀ b,F b→F' b) (hr:RepD F' w (N.σ r) (.sl es)) {v:Value} {p:AV} (h:Rep F N w v p):Rep F' N w v (p.frz r es):=by
 have h':Rep F' N w v p:=h.mono hF (fun _ _=>rfl)
 cases p with
 | own k=>
  simp only [AV.frz]
  cases e:Nat.beq k r with
  | true=>
   have:=Nat.eq_of_beq_eq_true e
   subst this
   rw [h.own_inv]
   exact .d hr
  | false=>exact h'
 | optp b k o=>exact h'
 | psl k o a b=>exact h'
 | rsl k o a b=>
  simp only [AV.frz]
  cases Nat.beq k r with
  | true=>exact .und
  | false=>exact h'
 | rel k o=>
  simp only [AV.frz]
  cases Nat.beq k r with
  | true=>exact .und
  | false=>exact h'
 | qel k o=>
  simp only [AV.frz]
  cases Nat.beq k r with
  | true=>exact .und
  | false=>exact h'
 | tup vs=>exact .und
 | d x=>exact h'
 | ptr n o=>exact h'
 | when b x=>exact h'
 | und=>exact h'
theorem bX.freeze {c:Ctx} {F:Nat→Prop} {N:aI} {w:World} {m:Mem} {r:Nat} {E':TypeId} {sz:Nat} {es:List (List DV)} (hn:m.get r=some (.row E' sz es)) (hm:bX c F N w m):bX c (fun b=>F b∨blk N r (.row E' sz es)=some b) N w (m.frz r es):=by
 have hh:=hm.obj r _ hn
 let F':Nat→Prop:=fun b=>F b∨blk N r (.row E' sz es)=some b
 have hF:∀ b,F b→F' b:=fun b hb=> .inl hb
 have hr:=hh.row_rep
 have get:∀ n o,(m.frz r es).get n=some o→n≠r∧∃ y,m.get n=some y∧o=y.frz r es:=by
  intro n o ho
  rw [Mem.get_frz] at ho
  split at ho
  ·cases ho
  ·rename_i hne
   obtain ⟨y,hy,rfl⟩:=Option.map_eq_some_iff.1 ho
   exact ⟨hne,y,hy,rfl⟩
 have blkf:∀ n (y:AObj),blk N n (y.frz r es)=blk N n y:=fun n y=>by cases y <;> rfl
 refine ⟨fun b hb=> .inl (hm.F0 b hb),?_,?_,hm.os,hm.tape,hm.output,hm.size,hm.kept,?_,?_,?_,hm.named,hm.agree,?_,hm.ksize⟩
 ·intro b hb
  rcases hb with hb | hb
  ·exact hm.Fnew b hb
  ·rcases (hm.free r _ b hn hb).2 with h3 | h3
   ·exact .inr (.inr h3)
   ·exact .inr (.inl h3)
 ·intro b hb
  rcases hb with hb | hb
  ·exact hm.Fin b hb
  ·exact hh.lt hb
 ·intro n o ho
  obtain ⟨hne,y,hy,rfl⟩:=get n o ho
  cases y with
  | box T cs=>
   obtain ⟨vs,g1,g2,g3⟩:=hm.obj n _ hy
   refine ⟨vs,g1,by simpa using g2,fun i v p hv hp=>?_⟩
   rw [List.getElem?_map] at hp
   obtain ⟨q,hq,rfl⟩:=Option.map_eq_some_iff.1 hp
   exact (g3 i v q hv hq).frz hF hr
  | row E2 sz2 es2=>
   obtain ⟨vs,g1,g2,g3⟩:=hm.obj n _ hy
   exact ⟨vs,g1,g2,fun i v x hv hx=>(g3 i v x hv hx).mono hF (fun _ _=>rfl)⟩
  | rowl E2 sz2 k2 c2 es2=>
   obtain ⟨vs,g1,g2,g3,g4,g5⟩:=hm.obj n _ hy
   refine ⟨vs,g1,g2,g3,fun i v x hv hx hi=>(g4 i v x hv hx hi).mono hF (fun _ _=>rfl),fun j hj he=>g5 j ?_ he⟩
   cases c2 with
   | none=>cases hj
   | some i=>
    have hj':cond (inl [r] i) none (some i)=some j:=hj
    cases hi:inl [r] i with
    | true=>rw [hi] at hj';cases hj'
    | false=>rw [hi] at hj';exact hj'
  | que E2 sz2 es2=>
   obtain ⟨vs,g1,g2,g3⟩:=hm.obj n _ hy
   exact ⟨vs,g1,g2,fun i v x hv hx=>(g3 i v x hv hx).mono hF (fun _ _=>rfl)⟩
 ·intro n o b ho hb
  obtain ⟨hne,y,hy,rfl⟩:=get n o ho
  rw [blkf] at hb
  refine ⟨fun hF'=>?_,(hm.free n y b hy hb).2⟩
  rcases hF' with hF' | hF'
  ·exact (hm.free n y b hy hb).1 hF'
  ·exact hne (hm.apart n r y _ b hy hn hb hF')
 ·intro n n' o o' b ho ho' hb hb'
  obtain ⟨hne,y,hy,rfl⟩:=get n o ho
  obtain ⟨hne',y',hy',rfl⟩:=get n' o' ho'
  rw [blkf] at hb hb'
  exact hm.apart n n' y y' b hy hy' hb hb'
 ·intro n o b ho hb
  obtain ⟨hne,y,hy,rfl⟩:=get n o ho
  rw [blkf] at hb
  exact hm.knames n y b hy hb
theorem Rel.freeze {c:Ctx} {E:Env} {m:Mem} {a:Act} {w:World} {r:Nat} {E':TypeId} {sz:Nat} {es:List (List DV)} (hn:m.get r=some (.row E' sz es)) (h:Rel c E m a w):Rel c (E.frz r es) (m.frz r es) a w:=by
 obtain ⟨h1,h2,F,N,hm,he⟩:=h
 exact ⟨h1,h2,_,N,hm.freeze hn,⟨fun t=>by rw [Env.get_frz];exact (he t).frz (fun b hb=> .inl hb) (hm.obj r _ hn).row_rep,he.glob.mono (fun b hb=> .inl hb) (fun _ _=>rfl)⟩⟩
section
variable {c:Ctx} {P:Program} {ops:Array Oper} {Q:Exit→Env→Mem→Prop} {E:Env} {m:Mem} {rest:List Oper} {o:Oper}
theorem Rel.nilrow {a:Act} {w:World} {t:Nat} (r:Nat) (E':TypeId) (sz:Nat) (ht:E.get t= .d .nils) (hP:inl c.P0 r=false) (hK:inl c.KN r=false) (h:Rel c E m a w):Rel c ((t, .own r)::E.forget [r]) ((r, .row E' sz [])::m.forget [r]) a w:=by
 obtain ⟨h1,h2,F,N,hm,he⟩:=h
 have hv:a.tmps.getD t undef= .slice none 0 0:=by have:=he t;rw [ht] at this;exact this.d_inv.nils_inv
 have hσ:(N.setσ r (.slice none 0 0)).σ r= .slice none 0 0:=by simp [aI.setσ]
 refine ⟨h1,h2,F,N.setσ r (.slice none 0 0),hm.renew (N.setσ_but r _) hP hK rfl rfl rfl (Nat.le_refl _) (fun _ _ _=>rfl) ⟨[],?_,(fun e h=>by cases h),fun i v x hv=>by simp at hv⟩ (fun b hb=>?_),⟨fun k=>?_,he.glob⟩⟩
 ·rw [hσ]
  exact World.ownsRow_nil w 0 E' sz
 ·have hb':((N.setσ r (.slice none 0 0)).σ r).ownBlock=some b:=hb
  rw [hσ] at hb'
  cases hb'
 ·simp only [Env.get]
  cases e:Nat.beq t k with
  | true=>
   have:=Nat.eq_of_beq_eq_true e
   subst this
   rw [hv]
   exact kZ hσ
  | false=>exact he.forget (N.setσ_but r _) (fun _ _=>rfl) k
theorem WC.nilrow {C:Code} {t:Nat} (r:Nat) (E':TypeId) (sz:Nat) (ht:E.get t= .d .nils) (hP:inl c.P0 r=false) (hK:inl c.KN r=false) (h:WC c P C Q ((t, .own r)::E.forget [r]) ((r, .row E' sz [])::m.forget [r])):WC c P C Q E m:=fun a w hr=>h a w (hr.nilrow r E' sz ht hP hK)
theorem Rel.nilcell {a:Act} {w:World} {n i:Nat} {T:TypeId} {cs:List AV} (r:Nat) (E':TypeId) (sz:Nat) (hn:m.get n=some (.box T cs)) (hi:cs[i]? =some (.d .nils)) (hnr:n≠r) (hP:inl c.P0 r=false) (hK:inl c.KN r=false) (hKn:inl c.KN n=false) (h:Rel c E m a w):
  Rel c (E.forget [r]) (Mem.set n (.box T ((cs.map (AV.forget [r])).set i (.own r))) ((r, .row E' sz [])::m.forget [r])) a w:=by
 obtain ⟨h1,h2,F,N,hm,he⟩:=h
 have hσ:(N.setσ r (.slice none 0 0)).σ r= .slice none 0 0:=by simp [aI.setσ]
 have hm':bX c F (N.setσ r (.slice none 0 0)) w ((r, .row E' sz [])::m.forget [r]):=hm.renew (N.setσ_but r _) hP hK rfl rfl rfl (Nat.le_refl _) (fun _ _ _=>rfl) ⟨[],by rw [hσ];exact World.ownsRow_nil w 0 E' sz,(fun e h=>by cases h),fun i v x hv=>by simp at hv⟩ (fun b hb=>by
  have hb':((N.setσ r (.slice none 0 0)).σ r).ownBlock=some b:=hb
  rw [hσ] at hb'
  cases hb')
 have hn':Mem.get ((r, .row E' sz [])::m.forget [r]) n=some (.box T (cs.map (AV.forget [r]))):=by
  have:Nat.beq r n=false:=by
   cases e:Nat.beq r n with
   | false=>rfl
   | true=>exact absurd (Nat.eq_of_beq_eq_true e).symm hnr
  simp only [Mem.get,this,cond_false]
  rw [Mem.get_forget,eB hnr,hn]
  simp [AObj.forget]
 refine ⟨h1,h2,F,_,hm'.write hn' hKn rfl rfl rfl (Nat.le_refl _) (fun _ _ _=>rfl) ?_ rfl,he.forget (N.setσ_but r _) (fun _ _=>rfl)⟩
 obtain ⟨vs,g1,g2,g3⟩:=hm'.obj n _ hn'
 refine ⟨vs,g1,by simpa using g2,fun j v p hv hp=>?_⟩
 rw [List.getElem?_set] at hp
 split at hp
 ·rename_i hij
  subst hij
  split at hp
  ·injection hp with hp
   subst hp
   have hcell:=g3 i v (.d .nils) hv (by rw [List.getElem?_map,hi];rfl)
   have:v= .slice none 0 0:=hcell.d_inv.nils_inv
   rw [this]
   exact kZ hσ
  ·cases hp
 ·exact g3 j v p hv hp
def elB (P:Program) (e:TypeId) (sz bytes:Nat):Bool:=
 match P.info? e with
 | some i=>Nat.beq i.size sz&&Nat.beq i.bytes bytes&&Nat.blt 0 sz&&(match i.zero with | some z=>Nat.beq z.cells.size sz | none=>false)
 | none=>false
theorem kG {e:TypeId} {sz bytes:Nat} (h:elB P e sz bytes=true):∃ i z,P.info? e=some i∧i.size=sz∧i.bytes=bytes∧0<sz∧i.zero=some z∧z.cells.size=sz:=by
 unfold elB at h
 split at h
 ·rename_i i hi
  simp only [Bool.and_eq_true] at h
  obtain ⟨⟨⟨h1,h2⟩,h3⟩,h4⟩:=h
  split at h4
  ·rename_i z hz
   exact ⟨i,z,hi,Nat.eq_of_beq_eq_true h1,Nat.eq_of_beq_eq_true h2,Nat.le_of_ble_eq_true h3,hz,Nat.eq_of_beq_eq_true h4⟩
  ·cases h4
 ·cases h
def sx (es:List (List DV)):Prop:=∀ e∈es,∀ d∈e,∀ ds,d≠ .agg ds
theorem bX.appended {F:Nat→Prop} {N:aI} {w w':World} {r:Nat} {e:TypeId} {sz:Nat} {es ys:List (List DV)} (hm:bX c F N w m) (hr:m.get r=some (.row e sz es)) (hP:inl c.P0 r=false) (hK:inl c.KN r=false) {v':Value} {vs us:List Value}
  (ho:w.ownsRow 0 e sz (N.σ r) es.length vs) (hvs:∀ (i:Nat) (v:Value) (x:DV),vs[i]? =some v→es.flatten[i]? =some x→RepD F w v x) (hz:∀ y∈ys,y.length=sz) (hze:∀ y∈es,y.length=sz)
  (hus:∀ (i:Nat) (v:Value) (x:DV),us[i]? =some v→ys.flatten[i]? =some x→RepD F w v x)
  (ho':w'.ownsRow 0 e sz v' (es.length+ys.length) (vs++us)) (hg:w.grownBy w' (N.σ r).ownBlock) (hat:v'.ownBlock=(N.σ r).ownBlock∨v'.ownBlock=some w.heap.size):
  bX c F (N.setσ r v') w' ((r, .row e sz (es++ys))::m.forget [r])∧∀ b,F b→w'.heap[b]? =w.heap[b]? :=by
 have hσ:(N.setσ r v').σ r=v':=by simp [aI.setσ]
 have hFk:∀ b,F b→w'.heap[b]? =w.heap[b]? :=fun b hb=>hg.block b (hm.Fin b hb) (fun he=>(hm.free r _ b hr he.symm).1 hb)
 refine ⟨hm.renew (N.setσ_but r _) hP hK hg.os hg.tape hg.output hg.size (fun b hb hne=>hg.block b hb (fun he=>hne _ hr he.symm)) ⟨vs++us,by rw [hσ,List.length_append];exact ho',?_,?_⟩ (fun b hb=>?_),hFk⟩
 ·intro y hy
  rcases List.mem_append.1 hy with h | h
  ·exact hze y h
  ·exact hz y h
 ·intro i v x hv hx
  rw [List.flatten_append] at hx
  have hfl:=bE es sz hze
  have hvl:vs.length=es.length*sz:=ho.1
  by_cases hi:i<vs.length
  ·rw [List.getElem?_append_left hi] at hv
   rw [List.getElem?_append_left (by omega)] at hx
   exact (hvs i v x hv hx).mono (fun _ h=>h) hFk
  ·rw [List.getElem?_append_right (by omega)] at hv hx
   rw [hfl] at hx
   rw [hvl] at hv
   exact (hus _ v x hv hx).mono (fun _ h=>h) hFk
 ·have hb':v'.ownBlock=some b:=by
   have:((N.setσ r v').σ r).ownBlock=some b:=hb
   rwa [hσ] at this
  rcases hat with h | h
  ·exact .inl ⟨_,hr,show (N.σ r).ownBlock=some b by rw [←h];exact hb'⟩
  ·rw [h] at hb'
   injection hb' with hb'
   exact .inr (by omega)
theorem iQ {F:Nat→Prop} {w:World} {us:List Value} {ds:List DV} (hl:us.length=ds.length) (hr:∀ (i:Nat) (v:Value) (x:DV),us[i]? =some v→ds[i]? =some x→RepD F w v x) (hd:∀ d∈ds,∀ es,d≠ .agg es):∀ u∈us,u.oneCell'=true:=by
 intro u hu
 obtain ⟨i,hi⟩:=List.getElem?_of_mem hu
 have hlt:i<ds.length:=by have:=(List.getElem?_eq_some_iff.1 hi).1;omega
 exact ((hr i u ds[i] hi (List.getElem?_eq_getElem hlt)).notAgg (hd ds[i] (List.getElem_mem hlt))).2
theorem WO.append {x y:Operand} {T e:TypeId} {sz bytes r q d:Nat} {es ys:List (List DV)} (hx:IsOp E x (.own r)) (hr:m.get r=some (.row e sz es)) (hy:IsOp E y (.own q)) {e2:TypeId} (hq:m.get q=some (.row e2 sz ys)) (ho:o.op= .call {callee:= .builtin .append,args:=#[x,y],argTypes:=#[T,T]})
  (hT:P.underlying T=some (.slice e)) (he:elB P e sz bytes=true) (hfl:sx ys) (hlen:(es.length+ys.length)*bytes≤140737488355328) (hml:es.length+ys.length≤140737488355328) (hP:inl c.P0 r=false) (hK:inl c.KN r=false) (hd:o.dst=some d) (hlt:Nat.blt d c.ntmps=true):WO c P o E m ((d, .own r)::E.forget [r]) ((r, .row e sz (es++ys))::m.forget [r]):=fun Q K a w hrel h=>by
 obtain ⟨h1,h2,F,N,hm,hE⟩:=hrel
 obtain ⟨i,z,hi,hs1,hs2,hs3,hs4,hs5⟩:=kG he
 obtain ⟨vs,k1,k2,k3⟩:=hm.obj r _ hr
 obtain ⟨us,l1,l2,l3⟩:=hm.obj q _ hq
 have hvx:=hx.own_eval hE
 have hvy:=hy.own_eval hE
 have hul:us.length=ys.flatten.length:=by rw [bE ys sz l2];exact l1.1
 have hone:∀ u∈us,u.oneCell'=true:=iQ hul l3 (fun d hd=>by
  obtain ⟨y,hy',hd'⟩:=List.mem_flatten.1 hd
  exact hfl y hy' d hd')
 have fin:∀ v' w',(Builtin.append_ #[T,T] o.type #[N.σ r,N.σ q]).run P w= .ok v' w'→bX c F (N.setσ r v') w' ((r, .row e sz (es++ys))::m.forget [r])→(∀ b,F b→w'.heap[b]? =w.heap[b]?)→o.wp P a w K Q:=by
  intro v' w' hrun hm' hFk
  have hrun':(execOp a.eval o).run P w= .ok (.value v') w':=by
   unfold execOp
   simp [ho,resolve,invoke,builtin,hvx,hvy,hrun]
  unfold Oper.wp
  rw [hrun',Oper.upon_value]
  exact h _ _ _ rfl (by rw [hd];exact Rel.put h1 h2 hm' (hE.forget (N.setσ_but r v') hFk) hlt (kZ (by simp [aI.setσ])))
 rcases l1.2 with ⟨g1,g2⟩ | ⟨g,cap,cur,g1,g2,g3,g4,g5,g6,g7⟩
 ·have hys:ys=[]:=List.eq_nil_of_length_eq_zero g2
  subst hys
  have hus:us=[]:=List.eq_nil_of_length_eq_zero (by simpa using hul)
  have hrun:=run_append_owned_none (P:=P) w 0 T o.type e i sz hT hi (N.σ r) es.length vs k1
  rw [←g1] at hrun
  have:=hm.appended hr hP hK k1 k3 (ys:=[]) (us:=[]) (by simp) k2 (fun i v x hv=>by simp at hv) (w':=w) (v':=N.σ r) (by simpa using k1) ⟨rfl,rfl,rfl,Nat.le_refl _,fun _ _ _=>rfl⟩ (.inl rfl)
  exact fin _ _ hrun this.1 this.2
 ·obtain ⟨v',w',q1,q2,q3,q4,q5⟩:=run_append_own_at (P:=P) w 0 T o.type e i z sz bytes hT hi hs4 hs1 hs2 hs5 hs3 (N.σ r) es.length vs k1 ⟨g,0,none⟩ ys.length cap us (by rw [hul,bE ys sz l2])
   (fun j u hj=>by
    rw [←g7,List.getElem?_take] at hj
    split at hj
    ·rw [Addr.add_lit]
     simp [World.cell?,g3]
     simpa using hj
    ·cases hj) hone (by simp only [maxLen];omega) hlen (Nat.zero_le _)
  rw [←g1] at q1
  have:=hm.appended hr hP hK k1 k3 (ys:=ys) (us:=us) l2 k2 l3 q2 q3 q5
  exact fin _ _ q1 this.1 this.2
end
end LJ
