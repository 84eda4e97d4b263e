/- A logic for the walks: a row of one's own whose last element holds, in one cell, another row of one's own (the code of the last function of a program that is read). -/
import Derived.Test.YtpnnkehkjfciiaaGreatDoorXQue
import Derived.Test.YtpnnkehkjfciiaaGreatDoorXIdx
namespace LJ
open Go Go.RowKit
set_option linter.unusedVariables false
set_option linter.unusedSimpArgs false
section
variable {P:Program} {c:Ctx} {ops:Array Oper} {Q:Exit→Env→Mem→Prop} {l:List Oper} {E E':Env} {m m':Mem} {o:Oper} {n:Nat} {es:List (List DV)}
theorem Y.idxL {α:Type} [Inhabited α] (enc:α→List DV) (L:List α) (i:Int) {x y:Operand} {k:IntKind} {T e sz r q:Nat} {c':Option Nat} {tt:List (Nat×TK)} (htt:ttOK P tt=true) (hT:cq tt T=some (.slice e sz)) (hx:opnd E x=some (.own r)) (hn:m.get r=some (.rowl e sz q c' (L.map enc))) (hy:opnd E y=some (.d (.int k i))) (ho:o.op= .indexAddr T x y) (hi:0≤i∧i<L.length):LJ.aF P o E m (.rel r (i.toNat*sz)):=fun c F N w a hm he=>by
 obtain ⟨ti,g1,g2,g3⟩:=bd (TK.slice_ok (aR htt hT))
 obtain ⟨vs,⟨_,h2⟩,_⟩:=hm.obj r _ hn
 have hy':=(aA hy).int_eval he
 have h0:=hi.1
 have h1:i<(L.length:Int):=hi.2
 rw [List.length_map] at h2
 rcases h2 with ⟨_,h2⟩ | ⟨g,cap,cur,h2,_,h4,h5,_⟩
 ·omega
 ·refine ⟨.pointer (some ⟨g,i.toNat*sz,none⟩), .rel h2,fun w' _ _=>?_⟩
  have hx':=(aA hx).own_eval he
  unfold execOp
  simp [ho,hx',h2,hy',Instr.indexAt,run_underlying g1,asIntOf,h0,h1,bM g2,g3,Addr.add_lit]
theorem db.rowl_cell {F:Nat→Prop} {N:aI} {w:World} {E':TypeId} {sz' k g l c':Nat} {j:Nat} (h:db F N w n (.rowl E' sz' k (some j) es)) (hg:N.σ n= .slice (some ⟨g,0,none⟩) l c') (hne:es≠[]):w.cell? ⟨g,(es.length - 1)*sz'+k,none⟩=some (N.σ j):=by
 obtain ⟨vs,⟨hl,h2⟩,hz,hk,hr,hj⟩:=h
 have hv:=hj j rfl hne
 rcases h2 with ⟨h2,_⟩ | ⟨g',cap,cur,h2,_,h4,h5,h6,h7,h8⟩
 ·rw [hg] at h2;cases h2
 ·rw [hg] at h2
  injection h2 with h2 _ _
  injection h2 with h2
  injection h2 with h2 _ _
  subst h2
  have hlt:=(List.getElem?_eq_some_iff.1 hv).1
  rw [←h8,List.getElem?_take,if_pos (by omega)] at hv
  simp [World.cell?,h4]
  simpa using hv
theorem Y.loadL {E':TypeId} {sz k off j:Nat} {x:Operand} {T:TypeId} (hx:opnd E x=some (.rel n off)) (hn:m.get n=some (.rowl E' sz k (some j) es)) (hne:es≠[]) (hoff:off=(es.length - 1)*sz+k) (ho:o.op= .load T x) (hT:oneB P T=true):LJ.aF P o E m (.own j):=fun c F N w a hm he=>by
 have hr:=(aA hx) F N w a he
 generalize hv:a.eval x=v at hr
 cases hr with
 | rel hg=>
  subst hoff
  have h1:=(hm.obj n _ hn).rowl_cell hg hne
  refine ⟨N.σ j, .own,fun w' _ hw=>?_⟩
  have hv':=(cn (hw n _ _ hn (by show (N.σ n).ownBlock=some _;rw [hg];rfl))).trans h1
  unfold execOp;simp [ho,hv,Instr.loadAt,Instr.sureAddr,dI hT hv']
theorem xG {L sz k i:Nat} (hL:0<L) (h:i≠(L - 1)*sz+k):i+sz≠L*sz+k:=fun e=>h (by
 have:L*sz=(L - 1)*sz+sz:=by
  conv=>lhs;rw [show L=(L - 1)+1 by omega]
  rw [Nat.succ_mul]
 omega)
theorem wV {L sz k:Nat} (hL:0<L):(L - 1)*sz+k+sz=L*sz+k:=by
 have:L*sz=(L - 1)*sz+sz:=by
  conv=>lhs;rw [show L=(L - 1)+1 by omega]
  rw [Nat.succ_mul]
 omega
theorem Rel.toRowl {a:Act} {w:World} (r j:Nat) {e ei szi sz k:Nat} {es es':List (List DV)} (hn:m.get r=some (.row e sz es)) (hrj:r≠j) (hP:inl c.P0 j=false) (hKj:inl c.KN j=false) (hKr:inl c.KN r=false) (hl:es'.length=es.length) (hz:∀ x∈es',x.length=sz) (hk:k<sz) (hag:∀ i,i+sz≠es.length*sz+k→es'.flatten[i]? =es.flatten[i]?) (hnil:es≠[]→es.flatten[(es.length - 1)*sz+k]? =some .nils) (h:Rel c E m a w):
  Rel c (E.forget [j]) (Mem.set r (.rowl e sz k (some j) es') ((j, .row ei szi [])::m.forget [j])) a w:=by
 obtain ⟨h1,h2,F,N,hm,he⟩:=h
 have hσ:(N.setσ j (.slice none 0 0)).σ j= .slice none 0 0:=by simp [aI.setσ]
 have hm':bX c F (N.setσ j (.slice none 0 0)) w ((j, .row ei szi [])::m.forget [j]):=hm.renew (N.setσ_but j _) hP hKj rfl rfl rfl (Nat.le_refl _) (fun _ _ _=>rfl) ⟨[],by rw [hσ];exact World.ownsRow_nil w 0 ei szi,(fun e h=>by cases h),fun i v x hv=>by simp at hv⟩ (fun b hb=>by
  have hb':((N.setσ j (.slice none 0 0)).σ j).ownBlock=some b:=hb
  rw [hσ] at hb'
  cases hb')
 have hn':Mem.get ((j, .row ei szi [])::m.forget [j]) r=some (.row e sz es):=by
  have:Nat.beq j r=false:=by
   cases e:Nat.beq j r with
   | false=>rfl
   | true=>exact absurd (Nat.eq_of_beq_eq_true e).symm hrj
  simp only [Mem.get,this,cond_false]
  rw [Mem.get_forget,eB hrj,hn]
  simp [AObj.forget]
 refine ⟨h1,h2,F,_,hm'.write hn' hKr rfl rfl rfl (Nat.le_refl _) (fun _ _ _=>rfl) ?_ rfl,he.forget (N.setσ_but j _) (fun _ _=>rfl)⟩
 obtain ⟨vs,g1,g2,g3⟩:=hm'.obj r _ hn'
 refine ⟨vs,by rw [hl];exact g1,hz,hk,fun i v x hv hx hi=>?_,fun q hq hne=>?_⟩
 ·rw [hl] at hi
  rw [hag i hi] at hx
  exact g3 i v x hv hx
 ·cases hq
  have hes:es≠[]:=fun h=>hne (List.eq_nil_of_length_eq_zero (by rw [hl,h];rfl))
  have hc:=hnil hes
  have hlt:=(List.getElem?_eq_some_iff.1 hc).1
  rw [bE es sz g2] at hlt
  obtain ⟨v,hv⟩:∃ v,vs[(es.length - 1)*sz+k]? =some v:=⟨_,List.getElem?_eq_getElem (by rw [g1.1];exact hlt)⟩
  have:=(g3 _ v _ hv hc).nils_inv
  rw [hl,hv,this,hσ]
theorem Rel.freezeL {a:Act} {w:World} (r j:Nat) {e ei szi sz k:Nat} {es ej:List (List DV)} (hn:m.get r=some (.rowl e sz k (some j) es)) (hj:m.get j=some (.row ei szi ej)) (hrj:r≠j) (hKr:inl c.KN r=false) (hd:∀ F w v d,es≠[]→es.flatten[(es.length - 1)*sz+k]? =some d→RepD F w v (.sl ej)→RepD F w v d) (h:Rel c E m a w):Rel c (E.frz j ej) (Mem.set r (.row e sz es) (m.frz j ej)) a w:=by
 obtain ⟨h1,h2,F,N,hm,he⟩:=h
 have hrep:=(hm.obj j _ hj).row_rep
 obtain ⟨vs,g1,g2,g3,g4,g5⟩:=hm.obj r _ hn
 have hm':=hm.freeze hj
 have hn':(m.frz j ej).get r=some (.rowl e sz k (cutN [j] (some j)) es):=by
  rw [Mem.get_frz,if_neg hrj,hn];rfl
 refine ⟨h1,h2,_,N,hm'.write hn' hKr rfl rfl rfl (Nat.le_refl _) (fun _ _ _=>rfl) ⟨vs,g1,g2,fun i v x hv hx=>?_⟩ rfl,⟨fun t=>by rw [Env.get_frz];exact (he t).frz (fun b hb=> .inl hb) hrep,he.glob.mono (fun b hb=> .inl hb) (fun _ _=>rfl)⟩⟩
 by_cases hne:es=[]
 ·subst hne
  simp at hx
 ·have hpos:0<es.length:=List.length_pos_iff.2 hne
  by_cases hi:i=(es.length - 1)*sz+k
  ·subst hi
   rw [g5 j rfl hne] at hv
   cases hv
   exact hd _ w _ x hne hx hrep
  ·exact (g4 i v x hv hx (xG hpos hi)).mono (fun b hb=> .inl hb) (fun _ _=>rfl)
theorem WO.storeL {r j off k:Nat} {es es' ej:List (List DV)} {x y:Operand} {T e ei szi sz:Nat} {c':Option Nat} (hx:opnd E x=some (.rel r off)) (hn:m.get r=some (.rowl e sz k c' es)) (hy:opnd E y=some (.own j)) (hj:m.get j=some (.row ei szi ej)) (hne:es≠[]) (hoff:off=(es.length - 1)*sz+k) (ho:o.op= .store T x y) (hsz:gA P T 1=true) (hK:inl c.KN r=false) (hd:o.dst=none) (hl':es'.length=es.length) (hz':∀ x∈es',x.length=sz) (hag:∀ i,i+sz≠es.length*sz+k→es'.flatten[i]? =es.flatten[i]?):WO c P o E m E (m.set r (.rowl e sz k (some j) es')):=fun Q K a w hrel h=>by
 subst hoff
 obtain ⟨h1,h2,F,N,hm,hE⟩:=hrel
 have hr:=(aA hx) F N w a hE
 have hvy:a.eval y=N.σ j:=(aA hy).own_eval hE
 obtain ⟨vj,gj,_⟩:=hm.obj j _ hj
 obtain ⟨aj,cj,hsl⟩:=fN gj
 have hcs:(a.eval y).cells=#[a.eval y]:=by rw [hvy,hsl];rfl
 have hone:(a.eval y).oneCell'=true:=by rw [hvy,hsl];rfl
 generalize hv:a.eval x=pv at hr
 have hobj:=hm.obj r _ hn
 obtain ⟨vs,⟨hl,hrow⟩,hlen,hk,hrep,hlink⟩:=hobj
 have hpos:0<es.length:=List.length_pos_iff.2 hne
 have hidx:=wV (sz:=sz) (k:=k) hpos
 have hlt:(es.length - 1)*sz+k<es.length*sz:=by omega
 cases hr with
 | @rel _ _ g ln cp hg=>
  rcases hrow with ⟨h3,h4⟩ | ⟨g',cap,cur,h3,_,h5,h6,h7,h8,h9⟩
  ·omega
  ·rw [hg] at h3
   injection h3 with h3 e3 e4
   injection h3 with h3
   injection h3 with h3 _ _
   subst h3
   subst e4
   have hcap:es.length*sz≤cp*sz:=Nat.mul_le_mul_right _ h6
   have hcells:(a.eval y).cells.toList=[a.eval y]:=by rw [hcs]
   have hb0:(es.length - 1)*sz+k+0+1≤cur.size:=by
    have:=h8
    omega
   obtain ⟨w',r1,r2,r3,r4,r5,r6,r7⟩:=fO (P:=P) g e (a.eval y).cells.toList 0 ((es.length - 1)*sz+k) cur w h5 (by rw [hcells];exact hb0) (by rw [hcells];intro u hu;rw [List.mem_singleton.1 hu];exact hone)
   rw [hcells] at r2
   simp only [Nat.add_zero,List.length_singleton] at r2
   have hsize:∀ w'':World,(Go.sizeOf T).run P w''= .ok (a.eval y).cells.size w'':=by
    intro w''
    unfold gA at hsz
    split at hsz
    ·rename_i ti hti
     rw [bM hti,Nat.eq_of_beq_eq_true hsz,hcs]
     rfl
    ·cases hsz
   have hrun:(execOp a.eval o).run P w= .ok .skip w':=by
    unfold execOp
    simp [ho,hv,Instr.storeAt,Instr.sureAddr,storeVar,hsize,r1]
   have hset:cur.toList.take ((es.length - 1)*sz+k)++[a.eval y]++cur.toList.drop ((es.length - 1)*sz+k+1)=cur.toList.set ((es.length - 1)*sz+k) (a.eval y):=by
    rw [List.set_eq_take_append_cons_drop,if_pos (by have:cur.toList.length=cur.size:=Array.length_toList;omega)]
    simp
   rw [hset] at r2
   have hσ:(N.σ r).ownBlock=some g:=by rw [hg];rfl
   have hFk:∀ b,F b→w'.heap[b]? =w.heap[b]? :=fun b hb=>r7 b (fun e=>(hm.free r _ b hn (by rw [e];exact hσ)).1 hb)
   have hm2:bX c F N w' (m.set r (.rowl e sz k (some j) es')):=by
    refine hm.write hn hK r3 r4 r5 (by omega) (fun b hb hne=>r7 b (fun e=>hne (by rw [e];exact hσ))) ⟨vs.set ((es.length - 1)*sz+k) (a.eval y),?_,hz',hk,fun i u d hu hd hi=>?_,fun q hq _=>?_⟩ rfl
    ·rw [hl']
     refine ⟨by rw [List.length_set];exact hl, .inr ⟨g,cp,_,by rw [hg,e3],Nat.zero_le _,r2,h6,h7,by simp only [List.size_toArray,List.length_set,Array.length_toList];exact h8,?_⟩⟩
     simp only [List.toList_toArray]
     rw [←h9,List.take_set]
    ·rw [hl'] at hi
     rw [hag i hi] at hd
     have hio:(es.length - 1)*sz+k≠i:=fun e=>hi (by rw [←e];exact hidx)
     rw [List.getElem?_set_ne hio] at hu
     exact (hrep i u d hu hd hi).mono (fun _ h=>h) hFk
    ·cases hq
     rw [hl',List.getElem?_set_self (by rw [hl];exact hlt),hvy]
   unfold Oper.wp
   rw [hrun,Oper.upon_skip]
   exact h undef _ _ rfl (by rw [hd];exact ⟨h1,h2,F,N,hm2,⟨fun t=>(hE t).mono' hFk,hE.glob.mono (fun _ h=>h) hFk⟩⟩)
theorem Rel.freezeLT {a:Act} {w:World} (r j:Nat) {e ei szi sz k:Nat} {es ej:List (List DV)} {d:DV} {m1:Mem} (hn:m.get r=some (.rowl e sz k (some j) es)) (hj:m.get j=some (.row ei szi ej)) (hrj:r≠j) (hKr:inl c.KN r=false) (hl:∀ x,es≠[]→es.flatten[(es.length - 1)*sz+k]? =some x→x=d) (hd:∀ F w v,RepD F w v (.sl ej)→RepD F w v d) (h1:frzE j d E=some E') (h2:frzM j d m=some m1) (h:Rel c E m a w):Rel c E' (m1.set r (.row e sz es)) a w:=by
 obtain ⟨g1,g2,F,N,hm,he⟩:=Rel.freezeL r j hn hj hrj hKr (fun F w v x hne hx hv=>by rw [hl x hne hx];exact hd F w v hv) h
 refine ⟨g1,g2,F,N,hm.mapObj fun n o' ho'=>?_,⟨fun t=>?_,he.glob⟩⟩
 ·rw [Mem.get_set] at ho'
  by_cases hnr:n=r
  ·subst hnr
   rw [if_pos rfl] at ho'
   obtain ⟨x,hx,rfl⟩:=Option.map_eq_some_iff.1 ho'
   refine ⟨.row e sz es,?_,rfl,id⟩
   rw [Mem.get_set,if_pos rfl,Mem.get_frz,if_neg hrj,hn]
   rfl
  ·rw [if_neg hnr] at ho'
   obtain ⟨hnj,o,ho,hcase⟩:=nD h2 n o' ho'
   refine ⟨o.frz j ej,?_,?_,?_⟩
   ·rw [Mem.get_set,if_neg hnr,Mem.get_frz,if_neg hnj,ho]
    rfl
   ·rcases hcase with ⟨E1,s1,e1,rfl | rfl,rfl⟩ | ⟨E1,s1,q1,c1,e1,rfl,rfl⟩ | ⟨T1,cs,cs',rfl,rfl,_⟩ <;> rfl
   ·rcases hcase with ⟨E1,s1,e1,rfl | rfl,rfl⟩ | ⟨E1,s1,q1,c1,e1,rfl,rfl⟩ | ⟨T1,cs,cs',rfl,rfl,hcs⟩
    ·exact id
    ·exact id
    ·exact id
    ·rintro ⟨vs,k1,k2,k3⟩
     obtain ⟨c1,c2⟩:=nC hcs
     refine ⟨vs,k1,by rw [k2,c1];simp,fun i v q hv hq=>?_⟩
     obtain ⟨p,hp⟩:∃ p,cs[i]? =some p:=by
      have:i<cs.length:=by rw [←c1];exact (List.getElem?_eq_some_iff.1 hq).1
      exact ⟨_,List.getElem?_eq_getElem this⟩
     exact kP (c2 i p q hp hq) (fun v=>hd F w v) (k3 i v (p.frz j ej) hv (by rw [List.getElem?_map,hp];rfl))
 ·have:=nB ej h1 t
  have h3:=he t
  rw [Env.get_frz] at h3
  exact kP this (fun v=>hd F w v) h3
theorem pr {α:Type} [Inhabited α] (enc:α→List DV) (L:List α) {sz k:Nat} (hz:∀ x,(enc x).length=sz) (hk:k<sz) (hne:L≠[]):(L.map enc).flatten[((L.map enc).length - 1)*sz+k]? =(enc (L.getD (L.length - 1) default))[k]? :=by
 have hpos:0<L.length:=List.length_pos_iff.2 hne
 rw [List.length_map]
 have hd:(enc (L.getD (L.length - 1) default))[k]? =some ((enc (L.getD (L.length - 1) default))[k]'(by rw [hz];exact hk)):=List.getElem?_eq_getElem _
 rw [hd]
 exact dw (L.map enc) sz (L.length - 1) k _ _ (fun e he=>by
  obtain ⟨x,_,rfl⟩:=List.mem_map.1 he
  exact hz x) (nH enc L (L.length - 1) (by omega)) hd
theorem WL.freezeL (r j:Nat) {α β:Type} [Inhabited α] [Inhabited β] (enc:α→List DV) (L:List α) (encj:β→List DV) (M:List β) {e ei szi sz k:Nat} {m1 m2:Mem} (hn:m.get r=some (.rowl e sz k (some j) (L.map enc))) (hj:m.get j=some (.row ei szi (M.map encj))) (hrj:Nat.beq r j=false) (hKr:inl c.KN r=false) (hz:∀ x,(enc x).length=sz) (hk:Nat.blt k sz=true) (hl:L≠[]→(enc (L.getD (L.length - 1) default))[k]? =some (slT encj M)) (h1:frzE j (slT encj M) E=some E') (h2:frzM j (slT encj M) m=some m1) (h3:eC (m1.set r (.row e sz (L.map enc)))=some m2) (hw:WL c P ops Q l E' m2):WL c P ops Q l E m:=fun a w hr=>hw a w (by
 rw [bt h3]
 refine Rel.freezeLT r j hn hj (Nat.ne_of_beq_eq_false hrj) hKr (fun x hne hx=>?_) (fun F w v hv=>hv.slT) h1 h2 hr
 have hL:L≠[]:=fun h=>hne (by rw [h];rfl)
 rw [pr enc L hz (Nat.le_of_ble_eq_true hk) hL,hl hL] at hx
 exact (Option.some.inj hx).symm)
theorem uB {cs ds:List DV} {k q:Nat} (h:cs.set k .nils=ds.set k .nils) (hq:q≠k):cs[q]? =ds[q]? :=by
 have h1:(cs.set k .nils)[q]? =cs[q]? :=List.getElem?_set_ne (fun e=>hq e.symm)
 have h2:(ds.set k .nils)[q]? =ds[q]? :=List.getElem?_set_ne (fun e=>hq e.symm)
 rw [←h1,←h2,h]
theorem pt {sz k:Nat} {A:List (List DV)} {cs ds:List DV} (hA:∀ x∈A,x.length=sz) (h:cs.set k .nils=ds.set k .nils) (i:Nat) (hi:i+sz≠(A.length+1)*sz+k):(A++[cs]).flatten[i]? =(A++[ds]).flatten[i]? :=by
 rw [List.flatten_append,List.flatten_append]
 have hl:=bE A sz hA
 by_cases c:i<A.flatten.length
 ·rw [List.getElem?_append_left c,List.getElem?_append_left c]
 ·rw [List.getElem?_append_right (by omega),List.getElem?_append_right (by omega)]
  simp only [List.flatten_cons,List.flatten_nil,List.append_nil]
  refine uB h fun e=>hi ?_
  rw [Nat.succ_mul]
  omega
theorem WL.toRowl0 {α:Type} [Inhabited α] (enc:α→List DV) (r j:Nat) {e ei szi sz k:Nat} {E1:Env} {m1 m2:Mem} (hn:m.get r=some (.row e sz [])) (hk:Nat.blt k sz=true) (hrj:Nat.beq r j=false) (hP:okN c.P0 c.KN j=true) (hKr:inl c.KN r=false) (h1:fgtE [j] E=some E1) (h2:fgtM [j] m=some m1) (h3:eC (Mem.set r (.rowl e sz k (some j) (([]:List α).map enc)) ((j, .row ei szi [])::m1))=some m2) (hw:WL c P ops Q l E1 m2):WL c P ops Q l E m:=fun a w hr=>hw a w (by
 obtain ⟨g1,g2⟩:=gq hP
 rw [bt h3,dd h1,de h2]
 exact Rel.toRowl r j hn (Nat.ne_of_beq_eq_false hrj) g1 g2 hKr rfl (fun y hy=>by cases hy) (Nat.le_of_ble_eq_true hk) (fun i hi=>rfl) (fun h=>absurd rfl h) hr)
theorem rU {α:Type} [Inhabited α] {L:List α} (h:L≠[]) (x:α):L=L.take (L.length - 1)++[L.getD (L.length - 1) default]∧L.set (L.length - 1) x=L.take (L.length - 1)++[x]:=by
 have hpos:0<L.length:=List.length_pos_iff.2 h
 constructor
 ·have e:=List.take_append_drop (L.length - 1) L
  conv=>lhs;rw [←e]
  congr 1
  rw [List.drop_eq_getElem_cons (show L.length - 1<L.length by omega),List.drop_of_length_le (by omega),List.getD_eq_getElem?_getD,List.getElem?_eq_getElem (by omega)]
  rfl
 ·rw [List.set_eq_take_append_cons_drop,if_pos (by omega),List.drop_of_length_le (by omega)]
theorem WO.storeLT {α:Type} [Inhabited α] (enc:α→List DV) (L:List α) (x':α) (i:Int) {r j k:Nat} {ej:List (List DV)} {x y:Operand} {T e ei szi sz:Nat} {c':Option Nat} (hx:opnd E x=some (.rel r (i.toNat*sz+k))) (hn:m.get r=some (.rowl e sz k c' (L.map enc))) (hy:opnd E y=some (.own j)) (hj:m.get j=some (.row ei szi ej)) (hi:0≤i∧i+1=L.length) (hz:∀ x,(enc x).length=sz) (ho:o.op= .store T x y) (hsz:gA P T 1=true) (hK:inl c.KN r=false) (hd:o.dst=none) (hx':(enc x').set k .nils=(enc (L.getD (L.length - 1) default)).set k .nils) (h3:eC (m.set r (.rowl e sz k (some j) ((L.set (L.length - 1) x').map enc)))=some m'):WO c P o E m E m':=by
 have hne:L≠[]:=fun h=>by rw [h] at hi;simp at hi;omega
 have hpos:0<L.length:=List.length_pos_iff.2 hne
 have hne':L.map enc≠[]:=fun h=>hne (List.map_eq_nil_iff.1 h)
 obtain ⟨s1,s2⟩:=rU hne x'
 rw [bt h3]
 refine WO.storeL (es':=(L.set (L.length - 1) x').map enc) hx hn hy hj hne' ?_ ho hsz hK hd (by simp) (fun y hy=>?_) (fun q hq=>?_)
 ·rw [List.length_map,show i.toNat=L.length - 1 by omega]
 ·obtain ⟨z,_,rfl⟩:=List.mem_map.1 hy
  exact hz z
 ·have hA:∀ y∈(L.take (L.length - 1)).map enc,y.length=sz:=fun y hy=>by
   obtain ⟨z,_,rfl⟩:=List.mem_map.1 hy
   exact hz z
  have e1:(L.set (L.length - 1) x').map enc=(L.take (L.length - 1)).map enc++[enc x']:=by rw [s2,List.map_append];rfl
  have e2:L.map enc=(L.take (L.length - 1)).map enc++[enc (L.getD (L.length - 1) default)]:=by
   conv=>lhs;rw [s1]
   rw [List.map_append];rfl
  rw [e1]
  rw [List.length_map] at hq
  have:=pt hA hx' q (by rw [List.length_map,List.length_take,Nat.min_eq_left (by omega),Nat.sub_add_cancel hpos];exact hq)
  rw [this,←e2]
section
variable {c0:Ctx} {s:Stay} {EK EK2 E2:Env} {sch:Sch} {ix:Nat} {tp:Bool}
theorem WH.storeL {α:Type} [Inhabited α] (enc:α→List DV) (L:List α) (x':α) (i:Int) {r j k:Nat} {ej:List (List DV)} {x y:Operand} {T e ei szi sz:Nat} {c':Option Nat} (hi':nth ops.toList ix=some o) (hx:opnd (EK++E) x=some (.rel r (i.toNat*sz+k))) (hn:m.get r=some (.rowl e sz k c' (L.map enc))) (hy:opnd (EK++E) y=some (.own j)) (hj:m.get j=some (.row ei szi ej)) (hi:0≤i∧i+1=L.length) (hz:∀ x,(enc x).length=sz) (ho:o.op= .store T x y) (hsz:gA P T 1=true) (hK:inl c.KN r=false) (hd:o.dst=none) (hx':(enc x').set k .nils=(enc (L.getD (L.length - 1) default)).set k .nils) (h3:eC (m.set r (.rowl e sz k (some j) ((L.set (L.length - 1) x').map enc)))=some m') (hg:o.guard=none) (hf:fR c.P0 EK=true) (h2:ft o.dst (EK++E) EK E=some (EK2,E2)) (hk:WH true c0 c s P ops Q sch EK2 E2 m'):WH tp c0 c s P ops Q (.one ix false sch) EK E m:=
 WH.step hi' (WO.storeLT enc L x' i hx hn hy hj hi hz ho hsz hK hd hx' h3) hg hf h2 hk
theorem WH.freezeL (r j:Nat) {α β:Type} [Inhabited α] [Inhabited β] (enc:α→List DV) (L:List α) (encj:β→List DV) (M:List β) {e ei szi sz k:Nat} {m1 m2:Mem} (hn:m.get r=some (.rowl e sz k (some j) (L.map enc))) (hj:m.get j=some (.row ei szi (M.map encj))) (hrj:Nat.beq r j=false) (hKr:inl c.KN r=false) (hz:∀ x,(enc x).length=sz) (hk:Nat.blt k sz=true) (hl:L≠[]→(enc (L.getD (L.length - 1) default))[k]? =some (slT encj M)) (h1:frzE j (slT encj M) E=some E') (h2:frzM j (slT encj M) m=some m1) (h3:eC (m1.set r (.row e sz (L.map enc)))=some m2) (hw:WH tp c0 c s P ops Q sch EK E' m2):WH tp c0 c s P ops Q sch EK E m:=fun hst hsel hp a w listed hB hr hek=>hw hst hsel hp a w listed hB (by
 rw [bt h3]
 refine Rel.freezeLT r j hn hj (Nat.ne_of_beq_eq_false hrj) hKr (fun x hne hx=>?_) (fun F w v hv=>hv.slT) h1 h2 hr
 have hL:L≠[]:=fun h=>hne (by rw [h];rfl)
 rw [pr enc L hz (Nat.le_of_ble_eq_true hk) hL,hl hL] at hx
 exact (Option.some.inj hx).symm) hek
theorem WH.toRowl {α:Type} [Inhabited α] (enc:α→List DV) (L:List α) (x:α) (cs:List DV) (r j:Nat) {e ei szi sz k:Nat} {E1:Env} {m1 m2:Mem} (hn:m.get r=some (.row e sz (L.map enc++[cs]))) (hcs:(enc x).set k .nils=cs) (hz:∀ x,(enc x).length=sz) (hk:Nat.blt k sz=true) (hrj:Nat.beq r j=false) (hP:okN c.P0 c.KN j=true) (hKr:inl c.KN r=false) (h1:fgtE [j] E=some E1) (h2:fgtM [j] m=some m1) (h3:eC (Mem.set r (.rowl e sz k (some j) ((L++[x]).map enc)) ((j, .row ei szi [])::m1))=some m2) (hw:WH tp c0 c s P ops Q sch EK E1 m2):WH tp c0 c s P ops Q sch EK E m:=fun hst hsel hp a w listed hB hr hek=>hw hst hsel hp a w listed hB (by
 obtain ⟨g1,g2⟩:=gq hP
 have hk':k<sz:=Nat.le_of_ble_eq_true hk
 have hA:∀ y∈L.map enc,y.length=sz:=fun y hy=>by
  obtain ⟨z,_,rfl⟩:=List.mem_map.1 hy
  exact hz z
 have hlen:(L.map enc++[cs]).length=(L.map enc).length+1:=by simp
 have hset:cs.set k .nils=(enc x).set k .nils:=by rw [←hcs,List.set_set]
 rw [bt h3,dd h1,de h2]
 refine Rel.toRowl r j hn (Nat.ne_of_beq_eq_false hrj) g1 g2 hKr (by simp) (fun y hy=>?_) hk' (fun i hi=>?_) (fun _=>?_) hr
 ·obtain ⟨z,_,rfl⟩:=List.mem_map.1 hy
  exact hz z
 ·rw [List.map_append]
  rw [hlen] at hi
  exact (pt hA hset i hi).symm
 ·rw [hlen,Nat.add_sub_cancel,List.flatten_append,List.getElem?_append_right (by rw [bE _ sz hA];omega),bE _ sz hA,Nat.add_sub_cancel_left]
  simp only [List.flatten_cons,List.flatten_nil,List.append_nil]
  rw [←hcs,List.getElem?_set_self (by rw [hz];exact hk')]) hek
end
end
theorem Ends.autoA {P:Program} {E:Env} {m:Mem} {fn:Func} {out:AV} {m1:Mem} {t T s n T':Nat} {cs:List AV} {ds:List DV} (q:Nat) (hT:aggB P T q=true) (h1:fn.results=#[.cell t T, .tmp s]) (ht:E.get t= .ptr n 0) (hn:m.get n=some (.box T' cs)) (hds:unD cs=some ds) (hq:Nat.beq q ds.length=true) (h3: .tup [.d (.agg ds),E.get s]=out) (h4:dc m m1):Ends P fn out m1 .ret E m:=by
 have hq':=Nat.eq_of_beq_eq_true hq
 subst hq'
 obtain ⟨d,i,k1,k2,k3,k4⟩:=gv hT
 exact Ends.mk (rs:=[.cell t T, .tmp s]) h1 (.cell d ht hn (mC hds) k1 (by cases d <;> first | exact k2 | rfl | cases k2) (by rw [k3];simp [k4]) (.tmp rfl .nil)) h3 h4
end LJ
