/- A logic for the walks: rows of one's own by index: made, read, written. -/
import Derived.Test.YtpnnkehkjfciiaaGreatDoorXAppT
import Derived.Laws.MakeOwn
namespace LJ
open Go Go.RowKit
set_option linter.unusedVariables false
set_option linter.unusedSimpArgs false
def nMk (n:Int) (b:Nat):Bool:=decide (0≤n∧n≤140737488355328∧n.toNat*b≤140737488355328)
theorem xe {n:Int} {b:Nat} (h:nMk n b=true):0≤n∧n≤140737488355328∧n.toNat*b≤140737488355328:=of_decide_eq_true h
section
variable {P:Program} {c:Ctx} {o:Oper} {E E':Env} {m m':Mem} {ops:Array Oper} {Q:Exit→Env→Mem→Prop} {l:List Oper}
theorem pV {sz:Nat} (zs:List DV) (hzs:zs.length=sz) (hpos:0<sz) (n i:Nat) (hi:i<n*sz):(List.replicate n zs).flatten[i]? =zs[i %sz]? :=by
 have hd:i /sz<n:=Nat.div_lt_of_lt_mul (by rw [Nat.mul_comm];exact hi)
 have hm:i %sz<zs.length:=by rw [hzs];exact Nat.mod_lt _ hpos
 have:=dw (List.replicate n zs) sz (i /sz) (i %sz) zs zs[i %sz] (fun e he=>by rw [List.eq_of_mem_replicate he];exact hzs) (by rw [List.getElem?_replicate,if_pos hd]) (List.getElem?_eq_getElem hm)
 rw [show i /sz*sz+i %sz=i by rw [Nat.mul_comm];exact Nat.div_add_mod i sz] at this
 rw [this,List.getElem?_eq_getElem hm]
theorem WO.makeT {α:Type} [Inhabited α] (enc:α→List DV) (z:α) (L:Int) {x y:Operand} {k k':IntKind} {T e sz bytes d r:Nat} {tt:List (Nat×TK)} {et:List (Nat×Nat×Nat)} (htt:ttOK P tt=true) (het:etOK P et=true) (hT:cq tt T=some (.slice e sz)) {q:Nat} (he:et.find? (fun q=>Nat.beq q.1 e)=some (q,sz,bytes)) (hz:rF tt e=some (enc z)) (hzl:(enc z).length=sz)
  (hx:opnd E x=some (.d (.int k L))) (hy:opnd E y=some (.d (.int k' L))) (ho:o.op= .makeSlice T x y) (hL:0≤L∧L≤140737488355328∧L.toNat*bytes≤140737488355328)
  (hP:inl c.P0 r=false) (hK:inl c.KN r=false) (hd:o.dst=some d) (hlt:Nat.blt d c.ntmps=true):WO c P o E m ((d, .own r)::E.forget [r]) ((r, .row e sz ((List.replicate L.toNat z).map enc))::m.forget [r]):=fun Q K a w hrel h=>by
 obtain ⟨h1,h2,F,N,hm,hE⟩:=hrel
 obtain ⟨i,z',hi,hs1,hs2,hs3,hs4,hs5⟩:=kG (kK het he)
 obtain ⟨i',hT1,hi',_⟩:=bd (TK.slice_ok (aR htt hT))
 obtain ⟨i2,z2,hi2,hz2,hds⟩:=gV (nr htt hz)
 have e1:i2=i:=by rw [hi] at hi2;injection hi2 with hi2;exact hi2.symm
 subst e1
 have e2:z2=z':=by rw [hs4] at hz2;injection hz2 with hz2;exact hz2.symm
 subst e2
 obtain ⟨hl,hv⟩:=gz (F:=F) (w:=w) hds
 have hvx:a.eval x= .int k L:=(aA hx).int_eval hE
 have hvy:a.eval y= .int k' L:=(aA hy).int_eval hE
 obtain ⟨n,hn⟩:∃ n:Nat,L=(n:Int):=⟨L.toNat,by omega⟩
 subst hn
 simp only [Int.toNat_natCast] at hL h ⊢
 have hbb:(i2.bytes:Int)*(n:Int)≤281474976710656:=by
  rw [hs2,←Int.natCast_mul,Nat.mul_comm]
  omega
 have hrun:=run_make (P:=P) w T e i2 z2 hT1 hi hs4 k k' n n (by omega) (Int.le_refl _) hbb (by omega)
 simp only [Int.toNat_natCast] at hrun
 rw [hs1] at hrun
 generalize hcur:madeCells z2.cells (n*sz)=cur at hrun
 have hcs:cur.size=n*sz:=by rw [←hcur];exact size_madeCells _ _
 have hσ:(N.setσ r (.slice (some ⟨w.heap.size,0,none⟩) n n)).σ r= .slice (some ⟨w.heap.size,0,none⟩) n n:=by simp [aI.setσ]
 have g:=Grew.alloc w (.cells cur e)
 have hFk:∀ b,F b→(w.alloc (.cells cur e)).heap[b]? =w.heap[b]? :=fun b hb=>g.block b (hm.Fin b hb)
 have hm':bX c F (N.setσ r (.slice (some ⟨w.heap.size,0,none⟩) n n)) (w.alloc (.cells cur e)) ((r, .row e sz ((List.replicate n z).map enc))::m.forget [r]):=by
  refine hm.renew (N.setσ_but r _) hP hK g.os g.tape g.output g.size (fun b hb _=>g.block b hb) ⟨cur.toList,?_,?_,fun i v x hvi hxi=>?_⟩ (fun b hb=>?_)
  ·rw [hσ,List.length_map,List.length_replicate]
   refine ⟨by rw [Array.length_toList,hcs], .inr ⟨w.heap.size,n,cur,rfl,Nat.zero_le _,kF w _,Nat.le_refl _,?_,hcs,?_⟩⟩
   ·simp only [maxLen];omega
   ·exact List.take_of_length_le (by rw [Array.length_toList,hcs];exact Nat.le_refl _)
  ·intro y hy
   obtain ⟨x,hx,rfl⟩:=List.mem_map.1 hy
   rw [List.eq_of_mem_replicate hx]
   exact hzl
  ·have hlt:i<n*sz:=by have:=(List.getElem?_eq_some_iff.1 hvi).1;rwa [Array.length_toList,hcs] at this
   rw [List.map_replicate,pV (enc z) hzl hs3 n i hlt] at hxi
   refine (hv (i %sz) v x ?_ hxi).mono (fun _ h=>h) hFk
   have hmod:i %sz<z2.cells.size:=by rw [hs5];exact Nat.mod_lt _ hs3
   rw [←hcur] at hvi
   simp only [madeCells,Array.toList_map,Array.toList_range,List.getElem?_map,List.getElem?_range hlt,Option.map_some,Option.some.injEq,hs5] at hvi
   rw [getElem!_pos z2.cells (i %sz) hmod] at hvi
   rw [←hvi,List.getElem?_eq_getElem (by rw [Array.length_toList];exact hmod)]
   simp
  ·have hb':((N.setσ r (.slice (some ⟨w.heap.size,0,none⟩) n n)).σ r).ownBlock=some b:=hb
   rw [hσ] at hb'
   have:w.heap.size=b:=by simpa [Value.ownBlock] using hb'
   exact .inr (by omega)
 have hrun':(execOp a.eval o).run P w= .ok (.value (.slice (some ⟨w.heap.size,0,none⟩) n n)) (w.alloc (.cells cur e)):=by
  unfold execOp
  simp [ho,hvx,hvy,hrun]
 unfold Oper.wp
 rw [hrun',Oper.upon_value]
 exact h _ _ _ rfl (by rw [hd];exact Rel.put h1 h2 hm' (hE.forget (N.setσ_but r _) hFk) hlt (kZ hσ))
theorem nH {α:Type} [Inhabited α] (enc:α→List DV) (L:List α) (i:Nat) (h:i<L.length):(L.map enc)[i]? =some (enc (L.getD i default)):=by
 rw [List.getElem?_map,List.getElem?_eq_getElem h,List.getD_eq_getElem?_getD,List.getElem?_eq_getElem h]
 rfl
theorem Y.idxRel {α:Type} [Inhabited α] (enc:α→List DV) (L:List α) (i:Int) {x y:Operand} {k:IntKind} {T e sz r:Nat} {tt:List (Nat×TK)} (htt:ttOK P tt=true) (hT:cq tt T=some (.slice e sz)) (hx:opnd E x=some (.own r)) (hn:m.get r=some (.row e sz (L.map enc))) (hy:opnd E y=some (.d (.int k i))) (ho:o.op= .indexAddr T x y) (hi:0≤i∧i<L.length):LJ.aF P o E m (.rel r (i.toNat*sz)):=
 Y.indexAddr_own (aA hx) hn (aA hy) ho (TK.slice_ok (aR htt hT)) hi.1 (by rw [List.length_map];exact hi.2)
theorem Y.fieldRel {x:Operand} {S f fo n off:Nat} (hx:opnd E x=some (.rel n off)) (ho:o.op= .fieldAddr S x f) (hf:eg P S f=some fo):LJ.aF P o E m (.rel n (off+fo)):=fun c F N w a hm he=>by
 have hr:=(aA hx) F N w a he
 generalize hv:a.eval x=v at hr
 cases hr with
 | rel hg=>exact ⟨_, .rel hg,fun w' _ _=>by unfold execOp;simp [ho,hv,il hf,Addr.add_lit]⟩
theorem mL {sz a b i q:Nat} (hb:b<sz) (hq:q<sz) (h:a*sz+b=i*sz+q):a=i∧b=q:=by
 have h1:(a*sz+b) /sz=a:=by rw [Nat.mul_comm,Nat.mul_add_div (by omega),Nat.div_eq_of_lt hb,Nat.add_zero]
 have h2:(i*sz+q) /sz=i:=by rw [Nat.mul_comm,Nat.mul_add_div (by omega),Nat.div_eq_of_lt hq,Nat.add_zero]
 have h3:a=i:=by rw [←h1,h,h2]
 subst h3
 exact ⟨rfl,by omega⟩
theorem pW {α:Type} [Inhabited α] (enc:α→List DV) (L:List α) (i q:Nat) (x':α) (v:DV) {sz:Nat} (hz:∀ x,(enc x).length=sz) (hi:i<L.length) (hq:q<sz) (he:(enc (L.getD i default)).set q v=enc x') (k:Nat) (hk:k<L.length*sz):
  ((L.set i x').map enc).flatten[k]? =if k=i*sz+q then some v else (L.map enc).flatten[k]? :=by
 have hpos:0<sz:=by omega
 have hall:∀ (M:List α),∀ e∈M.map enc,e.length=sz:=fun M e he=>by
  obtain ⟨x,_,rfl⟩:=List.mem_map.1 he
  exact hz x
 have ha:k /sz<L.length:=Nat.div_lt_of_lt_mul (by rw [Nat.mul_comm];exact hk)
 have hb:k %sz<sz:=Nat.mod_lt _ hpos
 have hkk:k=k /sz*sz+k %sz:=by rw [Nat.mul_comm];exact (Nat.div_add_mod k sz).symm
 generalize k /sz=a at ha hkk
 generalize k %sz=b at hb hkk
 subst hkk
 have old:=dw (L.map enc) sz a b _ _ (hall L) (nH enc L a ha) (List.getElem?_eq_getElem (by rw [hz];exact hb))
 have new:=dw ((L.set i x').map enc) sz a b _ _ (hall _) (nH enc (L.set i x') a (by rw [List.length_set];exact ha)) (List.getElem?_eq_getElem (by rw [hz];exact hb))
 rw [old,new]
 by_cases hai:a=i
 ·subst hai
  have e1:(L.set a x').getD a default=x':=by rw [List.getD_eq_getElem?_getD,List.getElem?_set_self hi];rfl
  by_cases hbq:b=q
  ·subst hbq
   rw [if_pos rfl]
   congr 1
   have:(enc x')[b]? =some v:=by rw [←he,List.getElem?_set_self (by rw [hz];exact hb)]
   have h2:(enc ((L.set a x').getD a default))[b]? =some v:=by rw [e1];exact this
   rw [List.getElem?_eq_getElem (by rw [hz];exact hb)] at h2
   injection h2
  ·rw [if_neg (fun h=>hbq (mL hb hq h).2)]
   have h2:(enc ((L.set a x').getD a default))[b]? =(enc (L.getD a default))[b]? :=by rw [e1,←he,List.getElem?_set_ne (fun h=>hbq h.symm)]
   rw [List.getElem?_eq_getElem (by rw [hz];exact hb),List.getElem?_eq_getElem (by rw [hz];exact hb)] at h2
   exact h2
 ·rw [if_neg (fun h=>hai (mL hb hq h).1)]
  have h2:(L.set i x').getD a default=L.getD a default:=by rw [List.getD_eq_getElem?_getD,List.getD_eq_getElem?_getD,List.getElem?_set_ne (fun h=>hai h.symm)]
  congr 1
  have h3:(enc ((L.set i x').getD a default))[b]? =(enc (L.getD a default))[b]? :=by rw [h2]
  rw [List.getElem?_eq_getElem (by rw [hz];exact hb),List.getElem?_eq_getElem (by rw [hz];exact hb)] at h3
  injection h3
theorem oQ {r:Nat} {T:TypeId} {sz:Nat} {es es':List (List DV)} :∀ {m m':Mem},m.get r=some (.row T sz es)→setRow r es' m=some m'→m'=m.set r (.row T sz es')
 | [],m',hn,h=>by cases hn
 | (k,v)::l,m',hn,h=>by
  simp only [setRow] at h
  simp only [Mem.get] at hn
  simp only [Mem.set]
  split at h
  ·rename_i hk
   rw [hk] at hn ⊢
   simp only [cond_true,Option.some.injEq] at hn ⊢
   subst hn
   simp only [Option.some.injEq] at h
   exact h.symm
  ·rename_i hk
   rw [hk] at hn ⊢
   split at h
   ·rename_i l' hl
    injection h with h
    subst h
    rw [oQ hn hl]
    rfl
   ·cases h
theorem WO.storeRel {α:Type} [Inhabited α] (enc:α→List DV) (L:List α) (i:Int) (q:Nat) (x':α) (v:DV) {x y:Operand} {T e sz r:Nat} (hx:opnd E x=some (.rel r (i.toNat*sz+q))) (hn:m.get r=some (.row e sz (L.map enc))) (hy:opnd E y=some (.d v)) (hfl:DV.flatB v=true) (hz:∀ x,(enc x).length=sz) (ho:o.op= .store T x y) (hsz:gA P T 1=true) (hq:Nat.blt q sz=true) (he:(enc (L.getD i.toNat default)).set q v=enc x') (hi:0≤i∧i<L.length) (hK:inl c.KN r=false) (hd:o.dst=none) (hs:setRow r ((L.set i.toNat x').map enc) m=some m'):WO c P o E m E m':=fun Q K a w hrel h=>by
 obtain ⟨h1,h2,F,N,hm,hE⟩:=hrel
 have hq':q<sz:=Nat.le_of_ble_eq_true hq
 have hlt:i.toNat<L.length:=by omega
 have hr:=(aA hx) F N w a hE
 have hvy:=((aA hy) F N w a hE).d_inv
 have hnot:=hvy.notAgg (fun ds hds=>by subst hds;cases hfl)
 generalize hv:a.eval x=pv at hr
 have hobj:=hm.obj r _ hn
 obtain ⟨vs,⟨hl,hrow⟩,hlen,hrep⟩:=hobj
 rw [List.length_map] at hl hrow
 have hpos:0<L.length*sz:=Nat.mul_pos (by omega) (by omega)
 cases hr with
 | @rel _ _ g ln cp hg=>
  rcases hrow with ⟨h3,h4⟩ | ⟨g',cap,cur,h3,_,h5,h6,h7,h8,h9⟩
  ·omega
  ·rw [hg] at h3
   injection h3 with h3 e3 e4
   injection h3 with h3
   injection h3 with h3 _ _
   subst h3
   subst e4
   have hoff:i.toNat*sz+q<L.length*sz:=by
    calc i.toNat*sz+q<i.toNat*sz+sz:=by omega
     _=(i.toNat+1)*sz:=by rw [Nat.succ_mul]
     _≤L.length*sz:=Nat.mul_le_mul_right _ (by omega)
   have hcap:L.length*sz≤cp*sz:=Nat.mul_le_mul_right _ h6
   have hcells:(a.eval y).cells.toList=[a.eval y]:=by rw [hnot.1]
   obtain ⟨w',r1,r2,r3,r4,r5,r6,r7⟩:=fO (P:=P) g e (a.eval y).cells.toList 0 (i.toNat*sz+q) cur w h5 (by rw [hcells];simp only [List.length_singleton];omega) (by rw [hcells];intro u hu;rw [List.mem_singleton.1 hu];exact hnot.2)
   rw [hcells] at r2
   simp only [Nat.add_zero,List.length_singleton] at r2
   have hsize:∀ w'':World,(Go.sizeOf T).run P w''= .ok (a.eval y).cells.size w'':=by
    intro w''
    unfold gA at hsz
    split at hsz
    ·rename_i ti hti
     rw [bM hti,Nat.eq_of_beq_eq_true hsz,hnot.1]
     rfl
    ·cases hsz
   have hrun:(execOp a.eval o).run P w= .ok .skip w':=by
    unfold execOp
    simp [ho,hv,Instr.storeAt,Instr.sureAddr,storeVar,hsize,r1]
   have hset:cur.toList.take (i.toNat*sz+q)++[a.eval y]++cur.toList.drop (i.toNat*sz+q+1)=cur.toList.set (i.toNat*sz+q) (a.eval y):=by
    rw [List.set_eq_take_append_cons_drop,if_pos (by rw [Array.length_toList];omega)]
    simp
   rw [hset] at r2
   have hσ:(N.σ r).ownBlock=some g:=by rw [hg];rfl
   have hFk:∀ b,F b→w'.heap[b]? =w.heap[b]? :=fun b hb=>r7 b (fun e=>(hm.free r _ b hn (by rw [e];exact hσ)).1 hb)
   have hm2:bX c F N w' (m.set r (.row e sz ((L.set i.toNat x').map enc))):=by
    refine hm.write hn hK r3 r4 r5 (by omega) (fun b hb hne=>r7 b (fun e=>hne (by rw [e];exact hσ))) ⟨vs.set (i.toNat*sz+q) (a.eval y),?_,?_,fun k u d hu hd=>?_⟩ rfl
    ·rw [List.length_map,List.length_set]
     refine ⟨by rw [List.length_set];exact hl, .inr ⟨g,cp,_,by rw [hg,e3],Nat.zero_le _,r2,h6,h7,by simp only [List.size_toArray,List.length_set,Array.length_toList];exact h8,?_⟩⟩
     simp only [List.toList_toArray]
     rw [←h9,List.take_set]
    ·intro y hy
     obtain ⟨z,_,rfl⟩:=List.mem_map.1 hy
     exact hz z
    ·have hk:k<L.length*sz:=by have:=(List.getElem?_eq_some_iff.1 hu).1;rw [List.length_set,hl] at this;exact this
     rw [pW enc L i.toNat q x' v hz hlt hq' he k hk] at hd
     by_cases hko:k=i.toNat*sz+q
     ·rw [if_pos hko] at hd
      injection hd with hd
      subst hd
      subst hko
      rw [List.getElem?_set_self (by rw [hl];exact hk)] at hu
      injection hu with hu
      subst hu
      exact hvy.mono (fun _ h=>h) hFk
     ·rw [if_neg hko] at hd
      rw [List.getElem?_set_ne (fun h=>hko h.symm)] at hu
      exact (hrep k u d hu hd).mono (fun _ h=>h) hFk
   unfold Oper.wp
   rw [hrun,Oper.upon_skip]
   rw [oQ hn hs] at h
   exact h undef _ _ rfl (by rw [hd];exact ⟨h1,h2,F,N,hm2,⟨fun t=>(hE t).mono' hFk,hE.glob.mono (fun _ h=>h) hFk⟩⟩)
inductive Bor (E:Env) (m:Mem):List Operand→List AV→Prop
 | nil:Bor E m [] []
 | op {x:Operand} {p:AV} {xs:List Operand} {ps:List AV} (h:opnd E x=some p) (t:Bor E m xs ps):Bor E m (x::xs) (p::ps)
 | own {α:Type} [Inhabited α] (enc:α→List DV) (L:List α) {x:Operand} {r T sz:Nat} {xs:List Operand} {ps:List AV} (hx:opnd E x=some (.own r)) (hr:m.get r=some (.row T sz (L.map enc))) (t:Bor E m xs ps):Bor E m (x::xs) (.d (slT enc L)::ps)
def yd (N:aI) (m:Mem) (b:Nat):Prop:=∃ r T sz es,m.get r=some (.row T sz es)∧(N.σ r).ownBlock=some b
theorem WL.storeRel {α:Type} [Inhabited α] (enc:α→List DV) (L:List α) (i:Int) (q:Nat) (x':α) (v:DV) {x y:Operand} {T e sz r:Nat} (hx:opnd E x=some (.rel r (i.toNat*sz+q))) (hn:m.get r=some (.row e sz (L.map enc))) (hy:opnd E y=some (.d v)) (hfl:DV.flatB v=true) (hz:∀ x,(enc x).length=sz) (ho:o.op= .store T x y) (hsz:gA P T 1=true) (hq:Nat.blt q sz=true) (he:(enc (L.getD i.toNat default)).set q v=enc x') (hi:0≤i∧i<L.length) (hK:inl c.KN r=false) (hd:o.dst=none) (hs:setRow r ((L.set i.toNat x').map enc) m=some m') (hg:o.guard=none) (hk:WL c P ops Q l E m'):WL c P ops Q (o::l) E m:=
 WL.step (WO.storeRel enc L i q x' v hx hn hy hfl hz ho hsz hq he hi hK hd hs) hg hk
theorem WL.makeT {α:Type} [Inhabited α] (enc:α→List DV) (z:α) (L:Int) {x y:Operand} {k k':IntKind} {T e sz bytes d r:Nat} {tt:List (Nat×TK)} {et:List (Nat×Nat×Nat)} (htt:ttOK P tt=true) (het:etOK P et=true) (hT:cq tt T=some (.slice e sz)) {q:Nat} (he:et.find? (fun q=>Nat.beq q.1 e)=some (q,sz,bytes)) (hz:rF tt e=some (enc z)) (hzl:(enc z).length=sz)
  (hx:opnd E x=some (.d (.int k L))) (hy:opnd E y=some (.d (.int k' L))) (ho:o.op= .makeSlice T x y) (hL:0≤L∧L≤140737488355328∧L.toNat*bytes≤140737488355328)
  (hd:o.dst=some d) (hlt:Nat.blt d c.ntmps=true) (hF:rI tt c.P0 c.KN r e sz ((List.replicate L.toNat z).map enc) E m d=some (E',m')) (hg:o.guard=none) (hk:WL c P ops Q l E' m'):WL c P ops Q (o::l) E m:=by
 unfold rI at hF
 split at hF
 ·cases hF
 ·rename_i hn
  obtain ⟨g1,g2⟩:=gq hn
  split at hF
  ·rename_i E1 m1 h2 h3
   simp only [Option.some.injEq,Prod.mk.injEq] at hF
   obtain ⟨rfl,rfl⟩:=hF
   rw [dd h2,de h3] at hk
   exact WL.step (WO.makeT enc z L htt het hT he hz hzl hx hy ho hL g1 g2 hd hlt) hg hk
  ·cases hF
section
variable {tp:Bool} {c0:Ctx} {s:Stay} {EK EK2 E2:Env} {sch:Sch} {ix:Nat}
end
end
theorem Le.nilT {α:Type} [Inhabited α] (enc:α→List DV):Le .nils (slT enc []):=fun F w v h=>h.slT_nil
theorem Le.agg {ds ds':List DV} (h:LeL ds ds'):Le (.agg ds) (.agg ds'):=fun F w v hr=>hr.agg_le h
theorem WL.le {P:Program} {c:Ctx} {ops:Array Oper} {Q:Exit→Env→Mem→Prop} {l:List Oper} {E:Env} {m:Mem} (t:Nat) {d:DV} (d':DV) (ht:E.get t= .d d) (hl:Le d d') (hk:WL c P ops Q l ((t, .d d')::E) m):WL c P ops Q l E m:=fun a w hr=>
 hk a w (hr.weak1 fun F N w v h=>by rw [ht] at h;exact .d (hl F w v h.d_inv))
end LJ
