/- A logic for the walks: arrays by index: in data, in boxes, in rows of one's own. -/
import Derived.Test.YtpnnkehkjfciiaaGreatDoorXIdx
namespace LJ
open Go Go.RowKit
set_option linter.unusedVariables false
set_option linter.unusedSimpArgs false
def aset {α:Type} [Inhabited α] (M:Nat) (S:List α) (j:Nat) (v:α):List α:=(List.range M).map fun i=>cond (Nat.beq i j) v (S.getD i default)
theorem tf {α:Type} [Inhabited α] (M:Nat) (S:List α) (j:Nat) (v:α) (k:Nat) (hk:k<M):(aset M S j v).getD k default=if k=j then v else S.getD k default:=by
 unfold aset
 rw [List.getD_eq_getElem?_getD,List.getElem?_map,List.getElem?_range hk]
 simp only [Option.map_some,Option.getD_some]
 by_cases h:k=j
 ·subst h
  rw [if_pos rfl,Nat.beq_refl]
  rfl
 ·rw [if_neg h]
  cases e:Nat.beq k j with
  | true=>exact absurd (Nat.eq_of_beq_eq_true e) h
  | false=>rfl
theorem pX {β:Type} {l:List β} {q M:Nat} {h:Nat→β} (hA:(l.drop q).take M=(List.range M).map h) (k:Nat) (hk:k<M):l[q+k]? =some (h k):=by
 have:((l.drop q).take M)[k]? =some (h k):=by rw [hA,List.getElem?_map,List.getElem?_range hk];rfl
 rwa [List.getElem?_take,if_pos hk,List.getElem?_drop] at this
theorem wt {β:Type} {l l':List β} {q M j:Nat} {v:β} {h h':Nat→β} (hA:(l.drop q).take M=(List.range M).map h) (hB:l'=l.take q++(List.range M).map h'++l.drop (q+M)) (hv:∀ k,k<M→h' k=if k=j then v else h k) (hj:j<M):l.set (q+j) v=l':=by
 have hlen:q+M≤l.length:=by
  have:=congrArg List.length hA
  simp only [List.length_take,List.length_drop,List.length_map,List.length_range] at this
  omega
 subst hB
 refine List.ext_getElem? fun k=>?_
 have tl:(l.take q).length=q:=by rw [List.length_take];omega
 have tl2:(l.take q++(List.range M).map h').length=q+M:=by rw [List.length_append,tl,List.length_map,List.length_range]
 by_cases h1:k<q
 ·rw [List.getElem?_set_ne (by omega),List.append_assoc,List.getElem?_append_left (by omega),List.getElem?_take,if_pos h1]
 ·by_cases h2:k<q+M
  ·obtain ⟨i,rfl⟩:∃ i,k=q+i:=⟨k - q,by omega⟩
   rw [List.append_assoc,List.getElem?_append_right (by omega),tl,List.getElem?_append_left (by rw [List.length_map,List.length_range];omega),Nat.add_sub_cancel_left,List.getElem?_map,List.getElem?_range (by omega)]
   simp only [Option.map_some]
   rw [hv i (by omega)]
   by_cases h3:i=j
   ·subst h3
    rw [if_pos rfl,List.getElem?_set_self (by omega)]
   ·rw [if_neg h3,List.getElem?_set_ne (by omega),pX hA i (by omega)]
  ·rw [List.getElem?_append_right (by omega),tl2,List.getElem?_drop,List.getElem?_set_ne (by omega)]
   congr 1
   omega
section
variable {P:Program} {c:Ctx} {o:Oper} {E E':Env} {m m':Mem} {ops:Array Oper} {Q:Exit→Env→Mem→Prop} {l:List Oper}
def arrB (P:Program) (T:TypeId) (M:Nat):Bool:=
 match P.underlying T with
 | some (.array n e)=>Nat.beq n M&&Nat.blt 1 M&&gA P e 1
 | _=>false
theorem pY {T:TypeId} {M:Nat} (h:arrB P T M=true):∃ e i,P.underlying T=some (.array M e)∧1<M∧P.info? e=some i∧i.size=1:=by
 unfold arrB at h
 split at h
 ·rename_i n e hT
  simp only [Bool.and_eq_true] at h
  obtain ⟨⟨h1,h2⟩,h3⟩:=h
  have:=Nat.eq_of_beq_eq_true h1
  subst this
  unfold gA at h3
  split at h3
  ·rename_i i hi
   exact ⟨e,i,hT,Nat.le_of_ble_eq_true h2,hi,Nat.eq_of_beq_eq_true h3⟩
  ·cases h3
 ·cases h
theorem j3 {T:TypeId} {M:Nat} (hT:arrB P T M=true) (a:Addr) (k:IntKind) (i:Int) (hi:0≤i∧i<M) (w:World):(Instr.indexAt T (.pointer (some a)) (.int k i)).run P w= .ok (.pointer (some (a.add i.toNat))) w:=by
 obtain ⟨e,inf,h1,h2,h3,h4⟩:=pY hT
 simp [Instr.indexAt,asIntOf,run_underlying h1,Instr.sureAddr,hi,bM h3,h4]
theorem Y.idxElpA (M:Nat) (h:Nat→DV) (i:Int) {cs:List DV} {x y:Operand} {k:IntKind} {T:TypeId} (hT:arrB P T M=true) (hx:opnd E x=some (.d (.elp cs))) (hy:opnd E y=some (.d (.int k i))) (ho:o.op= .indexAddr T x y) (hA:cs.take M=(List.range M).map h) (hi:0≤i∧i<M):LJ.aF P o E m (.d (.elp [h i.toNat])):=fun c F N w a hm he=>by
 obtain ⟨ad,u,hv,hs,hF,h1,h2⟩:=((aA hx) F N w a he).d_inv.elp_inv
 have hvy:=(aA hy).int_eval he
 have hg:=pX (l:=cs) (q:=0) (by rw [List.drop_zero];exact hA) i.toNat (by omega)
 rw [Nat.zero_add] at hg
 refine ⟨.pointer (some (ad.add i.toNat)), .d (.elp (fun j=>u (i.toNat+j)) (by rw [eh hs]) (by rw [eh hs];exact hF) (fun j d hj=>?_) (fun j d hj=>?_)),fun w' _ _=>by unfold execOp;simp [ho,hv,hvy,j3 hT ad k i hi]⟩
 ·have:j=0∧h i.toNat=d:=by
   cases j with
   | zero=>simpa using hj
   | succ j=>simp at hj
  obtain ⟨rfl,rfl⟩:=this
  rw [eh hs]
  simpa [Nat.add_assoc] using h1 i.toNat _ hg
 ·have:j=0∧h i.toNat=d:=by
   cases j with
   | zero=>simpa using hj
   | succ j=>simp at hj
  obtain ⟨rfl,rfl⟩:=this
  exact h2 i.toNat _ hg
theorem Y.idxPtrA (M:Nat) (i:Int) {x y:Operand} {k:IntKind} {T n off:Nat} (hT:arrB P T M=true) (hx:opnd E x=some (.ptr n off)) (hy:opnd E y=some (.d (.int k i))) (ho:o.op= .indexAddr T x y) (hi:0≤i∧i<M):LJ.aF P o E m (.ptr n (off+i.toNat)):=fun c F N w a hm he=>
 ⟨_, .ptr,fun w' _ _=>by unfold execOp;simp [ho,(aA hx).ptr_eval he,(aA hy).int_eval he,j3 hT _ k i hi,Addr.add_lit]⟩
theorem Y.loadPtrA (M off:Nat) (h:Nat→DV) (i:Int) {x:Operand} {T T' n:Nat} {cs:List AV} (hx:opnd E x=some (.ptr n (off+i.toNat))) (hn:m.get n=some (.box T' cs)) (ho:o.op= .load T x) (hT:oneB P T=true) (hA:(cs.drop off).take M=(List.range M).map (fun k=>AV.d (h k))) (hi:0≤i∧i<M):LJ.aF P o E m (.d (h i.toNat)):=
 Y.load (aA hx) hn (pX hA i.toNat (by omega)) ho hT
theorem WO.storePtrA {α:Type} [Inhabited α] (M off:Nat) (mk:α→DV) (S:List α) (v:α) (i:Int) {x y:Operand} {T T' n:Nat} {cs cs':List AV} (hx:opnd E x=some (.ptr n (off+i.toNat))) (hn:m.get n=some (.box T' cs)) (hy:opnd E y=some (.d (mk v))) (hfl:DV.flatB (mk v)=true) (ho:o.op= .store T x y) (hsz:gA P T 1=true) (hA:(cs.drop off).take M=(List.range M).map (fun k=>AV.d (mk (S.getD k default)))) (hB:cs'=cs.take off++(List.range M).map (fun k=>AV.d (mk ((aset M S i.toNat v).getD k default)))++cs.drop (off+M)) (hi:0≤i∧i<M) (hK:inl c.KN n=false) (hd:o.dst=none) (hs:m.set n (.box T' cs')=m'):WO c P o E m E m':=by
 subst hs
 have hlen:off+M≤cs.length:=by
  have:=congrArg List.length hA
  simp only [List.length_take,List.length_drop,List.length_map,List.length_range] at this
  omega
 have hset:im cs (off+i.toNat) [AV.d (mk v)]=cs':=by
  rw [←wt (v:=AV.d (mk v)) (j:=i.toNat) hA hB (fun k hk=>by
   rw [tf M S _ v k hk]
   by_cases h:k=i.toNat
   ·rw [if_pos h,if_pos h]
   ·rw [if_neg h,if_neg h]) (by omega)]
  rw [List.set_eq_take_append_cons_drop,if_pos (by omega)]
  simp [im]
 have hcells:AV.cells (.d (mk v))=some [.d (mk v)]:=by
  cases hm:mk v <;> first | rfl | (rw [hm] at hfl;cases hfl)
 have hfb:flatB (.d (mk v))=true:=by
  cases hm:mk v <;> first | rfl | (rw [hm] at hfl;cases hfl)
 have:=WO.store (c:=c) (aA hx) hn (aA hy) (by trivial) hcells hfb hsz (Nat.ble_eq_true_of_le (by simp only [List.length_singleton];omega)) ho hK hd
 rwa [hset] at this
theorem WL.wo (h:WO c P o E m E' m') (hg:o.guard=none) (hk:WL c P ops Q l E' m'):WL c P ops Q (o::l) E m:=WL.step h hg hk
end
theorem WC.known {P:Program} {c:Ctx} {Q:Exit→Env→Mem→Prop} {C:Code} {E:Env} {m:Mem} {g:Nat} {b:Bool} (v:Bool) (hb:E.get g= .d (.bool b)) (h:b=v) (hk:WC c P C Q ((g, .d (.bool v))::E) m):WC c P C Q E m:=fun a w hr=>
 hk a w (hr.weak1 fun F N w v' h'=>by rw [hb,h] at h';exact h')
def xf:List AV→List AV→Prop
 | [],[]=>True
 | p::ps,q::qs=>AVle p q∧xf ps qs
 | _,_=>False
end LJ
