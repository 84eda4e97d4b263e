/- Several texts of plain Lean, one behind the other. No condition. -/
import Derived.Test.YtpnnkehkjfciiaaGreatDoorQB
import Derived.Test.YtpnnkehkjfciiaaGreatDoorXInd
section
namespace LJ
open Go Go.RowKit
set_option linter.unusedVariables false
set_option linter.unusedSimpArgs false
structure qy (sep d:List UInt8):Prop where
 hit:∀ (r:List UInt8) (j:Nat),j<d.length→Lib.occAt (d++(sep++r)) sep j=false
 no:∀ j,j≤d.length→Lib.occAt d sep j=false
theorem gN {c:UInt8} {d:List UInt8} (h:c∉d):qy [c] d:=⟨fun r j hj=>by
  cases e:Lib.occAt (d++([c]++r)) [c] j with
  | false=>rfl
  | true=>
   have:=Lib.occAt_head (t:=[]) rfl e
   rw [List.getElem?_append_left hj] at this
   exact absurd (List.mem_of_getElem? this) h,fun j hj=>by
  cases e:Lib.occAt d [c] j with
  | false=>rfl
  | true=>exact absurd (List.mem_of_getElem? (Lib.occAt_head (t:=[]) rfl e)) h⟩
theorem pd {a c e:UInt8} {d:List UInt8} (hc:c≠a) (h:c∉d):qy [a,c,e] d:=⟨fun r j hj=>by
  cases q:Lib.occAt (d++([a,c,e]++r)) [a,c,e] j with
  | false=>rfl
  | true=>
   have:=Lib.occAt_second (t:=[e]) rfl q
   by_cases hl:j+1<d.length
   ·rw [List.getElem?_append_left hl] at this
    exact absurd (List.mem_of_getElem? this) h
   ·rw [List.getElem?_append_right (by omega),show j+1 - d.length=0 by omega] at this
    simp only [List.cons_append,List.getElem?_cons_zero,Option.some.injEq] at this
    exact absurd this.symm hc,fun j hj=>by
  cases q:Lib.occAt d [a,c,e] j with
  | false=>rfl
  | true=>exact absurd (List.mem_of_getElem? (Lib.occAt_second (t:=[e]) rfl q)) h⟩
theorem kW {sep d:List UInt8} (hA:qy sep d) (r:List UInt8):Lib.index (d++(sep++r)) sep=(d.length:Int):=
 Lib.index_first (by rw [List.length_append];omega) (by unfold Lib.occAt;rw [List.drop_left];exact List.isPrefixOf_iff_prefix.2 (List.prefix_append ..)) (fun j hj=>hA.hit r j hj)
theorem rk {sep d:List UInt8} (hA:qy sep d):Lib.index d sep= -1:=Lib.index_none hA.no
def dC (sep:List UInt8):List (List UInt8)→List UInt8
 | []=>[]
 | [x]=>x
 | x::y::t=>x++(sep++dC sep (y::t))
theorem mX {sep:List UInt8} (hs:sep≠[]):∀ (L:List (List UInt8)) (x:List UInt8) (f:Nat),(∀ d∈x::L,qy sep d)→(dC sep (x::L)).length<f→Lib.countFrom sep f (dC sep (x::L))=L.length
 | _,x,0,hA,hf=>by omega
 | [],x,f+1,hA,hf=>by
  rw [dC,Lib.countFrom,rk (hA x (List.mem_cons_self ..))]
  rfl
 | y::t,x,f+1,hA,hf=>by
  have hp:0<sep.length:=List.length_pos_iff.2 hs
  rw [dC] at hf ⊢
  rw [List.length_append,List.length_append] at hf
  rw [Lib.countFrom,kW (hA x (List.mem_cons_self ..)),if_neg (by simp),Int.toNat_natCast,←List.append_assoc,List.drop_left' (by simp),mX hs t y f (fun d hd=>hA d (List.mem_cons_of_mem _ hd)) (by omega),List.length_cons]
  omega
theorem lI {sep:List UInt8} :∀ (L:List (List UInt8)) (x:List UInt8),(∀ d∈x::L,qy sep d)→Lib.splitK sep 0 L.length (dC sep (x::L))=x::L
 | [],x,hA=>rfl
 | y::t,x,hA=>by
  rw [dC,List.length_cons,Lib.splitK,kW (hA x (List.mem_cons_self ..)),if_neg (by simp),Int.toNat_natCast,Nat.add_zero,List.take_left,←List.append_assoc,List.drop_left' (by simp),lI t y (fun d hd=>hA d (List.mem_cons_of_mem _ hd))]
theorem pf (s sep:ByteArray):(splT s sep).map bl=Lib.splitK (bl sep) 0 (Lib.countB s sep) (bl s):=Lib.splitB_data sep 0 _ s
theorem vU {L:List ByteArray} {M:List (List UInt8)} (h:L.map bl=M):L=M.map bs:=by
 rw [←h,List.map_map]
 conv=>lhs;rw [←List.map_id L]
 exact List.map_congr_left fun x _=>(pT x).symm
theorem jQ {sep:List UInt8} (hs:sep≠[]) {x:List UInt8} {L:List (List UInt8)} (hA:∀ d∈x::L,qy sep d) (hl:(dC sep (x::L)).length<4294967281):strings_Split (bs (dC sep (x::L))) (bs sep)=some ((x::L).map bs):=by
 have hp:0<sep.length:=List.length_pos_iff.2 hs
 unfold strings_Split
 rw [an (tm ⟨by rw [aD];exact hl,by rw [aD];omega⟩)]
 refine congrArg some (vU ?_)
 rw [pf]
 have hc:Lib.countB (bs (dC sep (x::L))) (bs sep)=L.length:=mX hs L x _ hA (by show _<_+1;exact Nat.lt_succ_self _)
 rw [hc]
 exact lI L x hA
theorem mY {sep:List UInt8} :∀ (k:Nat) (s:List UInt8),∃ x L,Lib.splitK sep 0 k s=x::L∧dC sep (x::L)=s
 | 0,s=>⟨s,[],rfl,rfl⟩
 | k+1,s=>by
  rw [Lib.splitK]
  by_cases h:Lib.index s sep= -1
  ·rw [if_pos (by rw [h];rfl)]
   exact ⟨s,[],rfl,rfl⟩
  ·have h':¬(Lib.index s sep== -1)=true:=fun e=>h (beq_iff_eq.1 e)
   rw [if_neg h',Nat.add_zero]
   obtain ⟨y,t,e1,e2⟩:=mY (sep:=sep) k (s.drop ((Lib.index s sep).toNat+sep.length))
   refine ⟨_,y::t,by rw [e1],?_⟩
   rw [dC,e2]
   rcases Lib.index_spec s sep with ⟨e,_⟩ | ⟨i,e,hi,ho,_⟩
   ·exact absurd e h
   ·rw [e,Int.toNat_natCast]
    unfold Lib.occAt at ho
    obtain ⟨r,hr⟩:=List.isPrefixOf_iff_prefix.1 ho
    rw [←List.drop_drop,←hr,List.drop_left' rfl,hr,List.take_append_drop]
theorem pg {sep:List UInt8} :∀ {L:List (List UInt8)} {d:List UInt8},d∈L→d.length≤(dC sep L).length
 | [],d,h=>by cases h
 | [x],d,h=>by
  rw [List.mem_singleton.1 h];exact Nat.le_refl _
 | x::y::t,d,h=>by
  rw [dC,List.length_append,List.length_append]
  rcases List.mem_cons.1 h with rfl | h
  ·omega
  ·have:=pg (sep:=sep) h
   omega
theorem gO {sep:List UInt8} (hs:sep≠[]) {l:List UInt8} (hl:l.length<4294967281):∃ x L,strings_Split (bs l) (bs sep)=some ((x::L).map bs)∧dC sep (x::L)=l∧L.length≤l.length∧∀ d∈x::L,d.length≤l.length:=by
 have hp:0<sep.length:=List.length_pos_iff.2 hs
 obtain ⟨x,L,e1,e2⟩:=mY (sep:=sep) (Lib.countB (bs l) (bs sep)) l
 have h3:=pf (bs l) (bs sep)
 have h5:(splT (bs l) (bs sep)).map bl=x::L:=h3.trans e1
 have h4:(splT (bs l) (bs sep)).length=Lib.countB (bs l) (bs sep)+1:=Lib.splitB_all (bs sep) (by rw [aD];omega) 0 _ (bs l) rfl
 have h6:=Lib.countB_le (bs sep) (by rw [aD];omega) (bs l).size (bs l) (Nat.le_refl _)
 rw [aD] at h6
 have h7:=congrArg List.length h5
 rw [List.length_map,List.length_cons] at h7
 unfold strings_Split
 rw [an (tm ⟨by rw [aD];exact hl,by rw [aD];omega⟩)]
 exact ⟨x,L,congrArg some (vU h5),e2,by omega,fun d hd=>by rw [←e2];exact pg hd⟩
theorem js (c:UInt8):∀ (L:List (List UInt8)) (x:List UInt8),dC [c] (x::L)=x++L.flatMap fun y=>c::y
 | [],x=>by simp [dC]
 | y::t,x=>by rw [dC,js c t y];simp
theorem iG {c:UInt8} {d r:List UInt8} (h:c∉d) (hl:(d++c::r).length<4294967281):cd (bs (d++c::r)) (bs [c])=some (bs d,bs r,true):=by
 have hi:idxT (bs (d++c::r)) (bs [c])=(d.length:Int):=kW (gN h) r
 have hl':=hl
 rw [List.length_append,List.length_cons] at hl'
 unfold cd cY bx
 rw [an (pZ (by rw [aD];exact hl)),ah,hi,nA (by omega),cond_true,w64 (by simp only [aD,List.length_cons,List.length_nil];omega),an (mG ⟨by omega,by rw [aD,List.length_append];omega⟩),an (mG ⟨by omega,by simp only [aD,List.length_append,List.length_cons,List.length_nil];omega⟩)]
 rw [ah]
 refine congrArg some (Prod.ext (bS ?_) (Prod.ext (bS ?_) rfl))
 ·show bl ((bs (d++c::r)).extract 0 _)=_
  rw [eV,ir,ir,Int.toNat_natCast,List.take_left,List.drop_zero]
 ·show bl ((bs (d++c::r)).extract _ _)=_
  rw [eV,ir,ir,show ((d.length:Int)+((bs [c]).size:Int)).toNat=d.length+1 by simp only [aD,List.length_cons,List.length_nil];omega,aD,List.take_length,show d++c::r=(d++[c])++r by simp,List.drop_left' (by simp)]
theorem rl {c:UInt8} {l:List UInt8} (h:c∉l) (hl:l.length<4294967281):cd (bs l) (bs [c])=some (bs l,bs [],false):=by
 have hi:idxT (bs l) (bs [c])= -1:=rk (gN h)
 unfold cd cY bx
 rw [an (pZ (by rw [aD];exact hl)),ah,hi]
 rfl
theorem n5 (c:UInt8) {l:List UInt8} (hl:l.length<4294967281):∃ a b t,cd (bs l) (bs [c])=some (bs a,bs b,t)∧((t=true∧l=a++c::b∧c∉a)∨(t=false∧a=l∧b=[]∧c∉l)):=by
 by_cases h:c∈l
 ·obtain ⟨a,b,rfl,ha⟩:=List.eq_append_cons_of_mem h
  exact ⟨a,b,true,iG ha hl, .inl ⟨rfl,rfl,ha⟩⟩
 ·exact ⟨l,[],false,rl h hl, .inr ⟨rfl,rfl,rfl,h⟩⟩
theorem ud (l p:List UInt8) (hp:p.length≤100):∃ b,bm (bs l) (bs p)=some b∧(b=true→∃ r,l=p++r)∧(b=false→∀ r,l≠p++r):=by
 unfold bm
 by_cases hle:p.length≤l.length
 ·have h1:iLe ((bs p).size:Int) ((bs l).size:Int)=true:=nA (by rw [aD,aD];omega)
  have h2:(bs l).extract 0 ((bs p).size:Int).toNat=bs (l.take p.length):=bS (by rw [eV,ir,ir,Int.toNat_natCast,aD,List.drop_zero])
  rw [h1,h2,an (by rw [Bool.not_true,Bool.false_or];exact mG ⟨by omega,by rw [aD,aD];omega⟩)]
  refine ⟨_,rfl,fun hb=>?_,fun hb r e=>?_⟩
  ·rw [Bool.true_and,eD] at hb
   have hb':l.take p.length=p:=congrArg bl hb
   exact ⟨l.drop p.length,by conv=>lhs;rw [←List.take_append_drop p.length l,hb']⟩
  ·rw [Bool.true_and,uR] at hb
   exact hb (by rw [e,List.take_left])
 ·have h1:iLe ((bs p).size:Int) ((bs l).size:Int)=false:=uQ (by rw [aD,aD];omega)
  rw [h1,an (by rfl)]
  exact ⟨false,rfl,fun h=>(by cases h),fun _ r e=>hle (by rw [e,List.length_append];omega)⟩
theorem lJ (l:List UInt8) (hl:l.length<4294967281):(∃ r,l=32::32::r∧bZ (bs l) (⟨#[32,32]⟩:ByteArray)=some (bs r,true))∨((∀ r,l≠32::32::r)∧bZ (bs l) (⟨#[32,32]⟩:ByteArray)=some (bs l,false)):=by
 obtain ⟨b,h1,h2,h3⟩:=ud l [32,32] (by decide)
 unfold bZ cf
 rw [show (⟨#[32,32]⟩:ByteArray)=bs [32,32] from rfl,h1,ah]
 cases b with
 | true=>
  obtain ⟨r,rfl⟩:=h2 rfl
  refine .inl ⟨r,rfl,?_⟩
  rw [Bool.not_true,cond_false,an (mG ⟨by omega,by rw [aD,aD,List.length_append];omega⟩),ah]
  refine congrArg some (Prod.ext (bS ?_) rfl)
  show bl ((bs _).extract _ _)=_
  rw [eV,ir,ir,Int.toNat_natCast,aD,aD,List.take_length,List.drop_left]
 | false=>exact .inr ⟨h3 rfl,rfl⟩
theorem ph (b:UInt8):∀ (l:List UInt8) (acc n:Nat),Lib.decFrom acc l=some n→∀ d,Lib.digitVal b=some d→Lib.decFrom acc (l++[b])=some (n*10+d)
 | [],acc,n,h,d,hd=>by
  injection h with h
  subst h
  simp [Lib.decFrom,hd]
 | a::l,acc,n,h,d,hd=>by
  rw [List.cons_append,Lib.decFrom]
  rw [Lib.decFrom] at h
  cases ha:Lib.digitVal a with
  | none=>rw [ha] at h;cases h
  | some e=>
   rw [ha] at h
   exact ph b l _ n h d hd
theorem ue {u:Nat} (h:u<10):Lib.digitVal (UInt8.ofNat (48+u))=some u:=by
 have e:(UInt8.ofNat (48+u)).toNat=48+u:=by
  rw [UInt8.toNat_ofNat']
  omega
 unfold Lib.digitVal
 rw [e,if_pos (by omega)]
 congr 1
 omega
theorem rm:∀ (f u:Nat),u<10 ^f→0<f→Lib.decFrom 0 (decF f u)=some u∧decF f u≠[]
 | 0,u,h,h0=>by omega
 | f+1,u,h,_=>by
  rw [decF]
  by_cases hu:u<10
  ·rw [if_pos hu]
   refine ⟨?_,by simp⟩
   rw [Lib.decFrom,ue hu]
   simp [Lib.decFrom]
  ·rw [if_neg hu]
   have hf:0<f:=by
    rcases Nat.eq_zero_or_pos f with rfl | h'
    ·simp at h;omega
    ·exact h'
   rw [Nat.pow_succ] at h
   obtain ⟨h1,h2⟩:=rm f (u /10) (by omega) hf
   refine ⟨?_,by simp⟩
   rw [ph _ _ _ _ h1 (u %10) (ue (by omega))]
   congr 1
   omega
theorem wQ:∀ (m f u:Nat),u<10 ^m→0<m→m≤f→(decF f u).length≤m:=fun m f u h h0 hf=>by
 rw [vb m f u h h0 hf]
 exact kV m u
theorem kX:∀ (f u:Nat) (b:UInt8),b∈decF f u→48≤b.toNat∧b.toNat≤57
 | 0,u,b,h=>by cases h
 | f+1,u,b,h=>by
  have e:∀ v,v<10→(UInt8.ofNat (48+v)).toNat=48+v:=fun v hv=>by rw [UInt8.toNat_ofNat'];omega
  rw [decF] at h
  split at h
  ·rename_i hu
   rw [List.mem_singleton.1 h,e u hu]
   omega
  ·rcases List.mem_append.1 h with h | h
   ·exact kX f _ b h
   ·rw [List.mem_singleton.1 h,e (u %10) (by omega)]
    omega
theorem pj {n:Int} {b:UInt8} (h:b∈aW n):b.toNat=45∨(48≤b.toNat∧b.toNat≤57):=by
 unfold aW at h
 split at h
 ·rcases List.mem_cons.1 h with rfl | h
  ·exact .inl rfl
  ·exact .inr (kX _ _ _ h)
 ·exact .inr (kX _ _ _ h)
theorem uf {n:Int} (h: -9999999999≤n∧n≤9999999999):Lib.atoiAll (aW n)= .ok n∧(aW n).length≤11∧(0≤n→(aW n).length≤10):=by
 have key:∀ u:Nat,u≤9999999999→Lib.decNat (decF 20 u)=some u∧(decF 20 u).length≤10∧decF 20 u≠[]:=fun u hu=>by
  obtain ⟨h1,h2⟩:=rm 20 u (by omega) (by decide)
  refine ⟨?_,wQ 10 20 u (by omega) (by decide) (by decide),h2⟩
  unfold Lib.decNat
  rw [if_neg (by simpa using h2)]
  exact h1
 unfold aW
 by_cases hn:n<0
 ·obtain ⟨h1,h2,h3⟩:=key n.natAbs (by omega)
  rw [if_pos hn]
  refine ⟨?_,by rw [List.length_cons];omega,fun h=>by omega⟩
  rw [Lib.atoiAll_short _ (by rw [List.length_cons];omega),Lib.atoi,if_pos (by decide),h1]
  show Lib.NumEnd.ok (-((n.natAbs:Nat):Int))=_
  rw [show -((n.natAbs:Nat):Int)=n by omega]
 ·obtain ⟨h1,h2,h3⟩:=key n.toNat (by omega)
  rw [if_neg hn]
  refine ⟨?_,by omega,fun _=>h2⟩
  rw [Lib.atoiAll_short _ (by omega)]
  cases hd:decF 20 n.toNat with
  | nil=>exact absurd hd h3
  | cons b r=>
   have hb:=kX 20 n.toNat b (by rw [hd];exact List.mem_cons_self ..)
   have n45:¬(b==45)=true:=fun e=>by rw [beq_iff_eq.1 e] at hb;exact absurd hb.1 (by decide)
   have n43:¬(b==43)=true:=fun e=>by rw [beq_iff_eq.1 e] at hb;exact absurd hb.1 (by decide)
   rw [Lib.atoi,if_neg n45,if_neg n43,←hd,h1]
   show Lib.NumEnd.ok ((n.toNat:Nat):Int)=_
   rw [show ((n.toNat:Nat):Int)=n by omega]
theorem rn (l:List UInt8) (hl:l.length<4294967281):(∃ r,l=45::r∧bj (bs l) (⟨#[45]⟩:ByteArray)=some (bs r))∨((∀ r,l≠45::r)∧bj (bs l) (⟨#[45]⟩:ByteArray)=some (bs l)):=by
 obtain ⟨b,h1,h2,h3⟩:=ud l [45] (by decide)
 unfold bj bR
 rw [show (⟨#[45]⟩:ByteArray)=bs [45] from rfl,h1,ah]
 cases b with
 | true=>
  obtain ⟨r,rfl⟩:=h2 rfl
  refine .inl ⟨r,rfl,?_⟩
  rw [cond_true,an (mG ⟨by omega,by rw [aD,aD,List.length_append];omega⟩),ah]
  refine congrArg some (bS ?_)
  rw [eV,ir,ir,Int.toNat_natCast,aD,aD,List.take_length,List.drop_left]
 | false=>exact .inr ⟨h3 rfl,rfl⟩
theorem fG (l:List UInt8) (hl:l.length≤100000):∃ n ok,dn (bs l)=some (n,ok)∧(ok=true→l=aW n∧iC n):=by
 have ht:∃ x,bj (bs l) (⟨#[45]⟩:ByteArray)=some x:=by
  rcases rn l (by omega) with ⟨r,_,h⟩ | ⟨_,h⟩
  ·exact ⟨_,h⟩
  ·exact ⟨_,h⟩
 obtain ⟨x,hx⟩:=ht
 unfold dn ez
 rw [an (tq (by rw [aD];omega)),ah,hx]
 dsimp only
 cases hb:atoB (bs l) with
 | true=>
  rw [Bool.not_true,cond_false,ah,Bool.true_or,Bool.not_true,cond_false,ah,Bool.true_or,cond_true]
  exact ⟨0,false,rfl,fun h=>by cases h⟩
 | false=>
  have hr:iC (atoN (bs l)):=by
   unfold atoB at hb
   unfold atoN
   split at hb
   ·rename_i v hv
    rw [hv]
    exact Lib.atoiAll_bounds hv
   ·cases hb
  rw [Bool.not_false,cond_true,ah,Bool.false_or,iB hr]
  cases hc:iLt 10 (x.size:Int) with
  | true=>
   rw [Bool.not_true,cond_false,ah,Bool.true_or,cond_true]
   exact ⟨0,false,rfl,fun h=>by cases h⟩
  | false=>
   rw [Bool.not_false,cond_true,ah,Bool.false_or]
   cases he:sEq (bs (aW (atoN (bs l)))) (bs l) with
   | false=>exact ⟨0,false,rfl,fun h=>by cases h⟩
   | true=>
    refine ⟨_,true,rfl,fun _=>⟨?_,hr⟩⟩
    exact (congrArg bl (eD.1 he)).symm
theorem ga {n:Int} (h: -9999999999≤n∧n≤9999999999):dn (bs (aW n))=some (n,true):=by
 obtain ⟨h1,h2,h3⟩:=uf h
 have hN:atoN (bs (aW n))=n:=by
  unfold atoN
  rw [show (bs (aW n)).data.toList=aW n from rfl,h1]
 have hB:atoB (bs (aW n))=false:=by
  unfold atoB
  rw [show (bs (aW n)).data.toList=aW n from rfl,h1]
 have ht:∃ x,bj (bs (aW n)) (⟨#[45]⟩:ByteArray)=some x∧x.size≤10:=by
  rcases rn (aW n) (by omega) with ⟨r,e,h⟩ | ⟨e,h⟩
  ·refine ⟨_,h,?_⟩
   rw [e,List.length_cons] at h2
   rw [aD]
   omega
  ·refine ⟨_,h,?_⟩
   rw [aD]
   by_cases hn:n<0
   ·have:aW n=45::decF 20 n.natAbs:=by unfold aW;rw [if_pos hn]
    exact absurd this (e _)
   ·exact h3 (by omega)
 obtain ⟨x,hx,hx2⟩:=ht
 unfold dn ez
 rw [an (tq (by rw [aD];omega)),ah,hx]
 dsimp only
 rw [hB,hN,Bool.not_false,cond_true,ah,Bool.false_or,bk (by omega),Bool.not_false,cond_true,iB (by omega),ah,pS rfl]
 rfl
end LJ
end
section
namespace LJ
open Go Go.RowKit
set_option linter.unusedVariables false
set_option linter.unusedSimpArgs false
theorem jR (k:Int):∀ b∈cH k,97≤b.toNat∧b.toNat≤122:=by
 unfold cH
 cases iEq k 1 <;> cases iEq k 2 <;> cases iEq k 3 <;> cases iEq k 4 <;> cases iEq k 5 <;> decide
theorem ug (k:Int):∀ b∈bl (gL k),97≤b.toNat∧b.toNat≤122:=by
 unfold gL dN
 cases iEq k 1 <;> cases iEq k 2 <;> cases iEq k 3 <;> cases iEq k 4 <;> cases iEq k 5 <;> cases iEq k 6 <;> cases iEq k 7 <;> decide
theorem mZ (k:Int):∀ b∈bl (iy k),97≤b.toNat∧b.toNat≤122:=fun b hb=>by
 unfold iy at hb
 cases h:opK k with
 | false=>rw [h] at hb;cases hb
 | true=>
  have hk:=eH.1 h
  rw [h,cond_true] at hb
  have h2:=(tU ⟨k.toNat,by omega⟩).1
  exact of_decide_eq_true (List.all_eq_true.1 h2 b hb)
theorem vd {l:List UInt8} {c:UInt8} (h:∀ b∈l,97≤b.toNat∧b.toNat≤122) (hc:c.toNat<97∨122<c.toNat):c∉l:=fun hm=>by
 have:=h c hm
 omega
theorem wR {n:Int} {c:UInt8} (h1:c.toNat≠45) (h2:c.toNat<48∨57<c.toNat):c∉aW n:=fun hm=>by
 have:=pj hm
 omega
theorem n6:(⟨#[32]⟩:ByteArray)=bs [32]:=rfl
theorem xC:(⟨#[58]⟩:ByteArray)=bs [58]:=rfl
theorem xD:(⟨#[10]⟩:ByteArray)=bs [10]:=rfl
theorem qz {k:Nat} (hk:k≤2) {L:List (List UInt8)} (hL:∀ l∈L,l.length≤100000):∃ v ok,fV (L.map bs) (k:Int)=some (v,ok)∧(ok=true→L=([v.getD (0:Int).toNat default,v.getD (1:Int).toNat default].take k).map aW):=by
 obtain ⟨F,hF⟩:=tA
 unfold fV
 rw [List.length_map]
 by_cases h:L.length=k
 ·rw [df (by omega),cond_false,hF]
  match L,k,h,hk with
  | [],0,_,_=>exact ⟨_,_,rfl,fun _=>rfl⟩
  | [a],1,_,_=>
   obtain ⟨n,ok,e,hok⟩:=fG a (hL a (List.mem_cons_self ..))
   rw [show List.map bs [a]=[bs a] from rfl,c5]
   dsimp only
   rw [aY (by simp only [List.length_cons,List.length_nil];omega),cond_true,an (aH ⟨by omega,by simp only [List.length_cons,List.length_nil];omega⟩),show ([bs a].getD (0:Int).toNat default)=bs a from rfl,e,ah]
   cases ok with
   | false=>exact ⟨_,_,rfl,fun h=>by cases h⟩
   | true=>
    obtain ⟨h1,h2⟩:=hok rfl
    refine ⟨_,_,rfl,fun _=>?_⟩
    rw [h1]
    rfl
  | [a,b],2,_,_=>
   obtain ⟨n,ok,e,hok⟩:=fG a (hL a (List.mem_cons_self ..))
   obtain ⟨n2,ok2,e2,hok2⟩:=fG b (hL b (List.mem_cons_of_mem _ (List.mem_cons_self ..)))
   rw [show List.map bs [a,b]=[bs a,bs b] from rfl,c5]
   dsimp only
   rw [aY (by simp only [List.length_cons,List.length_nil];omega),cond_true,an (aH ⟨by omega,by simp only [List.length_cons,List.length_nil];omega⟩),show ([bs a,bs b].getD (0:Int).toNat default)=bs a from rfl,e,ah]
   cases ok with
   | false=>exact ⟨_,_,rfl,fun h=>by cases h⟩
   | true=>
    obtain ⟨h1,h2⟩:=hok rfl
    dsimp only
    rw [Bool.not_true,cond_false,an (aH ⟨by omega,by omega⟩),w64 (by omega),show (0:Int)+1=1 from rfl,c5]
    dsimp only
    rw [aY (by simp only [List.length_cons,List.length_nil];omega),cond_true,an (aH ⟨by omega,by simp only [List.length_cons,List.length_nil];omega⟩),show ([bs a,bs b].getD (1:Int).toNat default)=bs b from rfl,e2,ah]
    cases ok2 with
    | false=>exact ⟨_,_,rfl,fun h=>by cases h⟩
    | true=>
     obtain ⟨h3,h4⟩:=hok2 rfl
     refine ⟨_,_,rfl,fun _=>?_⟩
     rw [h1,h3]
     rfl
 ·rw [eu (by omega),cond_true]
  exact ⟨_,_,rfl,fun h=>by cases h⟩
theorem n7 {k:Nat} (hk:k≤2) {a b:Int} (ha: -9999999999≤a∧a≤9999999999) (hb: -9999999999≤b∧b≤9999999999) (za:k=0→a=0) (zb:k≤1→b=0):fV ((([a,b].take k).map aW).map bs) (k:Int)=some ([a,b],true):=by
 obtain ⟨F,hF⟩:=tA
 have e1:=ga ha
 have e2:=ga hb
 unfold fV
 rw [hF]
 match k,hk with
 | 0,_=>rw [za rfl,zb (by omega)];rfl
 | 1,_=>
  rw [show (([a,b].take 1).map aW).map bs=[bs (aW a)] from rfl,df (by rfl),cond_false,c5]
  dsimp only
  rw [aY (by simp only [List.length_cons,List.length_nil];omega),cond_true,an (aH ⟨by omega,by simp only [List.length_cons,List.length_nil];omega⟩),show ([bs (aW a)].getD (0:Int).toNat default)=bs (aW a) from rfl,e1,ah,zb (by omega)]
  rfl
 | 2,_=>
  rw [show (([a,b].take 2).map aW).map bs=[bs (aW a),bs (aW b)] from rfl,df (by rfl),cond_false,c5]
  dsimp only
  rw [aY (by simp only [List.length_cons,List.length_nil];omega),cond_true,an (aH ⟨by omega,by simp only [List.length_cons,List.length_nil];omega⟩),show ([bs (aW a),bs (aW b)].getD (0:Int).toNat default)=bs (aW a) from rfl,e1,ah]
  dsimp only
  rw [Bool.not_true,cond_false,an (aH ⟨by omega,by omega⟩),w64 (by omega),show (0:Int)+1=1 from rfl,c5]
  dsimp only
  rw [aY (by simp only [List.length_cons,List.length_nil];omega),cond_true,an (aH ⟨by omega,by simp only [List.length_cons,List.length_nil];omega⟩),show ([bs (aW a),bs (aW b)].getD (1:Int).toNat default)=bs (aW b) from rfl,e2,ah]
  rfl
theorem uh (nm:ByteArray):∀ (m i f:Nat),i+m=8→1≤i→m<f→∃ k,dB nm f (i:Int)=some k∧(k=0∨(1≤k∧k≤7∧gL k=nm))
 | m,i,0,h,h1,hf=>by omega
 | 0,i,f+1,h,h1,hf=>by
  rw [dB,uQ (by omega),cond_false]
  exact ⟨_,rfl, .inl rfl⟩
 | m+1,i,f+1,h,h1,hf=>by
  rw [dB,nA (by omega),cond_true,kb,ah,w64 (by omega),show (i:Int)+1=((i+1:Nat):Int) by omega]
  cases e:sEq (gL (i:Int)) nm with
  | true=>exact ⟨_,rfl, .inr ⟨by omega,by omega,eD.1 e⟩⟩
  | false=>exact uh nm m (i+1) f (by omega) (by omega) (by omega)
theorem ve (nm:ByteArray):∃ k,hH nm=some k∧(k=0∨(1≤k∧k≤7∧gL k=nm)):=uh nm 7 1 fuel rfl (by decide) (by have:=aJ;omega)
theorem vf:∀ k:Fin 8,1≤(k:Nat)→hH (gL (k:Nat))=some ((k:Nat):Int):=by decide+kernel
theorem ui {k:Int} (h:1≤k∧k≤7):hH (gL k)=some k:=by
 have:=vf ⟨k.toNat,by omega⟩ (by dsimp only;omega)
 dsimp only at this
 rwa [Int.toNat_of_nonneg (by omega)] at this
theorem vg {k:Int} :∃ r,e9 ([([(⟨k,0,0⟩:aa)]:List aa)]:List (List aa))=some (bs (cH k++([32]++r)))∧r.length≤100:=by
 refine ⟨aW 0++cond (iEq k 4||iEq k 5) ([58]++aW 0) [],?_,?_⟩
 ·rw [tS (by simp) (fun l hl=>by
   rw [List.mem_singleton.1 hl]
   refine ⟨by simp,fun x hx=>?_⟩
   rw [List.mem_singleton.1 hx]
   exact ⟨by dsimp only;omega,by dsimp only;omega⟩)]
  refine congrArg some (congrArg bs ?_)
  simp [dQ,dq,eA]
 ·have:=cK 0
  cases (iEq k 4||iEq k 5) <;> simp only [cond_true,cond_false,List.length_append,List.length_cons,List.length_nil] <;> omega
theorem jt {X:ByteArray×ByteArray×Bool} {k:Nat} (hk:1≤k∧k≤5) {F:Nat} {c:Int} :cm X (F+1) ((k:Int),c)=cm X F (((k+1:Nat):Int),cond (sEq (bs (cH k)) X.1) (k:Int) c):=by
 obtain ⟨r,e,hr⟩:=vg (k:=(k:Int))
 have hl:=gJ (k:Int)
 rw [cm]
 dsimp only
 have hi:idxT (bs (cH k++([32]++r))) (bs [32])=((cH k).length:Int):=kW (gN (vd (jR _) (.inl (by decide)))) r
 have hx:(bs (cH k++([32]++r))).extract 0 ((cH k).length:Int).toNat=bs (cH k):=bS (by rw [eV,ir,ir,Int.toNat_natCast,List.take_left,List.drop_zero])
 rw [nA (by omega),cond_true,e,ah,n6]
 unfold eP bx
 rw [an (pZ (by rw [aD];simp only [List.length_append,List.length_cons,List.length_nil];omega)),ah,hi,ah,an (mG ⟨by omega,by rw [aD,List.length_append];omega⟩),hx,w64 (by omega),show (k:Int)+1=((k+1:Nat):Int) by omega]
 cases sEq (bs (cH k)) X.1 <;> rfl
def kw (w:ByteArray):Int:=cond (sEq (bs (cH 5)) w) 5 (cond (sEq (bs (cH 4)) w) 4 (cond (sEq (bs (cH 3)) w) 3 (cond (sEq (bs (cH 2)) w) 2 (cond (sEq (bs (cH 1)) w) 1 0))))
theorem xZ (w:ByteArray):kw w=0∨(1≤kw w∧kw w≤5∧bs (cH (kw w))=w):=by
 unfold kw
 cases h5:sEq (bs (cH 5)) w with
 | true=>exact .inr ⟨show (1:Int)≤5 by decide,show (5:Int)≤5 by decide,eD.1 h5⟩
 | false=>
 cases h4:sEq (bs (cH 4)) w with
 | true=>exact .inr ⟨show (1:Int)≤4 by decide,show (4:Int)≤5 by decide,eD.1 h4⟩
 | false=>
 cases h3:sEq (bs (cH 3)) w with
 | true=>exact .inr ⟨show (1:Int)≤3 by decide,show (3:Int)≤5 by decide,eD.1 h3⟩
 | false=>
 cases h2:sEq (bs (cH 2)) w with
 | true=>exact .inr ⟨show (1:Int)≤2 by decide,show (2:Int)≤5 by decide,eD.1 h2⟩
 | false=>
 cases h1:sEq (bs (cH 1)) w with
 | true=>exact .inr ⟨show (1:Int)≤1 by decide,show (1:Int)≤5 by decide,eD.1 h1⟩
 | false=>exact .inl rfl
theorem xE:kw (bs (cH 1))=1∧kw (bs (cH 2))=2∧kw (bs (cH 3))=3∧kw (bs (cH 4))=4∧kw (bs (cH 5))=5:=by decide+kernel
theorem wS {k:Int} (h:1≤k∧k≤5):kw (bs (cH k))=k:=by
 have hc:k=1∨k=2∨k=3∨k=4∨k=5:=by omega
 obtain ⟨h1,h2,h3,h4,h5⟩:=xE
 rcases hc with rfl | rfl | rfl | rfl | rfl
 ·exact h1
 ·exact h2
 ·exact h3
 ·exact h4
 ·exact h5
theorem rp (X:ByteArray×ByteArray×Bool):∃ F,cm X fuel (1,0)=cm X (F+1) (6,kw X.1):=by
 obtain ⟨F,hF⟩:∃ F,fuel=F+1+1+1+1+1+1:=⟨fuel - 6,by have:=aJ;omega⟩
 rw [hF,show ((1:Int),(0:Int))=(((1:Nat):Int),(0:Int)) from rfl,jt (by decide),jt (by decide),jt (by decide),jt (by decide),jt (by decide)]
 exact ⟨F,rfl⟩
theorem isN (c:Int) (h:1≤c∧c≤5):(iEq c 4||iEq c 5)=iLe 4 c:=by
 rw [Bool.eq_iff_iff]
 simp only [Bool.or_eq_true,fS,dW]
 omega
theorem wT (l:List UInt8) (hl:l.length≤100000):∃ x ok,iv (bs l)=some (x,ok)∧(ok=true→l=eA x):=by
 obtain ⟨a,b,t,e,hc⟩:=n5 32 (l:=l) (by omega)
 obtain ⟨F,e2⟩:=rp (bs a,bs b,t)
 have h1:=xZ (bs a)
 dsimp only at e2
 generalize kw (bs a)=c at e2 h1
 unfold iv
 rw [n6,e,ah,e2,cm]
 dsimp only
 rw [uQ (by decide),cond_false]
 rcases h1 with rfl | ⟨k1,k5,hw⟩
 ·exact ⟨_,false,rfl,fun h=>by cases h⟩
 ·rw [cy (by omega),Bool.false_or]
  cases t with
  | false=>exact ⟨_,false,rfl,fun h=>by cases h⟩
  | true=>
   rcases hc with ⟨_,hl2,ha⟩ | ⟨h,_⟩
   ·have hla:=congrArg List.length hl2
    rw [List.length_append,List.length_cons] at hla
    obtain ⟨a2,b2,t2,e3,hc2⟩:=n5 58 (l:=b) (by omega)
    rw [Bool.not_true,cond_false,xC,e3,ah]
    dsimp only
    have hl2':a2.length≤100000∧b2.length≤100000:=by
     rcases hc2 with ⟨_,q,_⟩ | ⟨_,q,r,_⟩
     ·have:=congrArg List.length q
      rw [List.length_append,List.length_cons] at this
      omega
     ·rw [q,r];exact ⟨by omega,Nat.zero_le _⟩
    have hk:cH c=a:=congrArg bl hw
    cases h4:(t2==iLe 4 c) with
    | false=>exact ⟨_,false,rfl,fun h=>by cases h⟩
    | true=>
     have ht2:t2=iLe 4 c:=beq_iff_eq.1 h4
     rw [Bool.not_true,cond_false]
     obtain ⟨n1,ok1,e4,h5⟩:=fG a2 hl2'.1
     rw [e4,ah]
     cases ok1 with
     | false=>exact ⟨_,false,rfl,fun h=>by cases h⟩
     | true=>
      obtain ⟨h6,_⟩:=h5 rfl
      cases t2 with
      | true=>
       obtain ⟨n2,ok2,e5,h7⟩:=fG b2 hl2'.2
       dsimp only
       rw [Bool.and_self,cond_true,e5,ah]
       refine ⟨_,_,rfl,fun h=>?_⟩
       obtain ⟨h8,_⟩:=h7 h
       rcases hc2 with ⟨_,q,_⟩ | ⟨q,_⟩
       ·rw [hl2,q,h6,h8,←hk]
        unfold eA
        dsimp only
        rw [isN c ⟨k1,k5⟩,←ht2]
        simp
       ·cases q
      | false=>
       refine ⟨_,_,rfl,fun h=>?_⟩
       rcases hc2 with ⟨q,_⟩ | ⟨_,q,_⟩
       ·cases q
       ·rw [hl2,←q,h6,←hk]
        unfold eA
        dsimp only
        rw [isN c ⟨k1,k5⟩,←ht2]
        simp
   ·cases h
theorem vh {x:aa} (h:RngN x):iv (bs (eA x))=some (x,true):=by
 obtain ⟨K,O,N⟩:=x
 have hk:=h.k
 have ho:=h.o
 have hn:=h.n
 have hz:=h.nz
 dsimp only at hk ho hn hz
 have g1:=gJ K
 have g2:=cK O
 have g3:=cK N
 obtain ⟨F,e2⟩:=rp (bs (cH K),bs (aW O++cond (iLe 4 K) (58::aW N) []),true)
 dsimp only at e2
 rw [wS hk] at e2
 have ht:eA ⟨K,O,N⟩=cH K++32::(aW O++cond (iLe 4 K) (58::aW N) []):=by
  unfold eA
  dsimp only
  rw [isN K hk]
  simp
 have gl:(cond (iLe 4 K) (58::aW N) []).length≤22:=by cases iLe 4 K <;> simp only [cond_true,cond_false,List.length_cons,List.length_nil] <;> omega
 unfold iv
 rw [ht,n6,iG (vd (jR _) (.inl (by decide))) (by simp only [List.length_append,List.length_cons];omega),ah,e2,cm]
 dsimp only
 rw [uQ (by decide),cond_false,cy (by omega),Bool.not_true,Bool.or_self,cond_false,xC]
 have e1:=ga (n:=O) (by omega)
 have e3:=ga (n:=N) (by omega)
 cases h4:iLe 4 K with
 | true=>
  rw [cond_true,iG (wR (by decide) (.inr (by decide))) (by simp only [List.length_append,List.length_cons];omega),ah]
  dsimp only
  rw [beq_self_eq_true,Bool.not_true,cond_false,e1,ah]
  dsimp only
  rw [Bool.and_self,cond_true,e3,ah]
 | false=>
  have h4':=fi.1 h4
  rw [cond_false,List.append_nil,rl (wR (by decide) (.inr (by decide))) (by omega),ah]
  dsimp only
  rw [beq_self_eq_true,Bool.not_true,cond_false,e1,ah,hz (by omega)]
  rfl
theorem lK:∀ (t:List aa) (x:aa),dq false (x::t)=[32,43,32]++dC [32,43,32] ((x::t).map eA)
 | [],x=>by simp [dq,dC]
 | y::t,x=>by
  rw [dq,lK t y]
  simp [dC]
theorem jS:∀ l:List aa,dq true l=dC [32,43,32] (l.map eA)
 | []=>rfl
 | [x]=>by simp [dq,dC]
 | x::y::t=>by
  rw [dq,lK t y]
  simp [dC]
theorem lL:∀ (t:List (List aa)) (x:List aa),dQ false (x::t)=[32,124,32]++dC [32,124,32] ((x::t).map (dq true))
 | [],x=>by simp [dQ,dC]
 | y::t,x=>by
  rw [dQ,lL t y]
  simp [dC]
theorem m4:∀ l:List (List aa),dQ true l=dC [32,124,32] (l.map (dq true))
 | []=>rfl
 | [x]=>by simp [dQ,dC]
 | x::y::t=>by
  rw [dQ,lL t y]
  simp [dC]
theorem gb {L:List (List UInt8)} {i:Nat} (h:i<L.length):(L.map bs).getD i default=bs (L.getD i default):=by
 rw [List.getD_eq_getElem?_getD,List.getElem?_map,List.getElem?_eq_getElem h,List.getD_eq_getElem?_getD,List.getElem?_eq_getElem h]
 rfl
theorem uj {s3:Int×List (List aa)} {K6:List (List aa)→Option (List (List aa)×Bool)} (hs:s3.2.length≤100000) {L:List (List UInt8)} (hn:L.length≤100001) (hL:∀ l∈L,l.length≤100000):∀ (n i f:Nat) (acc:List aa),i+n=L.length→n<f→acc.length=i→
  bL s3 K6 (L.map bs) f ((i:Int),acc)=some ([],false)∨∃ M:List aa,L.drop i=M.map eA∧bL s3 K6 (L.map bs) f ((i:Int),acc)=K6 (s3.2++[acc++M])
 | n,i,0,acc,hi,hf,ha=>by omega
 | 0,i,f+1,acc,hi,hf,ha=>by
  rw [bL]
  dsimp only
  rw [List.length_map,bk (by omega),cond_false,an (bg (by simp only [List.length_cons,List.length_nil];omega))]
  exact .inr ⟨[],by rw [List.drop_eq_nil_of_le (by omega)];rfl,by rw [List.append_nil]⟩
 | n+1,i,f+1,acc,hi,hf,ha=>by
  obtain ⟨x,ok,e,hok⟩:=wT (L.getD i default) (hL _ (dv L i (by omega)))
  rw [bL]
  dsimp only
  rw [List.length_map,aY (by omega),cond_true,an (aH ⟨by omega,by omega⟩),Int.toNat_natCast,gb (by omega),e,ah]
  cases ok with
  | false=>exact .inl rfl
  | true=>
   dsimp only
   rw [Bool.not_true,cond_false,an (bg (by simp only [List.length_cons,List.length_nil];omega)),w64 (by omega),show (i:Int)+1=((i+1:Nat):Int) by omega]
   rcases uj hs hn hL n (i+1) f (acc++[x]) (by omega) (by omega) (by simp [ha]) with h | ⟨M,h1,h2⟩
   ·exact .inl h
   ·refine .inr ⟨x::M,?_,?_⟩
    ·rw [aV L i (by omega),h1,hok rfl]
     rfl
    ·rw [h2,List.append_assoc]
     rfl
theorem vV {L:List (List UInt8)} (hn:L.length≤100001) (hL:∀ l∈L,l.length≤100000):∀ (n i f:Nat) (acc:List (List aa)),i+n=L.length→n<f→acc.length=i→i≤100000→
  bA (L.map bs) f ((i:Int),acc)=some ([],false)∨∃ M:List (List aa),L.drop i=M.map (dq true)∧(∀ m∈M,m≠[])∧bA (L.map bs) f ((i:Int),acc)=some (acc++M,true)
 | n,i,0,acc,hi,hf,ha,h1=>by omega
 | 0,i,f+1,acc,hi,hf,ha,h1=>by
  rw [bA]
  dsimp only
  rw [List.length_map,bk (by omega),cond_false]
  exact .inr ⟨[],by rw [List.drop_eq_nil_of_le (by omega)];rfl,fun m h=>(by cases h),by rw [List.append_nil]⟩
 | n+1,i,f+1,acc,hi,hf,ha,h1=>by
  have hm:=hL _ (dv L i (by omega))
  obtain ⟨x,T,e,h2,h3,h4⟩:=gO (sep:=[32,43,32]) (by simp) (l:=L.getD i default) (by omega)
  rw [bA]
  dsimp only
  rw [List.length_map,aY (by omega),cond_true,dP,an (aH ⟨by omega,by omega⟩),Int.toNat_natCast,gb (by omega),lits.1,e,ah]
  rcases uj (s3:=((i:Int),acc)) (K6:=fun s7:List (List aa)=>bA (L.map bs) f (IntKind.i64.wrap ((i:Int)+1),s7)) (by dsimp only;omega) (L:=x::T) (by rw [List.length_cons];omega) (fun l hl=>Nat.le_trans (h4 l hl) hm) (x::T).length 0 fuel [] (by omega) (by have:=aJ;rw [List.length_cons];omega) rfl with h | ⟨M,h5,h6⟩
  ·exact .inl h
  ·rw [show (0:Int)=((0:Nat):Int) from rfl,h6]
   dsimp only
   rw [w64 (by omega),show (i:Int)+1=((i+1:Nat):Int) by omega,List.nil_append]
   rw [List.drop_zero] at h5
   by_cases hi2:i+1≤100000
   ·rcases vV hn hL n (i+1) f (acc++[M]) (by omega) (by omega) (by simp [ha]) hi2 with h | ⟨M2,h7,h8,h9⟩
    ·exact .inl h
    ·refine .inr ⟨M::M2,?_,?_,?_⟩
     ·rw [aV L i (by omega),h7,←h2,h5,List.map_cons,jS]
     ·intro m hm
      rcases List.mem_cons.1 hm with rfl | hm
      ·intro e0
       subst e0
       cases h5
      ·exact h8 m hm
     ·rw [h9,List.append_assoc]
      rfl
   ·have hn0:n=0:=by omega
    subst hn0
    cases f with
    | zero=>omega
    | succ f=>
     refine .inr ⟨[M],?_,?_,?_⟩
     ·rw [aV L i (by omega),List.drop_eq_nil_of_le (by omega),←h2,h5,←jS]
      rfl
     ·intro m hm
      rw [List.mem_singleton.1 hm]
      intro e0
      subst e0
      cases h5
     ·rw [bA]
      dsimp only
      rw [List.length_map,bk (by omega),cond_false]
theorem vi (x:aa):eA x≠[]:=by
 unfold eA
 intro h
 have:=congrArg List.length h
 simp only [List.length_append,List.length_cons,List.length_nil] at this
 omega
theorem vk (l:List UInt8) (hl:l.length≤100000):∃ W ok,fW (bs l)=some (W,ok)∧(ok=true→l=dQ true W∧l≠[]):=by
 obtain ⟨x,L,e,h2,h3,h4⟩:=gO (sep:=[32,124,32]) (by simp) (l:=l) (by omega)
 unfold fW
 rw [lits.2.2.2,e,ah]
 rcases vV (L:=x::L) (by rw [List.length_cons];omega) (fun d hd=>Nat.le_trans (h4 d hd) hl) (x::L).length 0 fuel [] (by omega) (by have:=aJ;rw [List.length_cons];omega) rfl (by omega) with h | ⟨M,h5,h6,h7⟩
 ·exact ⟨_,_,h,fun h=>by cases h⟩
 ·refine ⟨_,_,h7,fun _=>?_⟩
  rw [List.drop_zero] at h5
  rw [List.nil_append,m4,←h5,h2]
  refine ⟨rfl,?_⟩
  cases M with
  | nil=>cases h5
  | cons m M=>
   rw [List.map_cons] at h5
   injection h5 with h8 h9
   have h10:=h4 x (List.mem_cons_self ..)
   cases m with
   | nil=>exact absurd rfl (h6 _ (List.mem_cons_self ..))
   | cons y m=>
    intro e0
    subst e0
    rw [List.length_nil] at h10
    have h11:=List.eq_nil_of_length_eq_zero (Nat.le_zero.1 h10)
    rw [h8,dq] at h11
    have:=congrArg List.length h11
    have h12:=vi y
    have h13:=List.length_pos_iff.2 h12
    simp only [List.length_append,List.length_nil] at this
    omega
end LJ
end
section
namespace LJ
open Go Go.RowKit
set_option linter.unusedVariables false
set_option linter.unusedSimpArgs false
theorem xF (s:ByteArray) (L:List ByteArray) (hL:L.length≤1000):∀ (n i f:Nat),i+n=L.length→n<f→fU s L f (i:Int)=some (iMax (pa s (L.drop i) i) 0,iLe 0 (pa s (L.drop i) i))
 | n,i,0,hi,hf=>by omega
 | 0,i,f+1,hi,hf=>by
  rw [fU,bk (by omega),List.drop_eq_nil_of_le (by omega)]
  rfl
 | n+1,i,f+1,hi,hf=>by
  have h1:=xF s L hL n (i+1) f (by omega) (by omega)
  rw [fU,aY (by omega),cond_true,an (aH ⟨by omega,by omega⟩),Int.toNat_natCast,aV L i (by omega),pa,w64 (by omega),show (i:Int)+1=((i+1:Nat):Int) by omega,h1]
  cases sEq (L.getD i default) s with
  | true=>
   rw [cond_true,cond_true,nA (by omega)]
   unfold iMax
   rw [if_neg (by omega)]
  | false=>rfl
theorem rq (s:ByteArray):tu s=some (iMax (fm s) 0,iLe 0 (fm s)):=by
 unfold tu fm
 rw [j9,ah]
 exact xF s ed (by rw [fX];omega) ed.length 0 fuel (by omega) (by have:=aJ;rw [fX];omega)
theorem rr (s:ByteArray):∀ (L:List ByteArray) (i:Int),pa s L i= -1∨∃ j:Nat,j<L.length∧pa s L i=i+j∧L.getD j default=s
 | [],i=> .inl rfl
 | x::l,i=>by
  rw [pa]
  cases e:sEq x s with
  | true=>exact .inr ⟨0,by simp,by rw [cond_true];omega,eD.1 e⟩
  | false=>
   rw [cond_false]
   rcases rr s l (i+1) with h | ⟨j,h1,h2,h3⟩
   ·exact .inl h
   ·exact .inr ⟨j+1,by simp;omega,by rw [h2];omega,h3⟩
theorem vl (s:ByteArray):fm s= -1∨(opK (fm s)=true∧iy (fm s)=s):=by
 rcases rr s ed 0 with h | ⟨j,h1,h2,h3⟩
 ·exact .inl h
 ·rw [fX] at h1
  have hw:fm s=(j:Int):=by unfold fm;rw [h2];omega
  have hk:opK (j:Int)=true:=eH.2 (by omega)
  refine .inr ⟨by rw [hw];exact hk,?_⟩
  rw [hw]
  unfold iy
  rw [hk,cond_true,Int.toNat_natCast,h3]
theorem rR {k:Int} (h:opK k=true):fm (iy k)=k:=by
 have hk:=eH.1 h
 have h1:=tT ⟨k.toNat,by omega⟩
 dsimp only at h1
 unfold iy
 rw [h,cond_true,h1,Int.toNat_of_nonneg hk.1]
def addC (p:ab) (x:ao):ab:=⟨p.Decls,p.Waits,p.Funcs.set (p.Funcs.length - 1) ⟨(p.Funcs.getD (p.Funcs.length - 1) default).Args,(p.Funcs.getD (p.Funcs.length - 1) default).Locals,bF p.Funcs++[x]⟩⟩
theorem vm {x:List UInt8} {L:List (List UInt8)} :((((x::L).map bs).take ((((x::L).map bs).length:Nat):Int).toNat).drop (1:Int).toNat)=L.map bs:=by
 rw [Int.toNat_natCast,List.take_length]
 rfl
theorem vn {x:List UInt8} {L:List (List UInt8)} :((x::L).map bs).getD (0:Int).toNat default=bs x:=rfl
theorem wU {p:ab} {l:List UInt8} (hl:l.length≤100000) (hF:p.Funcs.length≤100000) (hC:(bF p.Funcs).length≤100000):∃ ok q,aX ⟨p⟩ (bs l)=some (ok,⟨q⟩)∧(ok=true→p.Funcs≠[]∧∃ x,l=gK x∧q=addC p x):=by
 obtain ⟨w,L,e,h2,h3,h4⟩:=gO (sep:=[32]) (by simp) (l:=l) (by omega)
 unfold aX
 have hln:((w::L).map bs).length=L.length+1:=by rw [List.length_map,List.length_cons]
 rw [n6,e,ah,an (aH ⟨by omega,by rw [hln];omega⟩),vn,rq,ah]
 dsimp only
 rcases vl (bs w) with hw | ⟨hk,hn⟩
 ·rw [hw,show iLe 0 (-1:Int)=false from rfl,Bool.not_false,Bool.true_or,cond_true]
  exact ⟨false,p,rfl,fun h=>by cases h⟩
 ·have hk':=eH.1 hk
  have hm:iMax (fm (bs w)) 0=fm (bs w):=by unfold iMax;rw [if_neg (by omega)]
  rw [nA (by omega),Bool.not_true,Bool.false_or,hm,List.length_map]
  by_cases hf:p.Funcs=[]
  ·rw [hf,cW (by rfl),cond_true]
   exact ⟨false,p,rfl,fun h=>by cases h⟩
  ·have hf0:0<p.Funcs.length:=List.length_pos_iff.2 hf
   obtain ⟨v,ok,e2,hok⟩:=qz (fF (fm (bs w))) (L:=L) (fun d hd=>Nat.le_trans (h4 d (List.mem_cons_of_mem _ hd)) hl)
   rw [cy (by omega),cond_false,an (j2 ⟨by omega,by rw [hln];omega,by omega⟩),hJ,ah,vm,e2,ah,w64 (by omega),an (show oX _ _=true from decide_eq_true ⟨by omega,by omega⟩),an (aH ⟨by omega,by omega⟩),an (aH ⟨by omega,by omega⟩),an (bg (by simp only [List.length_cons,List.length_nil];omega))]
   refine ⟨ok,_,rfl,fun h=>⟨hf,⟨fm (bs w),v.getD (0:Int).toNat default,v.getD (1:Int).toNat default⟩,?_,rfl⟩⟩
   have h5:=hok h
   unfold gK
   dsimp only
   rw [←h2,js,h5,hn,ir]
   unfold aZ
   rw [List.flatMap_map]
theorem pk (n:Int):(32:UInt8)∉aW n:=wR (by decide) (.inl (by decide))
theorem iH {w:List UInt8} (hw:(32:UInt8)∉w) {l:List Int} (hl:(w++aZ l).length≤100000):strings_Split (bs (w++aZ l)) (bs [32])=some ((w::l.map aW).map bs):=by
 have h:w++aZ l=dC [32] (w::l.map aW):=by
  rw [js,List.flatMap_map]
  rfl
 rw [h] at hl ⊢
 refine jQ (by simp) (fun d hd=>?_) (by omega)
 rcases List.mem_cons.1 hd with rfl | hd
 ·exact gN hw
 ·obtain ⟨n,_,rfl⟩:=List.mem_map.1 hd
  exact gN (pk n)
theorem OkI.ten {x:ao} (h:OkI x):(-9999999999≤x.A∧x.A≤9999999999)∧(-9999999999≤x.B∧x.B≤9999999999):=by
 constructor
 ·by_cases hs:0<(dk x.Op).size
  ·have:=nO (h.a1 hs);omega
  ·have:=h.a0 (by omega);omega
 ·by_cases hs:1<(dk x.Op).size
  ·have:=nO (h.b1 hs);omega
  ·have:=h.b0 (by omega);omega
theorem vo {p:ab} {x:ao} (hx:OkI x) (hf:p.Funcs≠[]) (hF:p.Funcs.length≤100000) (hC:(bF p.Funcs).length≤100000):aX ⟨p⟩ (bs (gK x))=some (true,⟨addC p x⟩):=by
 have hf0:0<p.Funcs.length:=List.length_pos_iff.2 hf
 have hk:=hx.op
 have hll:=jo x
 have h2:=fF x.Op
 have e:strings_Split (bs (gK x)) (bs [32])=some ((bl (iy x.Op)::([x.A,x.B].take (dk x.Op).size).map aW).map bs):=iH (vd (mZ _) (.inl (by decide))) (by unfold gK at hll;omega)
 have e2:=n7 h2 hx.ten.1 hx.ten.2 hx.a0 hx.b0
 have hln:((bl (iy x.Op)::([x.A,x.B].take (dk x.Op).size).map aW).map bs).length=(([x.A,x.B].take (dk x.Op).size).map aW).length+1:=by rw [List.length_map,List.length_cons]
 unfold aX
 rw [n6,e,ah,an (aH ⟨by omega,by rw [hln];omega⟩),vn,rq,ah,pT,rR (eH.2 hk)]
 have hm:iMax x.Op 0=x.Op:=by unfold iMax;rw [if_neg (by omega)]
 dsimp only
 rw [nA (by omega),Bool.not_true,Bool.false_or,hm,List.length_map,cy (by omega),cond_false,an (j2 ⟨by omega,by rw [hln];omega,by omega⟩),hJ,ah,vm,e2,ah,w64 (by omega),an (show oX _ _=true from decide_eq_true ⟨by omega,by omega⟩),an (aH ⟨by omega,by omega⟩),an (aH ⟨by omega,by omega⟩),an (bg (by simp only [List.length_cons,List.length_nil];omega))]
 rfl
inductive Adds (p:ab):List UInt8→ab→Prop
 | code (x:ao):p.Funcs≠[]→Adds p (32::32::gK x) (addC p x)
 | decl (d:af):p.Waits=[]→p.Funcs=[]→Adds p (objL d) ⟨p.Decls++[d],p.Waits,p.Funcs⟩
 | wait (w:List (List aa)):p.Funcs=[]→Adds p ([119,97,105,116,32]++dQ true w) ⟨p.Decls,p.Waits++[w],p.Funcs⟩
 | func (A B:Int):Adds p ([102,117,110,99]++aZ [A,B]) ⟨p.Decls,p.Waits,p.Funcs++[⟨A,B,[]⟩]⟩
def most (p:ab):Nat:=p.Decls.length+p.Waits.length+p.Funcs.length+(bF p.Funcs).length
theorem vp:∀ k:Fin 8,1≤(k:Nat)→0<(gL (k:Nat)).size:=by decide+kernel
theorem vq {p:ab} {l:List UInt8} (hl:l.length≤100000) (hp:most p≤100000):∃ ok q,aQ ⟨p⟩ (bs l)=some (ok,⟨q⟩)∧(ok=true→Adds p l q):=by
 have hp':=hp
 unfold most at hp'
 unfold aQ
 rcases lJ l (by omega) with ⟨r,rfl,e⟩ | ⟨_,e⟩
 ·rw [e,ah]
  dsimp only
  rw [cond_true]
  rw [List.length_cons,List.length_cons] at hl
  obtain ⟨ok,q,e2,h⟩:=wU (p:=p) (l:=r) (by omega) (by omega) (by omega)
  rw [e2,ah]
  refine ⟨ok,q,rfl,fun ht=>?_⟩
  obtain ⟨hf,x,rfl,rfl⟩:=h ht
  exact .code x hf
 ·rw [e,ah]
  dsimp only
  rw [cond_false,n6]
  obtain ⟨a,b,t,e1,hc⟩:=n5 32 (l:=l) (by omega)
  have hb:b.length≤100000:=by
   rcases hc with ⟨_,q,_⟩ | ⟨_,_,q,_⟩
   ·have:=congrArg List.length q
    rw [List.length_append,List.length_cons] at this
    omega
   ·rw [q];exact Nat.zero_le _
  obtain ⟨w,L,e2,h2,h3,h4⟩:=gO (sep:=[32]) (by simp) (l:=b) (by omega)
  have hln:((w::L).map bs).length=L.length+1:=by rw [List.length_map,List.length_cons]
  have hj:b=w++L.flatMap fun y=>32::y:=by rw [←h2,js]
  have key:b≠[]→l=a++32::b:=fun hne=>by
   rcases hc with ⟨_,q,_⟩ | ⟨_,_,q,_⟩
   ·exact q
   ·exact absurd q hne
  rw [e1,ah,e2,ah]
  dsimp only
  cases ho:sEq (bs a) (⟨#[111,98,106,101,99,116]⟩:ByteArray) with
  | true=>
   have ha:a=[111,98,106,101,99,116]:=congrArg bl (eD.1 ho)
   obtain ⟨k,e3,hk⟩:=ve (bs w)
   obtain ⟨v,ok,e4,hok⟩:=qz (nY k) (L:=L) (fun d hd=>Nat.le_trans (h4 d (List.mem_cons_of_mem _ hd)) hb)
   rw [cond_true,an (aH ⟨by omega,by rw [hln];omega⟩),vn,e3,ah,an (j2 ⟨by omega,by rw [hln];omega,by omega⟩),nZ,ah,vm,e4,ah,an (aH ⟨by omega,by omega⟩),an (aH ⟨by omega,by omega⟩),an (bg (by simp only [List.length_cons,List.length_nil];omega)),List.length_map,List.length_map,w64 (by omega)]
   refine ⟨_,_,rfl,fun h=>?_⟩
   simp only [Bool.and_eq_true,dx,fS] at h
   obtain ⟨⟨h5,h6⟩,h7⟩:=h
   rcases hk with rfl | ⟨k1,k7,hn⟩
   ·omega
   ·have hw:w=bl (gL k):=by rw [hn,ir]
    have hne:=vp ⟨k.toNat,by omega⟩ (by dsimp only;omega)
    dsimp only at hne
    rw [Int.toNat_of_nonneg (by omega)] at hne
    have hbn:b≠[]:=fun e0=>by
     rw [e0] at hj
     have:=congrArg List.length hj
     rw [List.length_append,hw,qU,List.length_nil] at this
     omega
    have ho:=Adds.decl (p:=p) ⟨k,v.getD (0:Int).toNat default,v.getD (1:Int).toNat default⟩ (List.eq_nil_of_length_eq_zero (by omega)) (List.eq_nil_of_length_eq_zero (by omega))
    have hl2:l=objL ⟨k,v.getD (0:Int).toNat default,v.getD (1:Int).toNat default⟩:=by
     rw [key hbn,ha,hj,hok h5,hw,List.flatMap_map]
     unfold objL aZ
     dsimp only
     simp
    rw [hl2]
    exact ho
  | false=>
  rw [cond_false]
  cases hwa:sEq (bs a) (⟨#[119,97,105,116]⟩:ByteArray) with
  | true=>
   have ha:a=[119,97,105,116]:=congrArg bl (eD.1 hwa)
   obtain ⟨W,ok,e3,hok⟩:=vk b hb
   rw [cond_true,e3,ah,an (bg (by simp only [List.length_cons,List.length_nil];omega)),List.length_map]
   refine ⟨_,_,rfl,fun h=>?_⟩
   simp only [Bool.and_eq_true,fS] at h
   obtain ⟨h5,h6⟩:=h
   obtain ⟨h7,h8⟩:=hok h5
   rw [key h8,ha,h7]
   exact .wait W (List.eq_nil_of_length_eq_zero (by omega))
  | false=>
  rw [cond_false]
  cases hfa:sEq (bs a) (⟨#[102,117,110,99]⟩:ByteArray) with
  | true=>
   have ha:a=[102,117,110,99]:=congrArg bl (eD.1 hfa)
   obtain ⟨v,ok,e4,hok⟩:=qz (k:=2) (by omega) (L:=w::L) (fun d hd=>Nat.le_trans (h4 d hd) hb)
   rw [cond_true,show (2:Int)=((2:Nat):Int) from rfl,e4,ah,an (aH ⟨by omega,by omega⟩),an (aH ⟨by omega,by omega⟩),an (bg (by omega))]
   refine ⟨_,_,rfl,fun h=>?_⟩
   have h5:=hok h
   rw [show ([v.getD (0:Int).toNat default,v.getD (1:Int).toNat default].take 2).map aW=[aW (v.getD (0:Int).toNat default),aW (v.getD (1:Int).toNat default)] from rfl] at h5
   have h6:b=aW (v.getD (0:Int).toNat default)++(32::aW (v.getD (1:Int).toNat default)):=by
    rw [←h2,h5]
    rfl
   have hbn:b≠[]:=fun e0=>by
    rw [e0] at h6
    have:=congrArg List.length h6
    rw [List.length_append,List.length_cons,List.length_nil] at this
    omega
   rw [key hbn,ha,h6]
   have:=Adds.func (p:=p) (v.getD (0:Int).toNat default) (v.getD (1:Int).toNat default)
   rw [show [102,117,110,99]++aZ [v.getD (0:Int).toNat default,v.getD (1:Int).toNat default]=[102,117,110,99]++32::(aW (v.getD (0:Int).toNat default)++32::aW (v.getD (1:Int).toNat default)) by simp [aZ]] at this
   exact this
  | false=>
   rw [cond_false]
   exact ⟨false,p,rfl,fun h=>by cases h⟩
theorem lM {D:List af} {W:List (List (List aa))} {L:List al} {F:al} {x:ao} :addC ⟨D,W,L++[F]⟩ x=⟨D,W,L++[⟨F.Args,F.Locals,F.Code++[x]⟩]⟩:=by
 unfold addC
 dsimp only
 rw [fa,List.length_append,List.length_cons,List.length_nil,Nat.zero_add,Nat.add_sub_cancel,List.getD_eq_getElem?_getD,List.getElem?_append_right (Nat.le_refl _),Nat.sub_self]
 simp
theorem Adds.text {p q:ab} {l:List UInt8} (h:Adds p l q):gM q=gM p++(l++[10]):=by
 obtain ⟨D,W,F⟩:=p
 cases h with
 | code x hf=>
  dsimp only at hf
  obtain ⟨L,G,rfl⟩:∃ L G,F=L++[G]:=⟨F.dropLast,F.getLast hf,(List.dropLast_concat_getLast hf).symm⟩
  rw [lM]
  simp [gM,fZ,mn,insL]
 | decl d hw hf=>
  dsimp only at hw hf
  subst hw hf
  simp [gM,jq]
 | wait w hf=>
  dsimp only at hf
  subst hf
  simp [gM,hX]
 | func A B=>simp [gM,fZ,mn]
theorem Adds.most {p q:ab} {l:List UInt8} (h:Adds p l q):most q≤most p+1:=by
 obtain ⟨D,W,F⟩:=p
 unfold LJ.most
 cases h with
 | code x hf=>
  dsimp only at hf
  obtain ⟨L,G,rfl⟩:∃ L G,F=L++[G]:=⟨F.dropLast,F.getLast hf,(List.dropLast_concat_getLast hf).symm⟩
  rw [lM]
  dsimp only
  rw [fa,fa]
  simp only [List.length_append,List.length_cons,List.length_nil]
  omega
 | decl d hw hf=>
  simp only [List.length_append,List.length_cons,List.length_nil]
  omega
 | wait w hf=>
  simp only [List.length_append,List.length_cons,List.length_nil]
  omega
 | func A B=>
  dsimp only
  rw [fa]
  simp only [List.length_append,List.length_cons,List.length_nil]
  omega
theorem vW {s:List UInt8} (h:s≠[]):sEq (bs s) ByteArray.empty=false:=tb fun e=>h (congrArg bl e)
theorem pn {K2:(List af)×(List (List (List aa)))×(List al)→Option (ab×Int×Int)} :∀ (m f:Nat) (s:List UInt8) (n:Nat) (p:ab),s.length≤m→m<f→LJ.most p+s.length≤100000→n+s.length≤100000→
  (∃ k:Int,0≤k∧bC K2 f (bs s,(n:Int),p.Decls,p.Waits,p.Funcs)=some (⟨[],[],[]⟩,k,2))∨∃ q,gM q=gM p++s∧bC K2 f (bs s,(n:Int),p.Decls,p.Waits,p.Funcs)=K2 (q.Decls,q.Waits,q.Funcs)
 | m,0,s,n,p,h1,h2,h3,h4=>by omega
 | m,f+1,s,n,p,h1,h2,h3,h4=>by
  rw [bC]
  dsimp only
  by_cases hs:s=[]
  ·subst hs
   rw [pS (show bs []=ByteArray.empty from rfl),Bool.not_true,cond_false]
   exact .inr ⟨p,by rw [List.append_nil],rfl⟩
  ·obtain ⟨a,b,t,e,hc⟩:=n5 10 (l:=s) (by omega)
   rw [vW hs,Bool.not_false,cond_true,xD,e,ah]
   dsimp only
   rcases hc with ⟨rfl,hq,_⟩ | ⟨rfl,_⟩
   ·have hl:=congrArg List.length hq
    rw [List.length_append,List.length_cons] at hl
    obtain ⟨ok,q,e2,hA⟩:=vq (p:=p) (l:=a) (by omega) (by omega)
    rw [Bool.not_true,cond_false,e2,ah,w64 (by omega),show (n:Int)+1=((n+1:Nat):Int) by omega]
    dsimp only
    cases ok with
    | false=>exact .inl ⟨_,by omega,rfl⟩
    | true=>
     have hq2:=(hA rfl).most
     rw [Bool.not_true,cond_false]
     rcases pn (K2:=K2) (m - 1) f b (n+1) q (by omega) (by omega) (by omega) (by omega) with h | ⟨r,h5,h6⟩
     ·exact .inl h
     ·refine .inr ⟨r,?_,h6⟩
      rw [h5,(hA rfl).text,hq]
      simp
   ·rw [Bool.not_false,cond_true,w64 (by omega)]
    exact .inl ⟨_,by omega,rfl⟩
theorem uk (s:List UInt8):∃ p n e,cZ (bs s)=some (p,n,e)∧0≤n∧((e≠0∧p=⟨[],[],[]⟩)∨(e=0∧n=0∧chkP p=0∧gM p=s)):=by
 unfold cZ
 by_cases hl:60000<(((bs s).size:Nat):Int)
 ·rw [aY hl,cond_true]
  exact ⟨_,_,_,rfl,by omega, .inl ⟨by omega,rfl⟩⟩
 ·rw [bk (by omega),cond_false,dP]
  rw [aD] at hl
  rcases pn (K2:=fun s3:(List af)×(List (List (List aa)))×(List al)=>(dD (⟨s3.1,s3.2.1,s3.2.2⟩:ab)).bind fun (x11:Int)=>cond (iNe x11 0) (some ((⟨([]:List af),([]:List (List (List aa))),([]:List al)⟩:ab),0,x11)) (some ((⟨s3.1,s3.2.1,s3.2.2⟩:ab),0,0))) s.length fuel s 0 ⟨[],[],[]⟩ (Nat.le_refl _) (by have:=aJ;omega) (by show 0+0+0+0+_≤_;omega) (by omega) with ⟨k,h1,h2⟩ | ⟨q,h1,h2⟩
  ·exact ⟨_,_,_,h2,h1, .inl ⟨by omega,rfl⟩⟩
  ·refine (?_ :∃ p n e,_=some (p,n,e)∧_)
   rw [show ((0:Nat):Int)=0 from rfl] at h2
   dsimp only at h2
   rw [h2]
   rw [fY,ah]
   by_cases hc:chkP q=0
   ·rw [df hc,cond_false]
    exact ⟨_,_,_,rfl,by omega, .inr ⟨rfl,rfl,hc,h1⟩⟩
   ·rw [eu hc,cond_true]
    exact ⟨_,_,_,rfl,by omega, .inl ⟨hc,rfl⟩⟩
theorem po (s:ByteArray):eS s=some true:=by
 obtain ⟨p,n,e,h1,h2,h3⟩:=uk (bl s)
 rw [pT] at h1
 unfold eS
 rw [h1,ah]
 dsimp only
 rcases h3 with ⟨he,rfl⟩ | ⟨rfl,rfl,hc,hp⟩
 ·rw [eu he,cond_true,xy (by simp) (by simp) (by simp) (by simp) (by simp),ah,nA h2,Bool.and_self,cond_true,lG]
  rfl
 ·rw [df rfl,cond_false,lH hc,ah,hp,pT,cW rfl,pS rfl,Bool.and_self,Bool.and_self,cond_true,lG]
  rfl
end LJ
end
section
namespace LJ
open Go Go.RowKit
set_option linter.unusedVariables false
set_option linter.unusedSimpArgs false
theorem n8 {n:Int} :∀ b∈aW n,45≤b.toNat∧b.toNat≤57:=fun b hb=>by
 have:=pj hb
 omega
theorem m5 (x:aa):∀ b∈eA x,32≤b.toNat∧b.toNat≤122∧b.toNat≠43:=fun b hb=>by
 unfold eA at hb
 rcases List.mem_append.1 hb with hb | hb
 ·rcases List.mem_append.1 hb with hb | hb
  ·rcases List.mem_append.1 hb with hb | hb
   ·have:=jR _ b hb;omega
   ·rw [List.mem_singleton.1 hb];decide
  ·have:=n8 b hb;omega
 ·cases hc:(iEq x.Kind 4||iEq x.Kind 5) with
  | true=>
   rw [hc,cond_true] at hb
   rcases List.mem_append.1 hb with hb | hb
   ·rw [List.mem_singleton.1 hb];decide
   ·have:=n8 b hb;omega
  | false=>rw [hc] at hb;cases hb
theorem jT:∀ (l:List aa) (z:Bool),∀ b∈dq z l,32≤b.toNat∧b.toNat≤122
 | [],z,b,hb=>by cases hb
 | x::t,z,b,hb=>by
  rw [dq] at hb
  rcases List.mem_append.1 hb with hb | hb
  ·rcases List.mem_append.1 hb with hb | hb
   ·cases z with
    | true=>cases hb
    | false=>
     have h2:∀ b∈([32,43,32]:List UInt8),32≤b.toNat∧b.toNat≤122:=by decide
     exact h2 b hb
   ·have:=m5 x b hb;omega
  ·exact jT t false b hb
theorem m6:∀ (l:List (List aa)) (z:Bool),∀ b∈dQ z l,32≤b.toNat
 | [],z,b,hb=>by cases hb
 | x::t,z,b,hb=>by
  rw [dQ] at hb
  rcases List.mem_append.1 hb with hb | hb
  ·rcases List.mem_append.1 hb with hb | hb
   ·cases z with
    | true=>cases hb
    | false=>
     have h2:∀ b∈([32,124,32]:List UInt8),32≤b.toNat:=by decide
     exact h2 b hb
   ·have:=jT x true b hb;omega
  ·exact m6 t false b hb
theorem gP (l:List Int):∀ b∈aZ l,32≤b.toNat:=fun b hb=>by
 obtain ⟨n,_,hb⟩:=List.mem_flatMap.1 hb
 rcases List.mem_cons.1 hb with rfl | hb
 ·decide
 ·have:=n8 b hb;omega
theorem um (x:ao):∀ b∈(32::32::gK x:List UInt8),32≤b.toNat:=fun b hb=>by
 rcases List.mem_cons.1 hb with rfl | hb
 ·decide
 ·rcases List.mem_cons.1 hb with rfl | hb
  ·decide
  ·rcases List.mem_append.1 hb with hb | hb
   ·have:=mZ _ b hb;omega
   ·exact gP _ b hb
theorem vr (d:af):∀ b∈objL d,32≤b.toNat:=fun b hb=>by
 rcases List.mem_append.1 hb with hb | hb
 ·rcases List.mem_append.1 hb with hb | hb
  ·have h2:∀ b∈([111,98,106,101,99,116,32]:List UInt8),32≤b.toNat:=by decide
   exact h2 b hb
  ·have:=ug _ b hb;omega
 ·exact gP _ b hb
theorem uo (w:List (List aa)):∀ b∈([119,97,105,116,32]++dQ true w:List UInt8),32≤b.toNat:=fun b hb=>by
 rcases List.mem_append.1 hb with hb | hb
 ·have h2:∀ b∈([119,97,105,116,32]:List UInt8),32≤b.toNat:=by decide
  exact h2 b hb
 ·exact m6 _ _ b hb
theorem uq (A B:Int):∀ b∈([102,117,110,99]++aZ [A,B]:List UInt8),32≤b.toNat:=fun b hb=>by
 rcases List.mem_append.1 hb with hb | hb
 ·have h2:∀ b∈([102,117,110,99]:List UInt8),32≤b.toNat:=by decide
  exact h2 b hb
 ·exact gP _ b hb
theorem no10 {l:List UInt8} (h:∀ b∈l,32≤b.toNat):(10:UInt8)∉l:=fun hm=>absurd (h 10 hm) (by decide)
theorem ry {s3:Int×List (List aa)} {K6:List (List aa)→Option (List (List aa)×Bool)} (hs:s3.2.length≤1000) {l:List aa} (hl:l.length≤1000) (hx:∀ x∈l,RngN x):∀ (n i f:Nat) (acc:List aa),i+n=l.length→n<f→acc.length=i→
  bL s3 K6 ((l.map eA).map bs) f ((i:Int),acc)=K6 (s3.2++[acc++l.drop i])
 | n,i,0,acc,hi,hf,ha=>by omega
 | 0,i,f+1,acc,hi,hf,ha=>by
  rw [bL]
  dsimp only
  rw [List.length_map,List.length_map,bk (by omega),cond_false,an (bg (by simp only [List.length_cons,List.length_nil];omega)),List.drop_eq_nil_of_le (by omega),List.append_nil]
 | n+1,i,f+1,acc,hi,hf,ha=>by
  have e:((l.map eA).map bs).getD i default=bs (eA (l.getD i default)):=by
   rw [gb (by rw [List.length_map];omega),List.getD_eq_getElem?_getD,List.getElem?_map,List.getElem?_eq_getElem (by omega),List.getD_eq_getElem?_getD,List.getElem?_eq_getElem (by omega)]
   rfl
  rw [bL]
  dsimp only
  rw [List.length_map,List.length_map,aY (by omega),cond_true,an (aH ⟨by omega,by omega⟩),Int.toNat_natCast,e,vh (hx _ (dv l i (by omega))),ah]
  dsimp only
  rw [Bool.not_true,cond_false,an (bg (by simp only [List.length_cons,List.length_nil];omega)),w64 (by omega),show (i:Int)+1=((i+1:Nat):Int) by omega,ry hs hl hx n (i+1) f _ (by omega) (by omega) (by simp [ha]),aV l i (by omega),List.append_assoc]
  rfl
theorem ur {l:List aa} (h1:1≤l.length) (h4:l.length≤100):strings_Split (bs (dq true l)) (bs [32,43,32])=some ((l.map eA).map bs):=by
 cases l with
 | nil=>simp at h1
 | cons x t=>
  have hl:=jm (x::t) true
  rw [jS] at hl ⊢
  refine jQ (by simp) (fun d hd=>?_) (by rw [List.map_cons] at hl;omega)
  obtain ⟨y,_,rfl⟩:=List.mem_map.1 (show d∈(x::t).map eA from hd)
  exact pd (by decide) fun hm=>(m5 y _ hm).2.2 rfl
theorem uu {W:List (List aa)} (g:jk W):∀ (n i f:Nat) (acc:List (List aa)),i+n=W.length→n<f→acc.length=i→
  bA ((W.map (dq true)).map bs) f ((i:Int),acc)=some (acc++W.drop i,true)
 | n,i,0,acc,hi,hf,ha=>by omega
 | 0,i,f+1,acc,hi,hf,ha=>by
  rw [bA]
  dsimp only
  rw [List.length_map,List.length_map,bk (by omega),cond_false,List.drop_eq_nil_of_le (by omega),List.append_nil]
 | n+1,i,f+1,acc,hi,hf,ha=>by
  have h4:=g.len
  have gw:=g.ways _ (dv W i (by omega))
  have e:((W.map (dq true)).map bs).getD i default=bs (dq true (W.getD i default)):=by
   rw [gb (by rw [List.length_map];omega),List.getD_eq_getElem?_getD,List.getElem?_map,List.getElem?_eq_getElem (by omega),List.getD_eq_getElem?_getD,List.getElem?_eq_getElem (by omega)]
   rfl
  rw [bA]
  dsimp only
  rw [List.length_map,List.length_map,aY (by omega),cond_true,dP,an (aH ⟨by omega,by omega⟩),Int.toNat_natCast,e,lits.1,ur gw.1.1 (by omega),ah]
  refine Eq.trans (ry (s3:=((i:Int),acc)) (K6:=fun s7:List (List aa)=>bA ((W.map (dq true)).map bs) f (IntKind.i64.wrap ((i:Int)+1),s7)) (by dsimp only;omega) (by omega) gw.2 (W.getD i default).length 0 fuel [] (by omega) (by have:=aJ;omega) rfl) ?_
  dsimp only
  rw [w64 (by omega),show (i:Int)+1=((i+1:Nat):Int) by omega,List.nil_append,List.drop_zero,uu g n (i+1) f _ (by omega) (by omega) (by simp [ha]),aV W i (by omega),List.append_assoc]
  rfl
theorem uv {W:List (List aa)} (g:jk W):fW (bs (dQ true W))=some (W,true):=by
 have h4:=g.len
 have hl:=jr (W:=W) (z:=true) (fun l hl=>(g.ways l hl).1.2)
 have e:strings_Split (bs (dQ true W)) (bs [32,124,32])=some ((W.map (dq true)).map bs):=by
  cases W with
  | nil=>simp at h4
  | cons x t=>
   rw [m4] at hl ⊢
   refine jQ (by simp) (fun d hd=>?_) (by rw [List.map_cons] at hl;omega)
   obtain ⟨y,_,rfl⟩:=List.mem_map.1 (show d∈(x::t).map (dq true) from hd)
   exact pd (by decide) fun hm=>absurd (jT y true _ hm).2 (by decide)
 unfold fW
 rw [lits.2.2.2,e,ah,show (0:Int)=((0:Nat):Int) from rfl,uu g W.length 0 fuel [] (by omega) (by have:=aJ;omega) rfl]
 rfl
theorem uw {p:ab} {x:ao} (hx:OkI x) (hf:p.Funcs≠[]) (hF:p.Funcs.length≤100000) (hC:(bF p.Funcs).length≤100000):aQ ⟨p⟩ (bs (32::32::gK x))=some (true,⟨addC p x⟩):=by
 have hl:=jo x
 unfold aQ
 rcases lJ (32::32::gK x) (by simp only [List.length_cons];omega) with ⟨r,hr,e⟩ | ⟨h,_⟩
 ·injection hr with _ hr
  injection hr with _ hr
  subst hr
  rw [e,ah]
  dsimp only
  rw [cond_true,vo hx hf hF hC,ah]
 ·exact absurd rfl (h _)
theorem ux {D:List af} {d:af} (h:RngD d) (hD:D.length≤1000):aQ ⟨⟨D,[],[]⟩⟩ (bs (objL d))=some (true,⟨⟨D++[d],[],[]⟩⟩):=by
 have hl:=rj d
 have ⟨hk,ha,hb,ha0,haz,hbz⟩:=h
 have hp:=nY d.Kind
 have ho:objL d=[111,98,106,101,99,116]++32::(bl (gL d.Kind)++aZ ([d.A,d.B].take (iE d.Kind))):=by simp [objL]
 have hl2:(bl (gL d.Kind)++aZ ([d.A,d.B].take (iE d.Kind))).length≤100:=by
  rw [ho] at hl
  simp only [List.length_append,List.length_cons,List.length_nil] at hl ⊢
  omega
 unfold aQ
 rcases lJ (objL d) (by omega) with ⟨r,hr,e⟩ | ⟨_,e⟩
 ·rw [ho] at hr;injection hr with hr;exact absurd hr (by decide)
 ·have e2:=n7 hp (a:=d.A) (b:=d.B) (by omega) (by omega) (fun h0=>by
   unfold iE at h0
   by_cases c3:d.Kind=3
   ·rw [cW c3] at h0;simp at h0
   ·by_cases c7:d.Kind=7
    ·rw [cy c3,cW c7] at h0;simp at h0
    ·by_cases c6:d.Kind=6
     ·rw [cy c3,cy c7,cW c6] at h0;simp at h0
     ·exact haz c3 c6 c7) (fun h0=>by
   unfold iE at h0
   by_cases c3:d.Kind=3
   ·rw [cW c3] at h0;simp at h0
   ·by_cases c7:d.Kind=7
    ·rw [cy c3,cW c7] at h0;simp at h0
    ·exact hbz c3 c7)
  have hln:((bl (gL d.Kind)::([d.A,d.B].take (iE d.Kind)).map aW).map bs).length=(([d.A,d.B].take (iE d.Kind)).map aW).length+1:=by rw [List.length_map,List.length_cons]
  rw [e,ah]
  dsimp only
  rw [cond_false,ho,n6,iG (by decide) (by simp only [List.length_append,List.length_cons,List.length_nil] at hl2 ⊢;omega),ah]
  dsimp only
  rw [iH (vd (ug _) (.inl (by decide))) (by omega),ah,show sEq (bs [111,98,106,101,99,116]) (⟨#[111,98,106,101,99,116]⟩:ByteArray)=true from pS rfl,cond_true,an (aH ⟨by omega,by rw [hln];omega⟩),vn,pT,ui hk,ah,an (j2 ⟨by omega,by rw [hln];omega,by omega⟩),nZ,ah,vm,e2,ah,an (aH ⟨by omega,by omega⟩),an (aH ⟨by omega,by omega⟩),an (bg (by simp only [List.length_cons,List.length_nil];omega))]
  rw [aY (by omega)]
  rfl
theorem uy {D:List af} {W:List (List (List aa))} {w:List (List aa)} (g:jk w) (hW:W.length≤1000):aQ ⟨⟨D,W,[]⟩⟩ (bs ([119,97,105,116,32]++dQ true w))=some (true,⟨⟨D,W++[w],[]⟩⟩):=by
 have h4:=g.len
 have hl:=jr (W:=w) (z:=true) (fun l hl=>(g.ways l hl).1.2)
 have ho:[119,97,105,116,32]++dQ true w=[119,97,105,116]++32::dQ true w:=by simp
 obtain ⟨x,L,e2,_⟩:=gO (sep:=[32]) (by simp) (l:=dQ true w) (by omega)
 unfold aQ
 rcases lJ ([119,97,105,116,32]++dQ true w) (by simp only [List.length_append,List.length_cons,List.length_nil];omega) with ⟨r,hr,e⟩ | ⟨_,e⟩
 ·injection hr with hr;exact absurd hr (by decide)
 ·rw [e,ah]
  dsimp only
  rw [cond_false,ho,n6,iG (by decide) (by simp only [List.length_append,List.length_cons,List.length_nil];omega),ah]
  dsimp only
  rw [e2,ah,show sEq (bs [119,97,105,116]) (⟨#[111,98,106,101,99,116]⟩:ByteArray)=false from tb (by decide),cond_false,show sEq (bs [119,97,105,116]) (⟨#[119,97,105,116]⟩:ByteArray)=true from pS rfl,cond_true,uv g,ah,an (bg (by simp only [List.length_cons,List.length_nil];omega))]
  rfl
theorem uz {D:List af} {W:List (List (List aa))} {L:List al} {A B:Int} (ha:0≤A∧A≤8) (hb:0≤B∧B≤8) (hL:L.length≤1000):aQ ⟨⟨D,W,L⟩⟩ (bs ([102,117,110,99]++aZ [A,B]))=some (true,⟨⟨D,W,L++[⟨A,B,[]⟩]⟩⟩):=by
 have h1:=cK A
 have h2:=cK B
 have ho:[102,117,110,99]++aZ [A,B]=[102,117,110,99]++32::(aW A++aZ [B]):=by simp [aZ]
 have h3:=cN [B]
 have hl2:(aW A++aZ [B]).length≤100:=by
  simp only [List.length_append,List.length_cons,List.length_nil] at h3 ⊢
  omega
 have e2:=n7 (k:=2) (by omega) (a:=A) (b:=B) (by omega) (by omega) (by omega) (by omega)
 unfold aQ
 rcases lJ ([102,117,110,99]++aZ [A,B]) (by rw [ho];simp only [List.length_append,List.length_cons,List.length_nil] at hl2 ⊢;omega) with ⟨r,hr,e⟩ | ⟨_,e⟩
 ·injection hr with hr;exact absurd hr (by decide)
 ·rw [e,ah]
  dsimp only
  rw [cond_false,ho,n6,iG (by decide) (by simp only [List.length_append,List.length_cons,List.length_nil] at hl2 ⊢;omega),ah]
  dsimp only
  rw [iH (pk A) (by omega),ah,show sEq (bs [102,117,110,99]) (⟨#[111,98,106,101,99,116]⟩:ByteArray)=false from tb (by decide),cond_false,show sEq (bs [102,117,110,99]) (⟨#[119,97,105,116]⟩:ByteArray)=false from tb (by decide),cond_false,show sEq (bs [102,117,110,99]) (⟨#[102,117,110,99]⟩:ByteArray)=true from pS rfl,cond_true]
  rw [show (aW A::[B].map aW).map bs=(([A,B].take 2).map aW).map bs from rfl,show (2:Int)=((2:Nat):Int) from rfl,e2,ah,an (aH ⟨by omega,by omega⟩),an (aH ⟨by omega,by omega⟩),an (bg (by omega))]
  rfl
abbrev PK:=(List af)×(List (List (List aa)))×(List al)→Option (ab×Int×Int)
def fp (K2:PK) (k:Nat) (p:ab) (s:List UInt8) (q:ab) (r:List UInt8):Prop:=∀ f n:Nat,k≤f→n+s.length≤100000→∃ n':Nat,n'+r.length≤100000∧bC K2 f (bs s,(n:Int),p.Decls,p.Waits,p.Funcs)=bC K2 (f - k) (bs r,(n':Int),q.Decls,q.Waits,q.Funcs)
theorem fp.nil {K2:PK} {p:ab} {s:List UInt8} :fp K2 0 p s p s:=fun f n _ h=>⟨n,h,rfl⟩
theorem fp.trans {K2:PK} {k j:Nat} {p q t:ab} {s r u:List UInt8} (h1:fp K2 k p s q r) (h2:fp K2 j q r t u):fp K2 (k+j) p s t u:=fun f n hf hn=>by
 obtain ⟨n1,e1,e2⟩:=h1 f n (by omega) hn
 obtain ⟨n2,e3,e4⟩:=h2 (f - k) n1 (by omega) e1
 exact ⟨n2,e3,by rw [e2,e4,Nat.sub_sub]⟩
theorem fp.one {K2:PK} {p q:ab} {l r:List UInt8} (hl:∀ b∈l,32≤b.toNat) (h:aQ ⟨p⟩ (bs l)=some (true,⟨q⟩)):fp K2 1 p (l++10::r) q r:=fun f n hf hn=>by
 have hlen:=hn
 rw [List.length_append,List.length_cons] at hlen
 cases f with
 | zero=>omega
 | succ f=>
  refine ⟨n+1,by omega,?_⟩
  rw [bC]
  dsimp only
  rw [vW (by simp),Bool.not_false,cond_true,xD,iG (no10 hl) (by rw [List.length_append,List.length_cons];omega),ah]
  dsimp only
  rw [Bool.not_true,cond_false,h,ah,w64 (by omega),show (n:Int)+1=((n+1:Nat):Int) by omega]
  rfl
theorem m7 {K2:PK} {D:List af} {W:List (List (List aa))} {L:List al} {A B:Int} {r:List UInt8} (hL:L.length≤1000):∀ (C C0:List ao),(∀ x∈C,OkI x)→C0.length+C.length≤1000→fp K2 C.length ⟨D,W,L++[⟨A,B,C0⟩]⟩ (C.flatMap insL++r) ⟨D,W,L++[⟨A,B,C0++C⟩]⟩ r
 | [],C0,hC,hl=>by
  rw [List.append_nil]
  exact fp.nil
 | x::C,C0,hC,hl=>by
  rw [List.length_cons] at hl
  have h1:aQ ⟨⟨D,W,L++[⟨A,B,C0⟩]⟩⟩ (bs (32::32::gK x))=some (true,⟨⟨D,W,L++[⟨A,B,C0++[x]⟩]⟩⟩):=by
   rw [uw (hC x (List.mem_cons_self ..)) (by simp) (by simp;omega) (by rw [fa];dsimp only;omega),lM]
  have h2:=(fp.one (K2:=K2) (r:=C.flatMap insL++r) (um x) h1).trans (m7 hL C (C0++[x]) (fun y hy=>hC y (List.mem_cons_of_mem _ hy)) (by simp only [List.length_append,List.length_cons,List.length_nil];omega))
  rw [show 1+C.length=(x::C).length by rw [List.length_cons];omega,show C0++[x]++C=C0++x::C by simp,show (32::32::gK x)++10::(C.flatMap insL++r)=(x::C).flatMap insL++r by simp [insL]] at h2
  exact h2
theorem m8 {K2:PK} {D:List af} {W:List (List (List aa))} {r:List UInt8} :∀ (Fs L:List al),(∀ F∈Fs,qv F)→L.length+Fs.length≤1000→∃ k,k≤201*Fs.length∧fp K2 k ⟨D,W,L⟩ (Fs.flatMap fZ++r) ⟨D,W,L++Fs⟩ r
 | [],L,g,hl=>⟨0,Nat.zero_le _,by rw [List.append_nil];exact fp.nil⟩
 | F::Fs,L,g,hl=>by
  rw [List.length_cons] at hl
  have gF:=g F (List.mem_cons_self ..)
  have hc:=gF.code
  obtain ⟨k,hk,h⟩:=m8 (K2:=K2) (D:=D) (W:=W) (r:=r) Fs (L++[F]) (fun y hy=>g y (List.mem_cons_of_mem _ hy)) (by simp only [List.length_append,List.length_cons,List.length_nil];omega)
  have h1:=fp.one (K2:=K2) (r:=F.Code.flatMap insL++(Fs.flatMap fZ++r)) (uq F.Args F.Locals) (uz (D:=D) (W:=W) (L:=L) gF.args gF.locals (by omega))
  have h2:=m7 (K2:=K2) (D:=D) (W:=W) (L:=L) (A:=F.Args) (B:=F.Locals) (r:=Fs.flatMap fZ++r) (by omega) F.Code [] (fun x hx=>tC (gF.ins x hx)) (by simp only [List.length_nil];omega)
  refine ⟨1+(F.Code.length+k),by rw [List.length_cons];omega,?_⟩
  have h3:=h1.trans (h2.trans h)
  rw [show L++[F]++Fs=L++F::Fs by simp,show [102,117,110,99]++aZ [F.Args,F.Locals]++10::(F.Code.flatMap insL++(Fs.flatMap fZ++r))=(F::Fs).flatMap fZ++r by simp [fZ,mn]] at h3
  exact h3
theorem m9 {K2:PK} {D:List af} {r:List UInt8} :∀ (Ws W:List (List (List aa))),(∀ w∈Ws,jk w)→W.length+Ws.length≤1000→fp K2 Ws.length ⟨D,W,[]⟩ (Ws.flatMap hX++r) ⟨D,W++Ws,[]⟩ r
 | [],W,g,hl=>by
  rw [List.append_nil]
  exact fp.nil
 | w::Ws,W,g,hl=>by
  rw [List.length_cons] at hl
  have h:=(fp.one (K2:=K2) (r:=Ws.flatMap hX++r) (uo w) (uy (D:=D) (W:=W) (g w (List.mem_cons_self ..)) (by omega))).trans (m9 Ws (W++[w]) (fun y hy=>g y (List.mem_cons_of_mem _ hy)) (by simp only [List.length_append,List.length_cons,List.length_nil];omega))
  rw [show 1+Ws.length=(w::Ws).length by rw [List.length_cons];omega,show W++[w]++Ws=W++w::Ws by simp,show [119,97,105,116,32]++dQ true w++10::(Ws.flatMap hX++r)=(w::Ws).flatMap hX++r by simp [hX]] at h
  exact h
theorem na {K2:PK} {r:List UInt8} :∀ (Ds D:List af),(∀ d∈Ds,RngD d)→D.length+Ds.length≤1000→fp K2 Ds.length ⟨D,[],[]⟩ (Ds.flatMap jq++r) ⟨D++Ds,[],[]⟩ r
 | [],D,g,hl=>by
  rw [List.append_nil]
  exact fp.nil
 | d::Ds,D,g,hl=>by
  rw [List.length_cons] at hl
  have h:=(fp.one (K2:=K2) (r:=Ds.flatMap jq++r) (vr d) (ux (D:=D) (g d (List.mem_cons_self ..)) (by omega))).trans (na Ds (D++[d]) (fun y hy=>g y (List.mem_cons_of_mem _ hy)) (by simp only [List.length_append,List.length_cons,List.length_nil];omega))
  rw [show 1+Ds.length=(d::Ds).length by rw [List.length_cons];omega,show D++[d]++Ds=D++d::Ds by simp,show objL d++10::(Ds.flatMap jq++r)=(d::Ds).flatMap jq++r by simp [jq]] at h
  exact h
theorem uA {K2:PK} {p:ab} (g:jN p):∃ k,k≤10000∧fp K2 k ⟨[],[],[]⟩ (gM p) p []:=by
 have hd:=qg g.decls
 have hw:=g.waits.1
 have hf:=g.funcs.2
 obtain ⟨k,hk,h⟩:=m8 (K2:=K2) (D:=p.Decls) (W:=p.Waits) (r:=[]) p.Funcs [] g.fns (by simp only [List.length_nil];omega)
 have h1:=na (K2:=K2) (r:=p.Waits.flatMap hX++(p.Funcs.flatMap fZ++[])) p.Decls [] hd.2.2.2 (by simp only [List.length_nil];omega)
 have h2:=m9 (K2:=K2) (D:=p.Decls) (r:=p.Funcs.flatMap fZ++[]) p.Waits [] g.wait (by simp only [List.length_nil];omega)
 rw [List.nil_append] at h h1 h2
 refine ⟨p.Decls.length+(p.Waits.length+k),by omega,?_⟩
 have h3:=h1.trans (h2.trans h)
 rw [show p.Decls.flatMap jq++(p.Waits.flatMap hX++(p.Funcs.flatMap fZ++[]))=gM p by simp [gM]] at h3
 exact h3
theorem rS {p:ab} (h:chkP p=0) (hl:(gM p).length≤60000):cZ (bs (gM p))=some (p,0,0):=by
 have hfu:=aJ
 unfold cZ
 rw [bk (by rw [aD];omega),cond_false,dP]
 obtain ⟨k,hk,hr⟩:=uA (K2:=fun s3:(List af)×(List (List (List aa)))×(List al)=>(dD (⟨s3.1,s3.2.1,s3.2.2⟩:ab)).bind fun (x11:Int)=>cond (iNe x11 0) (some ((⟨([]:List af),([]:List (List (List aa))),([]:List al)⟩:ab),0,x11)) (some ((⟨s3.1,s3.2.1,s3.2.2⟩:ab),0,0))) (jN.of h)
 obtain ⟨n',_,e⟩:=hr fuel 0 (by omega) (by omega)
 obtain ⟨F,hF⟩:∃ F,fuel - k=F+1:=⟨fuel - k - 1,by omega⟩
 rw [hF] at e
 have e2:∀ (K2:PK) (n:Int) (D:List af) (W:List (List (List aa))) (L:List al),bC K2 (F+1) (bs [],n,D,W,L)=K2 (D,W,L):=fun K2 n D W L=>by
  rw [bC]
  rfl
 rw [e2] at e
 refine Eq.trans e ?_
 dsimp only
 rw [fY,ah,df h,cond_false]
theorem rT {s:List UInt8} (hl:60000<s.length):cZ (bs s)=some (⟨[],[],[]⟩,0,4):=by
 unfold cZ
 rw [aY (by rw [aD];omega),cond_true]
theorem pq (p:ab):eR p=some true:=by
 unfold eR
 rw [mm,ah]
 by_cases h:chkP p=0
 ·have g:=jN.of h
  rw [df h,cond_false,xW,ah,tQ g,lH h,ah]
  dsimp only
  by_cases hl:(gM p).length≤60000
  ·rw [rS h hl,ah]
   dsimp only
   rw [bk (by rw [aD];omega),cond_false,cW rfl,Bool.and_self,Bool.and_self,cond_true,rQ g,ah,Bool.and_self,cond_true,lG]
   rfl
  ·rw [rT (by omega),ah]
   dsimp only
   rw [aY (by rw [aD];omega),cond_true,cW rfl,cW rfl,Bool.and_self,cond_true,lG]
   rfl
 ·rw [eu h,cond_true,lG]
  rfl
end LJ
end
