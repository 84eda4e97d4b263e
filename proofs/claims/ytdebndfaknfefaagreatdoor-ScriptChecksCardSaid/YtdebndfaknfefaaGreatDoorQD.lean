/- Several texts of plain Lean, one behind the other. No condition. -/
import Derived.Test.YtdebndfaknfefaaGreatDoorQC
import Derived.Test.YtdebndfaknfefaaGreatDoorCF
section
namespace LJ
open Go Go.RowKit
set_option linter.unusedVariables false
set_option linter.unusedSimpArgs false
theorem vU (a b:Int):iLt a b= !iLe b a:=by
 by_cases h:a<b
 ·rw [aU h,j3 (by omega)];rfl
 ·rw [aX (by omega),iU (by omega)];rfl
def cfgB (c:aO):Bool:=((((iLe 0 c.Mode&&iLe c.Mode 2)&&(iLe 1 c.Workers&&iLe c.Workers 8))&&(iLe 1 c.Quantum&&iLe c.Quantum 100))&&(iLe 0 c.Policy&&iLe c.Policy 3))
theorem EP {c:aO} (h:cfgB c=true):OkC c:=by
 unfold cfgB at h
 simp only [Bool.and_eq_true,dZ] at h
 exact ⟨h.1.1.1,h.1.1.2,h.1.2,h.2⟩
theorem B9 {c:aO} (h:OkC c):cfgB c=true:=by
 unfold cfgB
 rw [iU h.m.1,iU h.m.2,iU h.w.1,iU h.w.2,iU h.q.1,iU h.q.2,iU h.p.1,iU h.p.2]
 rfl
theorem rC (c:aO):fJ c=some (cond (cfgB c) 0 1):=by
 unfold fJ jr cfgB
 cases iLe 0 c.Mode <;> cases iLe c.Mode 2 <;> cases iLe 1 c.Workers <;> cases iLe c.Workers 8 <;> cases iLe 1 c.Quantum <;> cases iLe c.Quantum 100 <;> cases iLe 0 c.Policy <;> cases iLe c.Policy 3 <;> rfl
def chkE:List ay→Int
 | []=>0
 | x::l=>cond (iNe x.Kind 1&&iNe x.Kind 2) 6 (cond (iEq x.Kind 2&&iNe x.B 0) 2 (chkE l))
def verE (p:aa):Int:=match ef p with
 | some r=>r.2
 | none=>0
theorem zb (p:aa):∃ w x y,ef p=some (w,verE p)∧eI p=some (x,y,verE p)∧(verE p=0→chkP p=0):=by
 obtain ⟨w,x,y,e,h1,h2,h3⟩:=C9 p
 have he:verE p=e:=by unfold verE;rw [h1]
 rw [he]
 exact ⟨w,x,y,h1,h2,h3⟩
def chkS (s:aq):Int:=cond (cfgB s.Config) (cond (iEq (verE s.Program) 0) (cond (iLt 4000 (s.Events.length:Int)) 4 (chkE s.Events)) (verE s.Program)) 1
theorem um (s:aq) (h:chkS s=0):OkC s.Config:=by
 unfold chkS at h
 cases hc:cfgB s.Config with
 | true=>exact EP hc
 | false=>rw [hc,cond_false] at h;exact absurd h (by decide)
theorem Ca {α:Type} [Inhabited α] {l:List α} {i:Nat} (h:i<l.length):l.drop i=l.getD i default::l.drop (i+1):=by
 rw [List.drop_eq_getElem_cons h,List.getD_eq_getElem?_getD,List.getElem?_eq_getElem h];rfl
theorem zd (s:aq) (hl:s.Events.length≤4000):∀ (n i f:Nat),i+n=s.Events.length→n<f→dE s f (i:Int)=some (chkE (s.Events.drop i))
 | n,i,0,hi,hf=>by omega
 | 0,i,f+1,hi,hf=>by
  rw [dE,aX (by omega),cond_false,List.drop_of_length_le (by omega)];rfl
 | n+1,i,f+1,hi,hf=>by
  rw [dE,aU (by omega),cond_true,au (aK ⟨by omega,by omega⟩),Int.toNat_natCast,Ca (show i<s.Events.length by omega),chkE,w64 (by omega),show (i:Int)+1=((i+1:Nat):Int) by omega,zd s hl n (i+1) f (by omega) (by omega)]
  cases (iNe (s.Events.getD i default).Kind 1&&iNe (s.Events.getD i default).Kind 2) with
  | true=>rfl
  | false=>
   rw [cond_false,cond_false]
   cases (iEq (s.Events.getD i default).Kind 2&&iNe (s.Events.getD i default).B 0) <;> rfl
theorem mw (s:aq):dU s=some (chkS s):=by
 obtain ⟨w,_,_,hv,_⟩:=zb s.Program
 unfold dU chkS
 rw [rC,af,hv]
 cases cfgB s.Config with
 | false=>rfl
 | true=>
  rw [cond_true,cond_true,bH rfl,cond_false,af]
  dsimp only
  by_cases h0:verE s.Program=0
  ·rw [bH h0,bd h0,cond_false,cond_true]
   by_cases h4:4000<(s.Events.length:Int)
   ·rw [aU h4];rfl
   ·rw [aX (by omega),cond_false,cond_false]
    exact zd s (by omega) s.Events.length 0 fuel (by omega) (by have:=aM;omega)
  ·rw [b8 h0,aP h0];rfl
def I64E (x:ay):Prop:=(-9223372036854775808≤x.A∧x.A<9223372036854775808)∧(-9223372036854775808≤x.B∧x.B<9223372036854775808)
theorem Cb:∀ l:List ay,(∀ x∈l,I64E x)→chkE l=0→∀ x∈l,OkE x
 | [],_,_=>fun x hx=>by cases hx
 | y::l,hr,h=>fun x hx=>by
  rw [chkE] at h
  cases h1:(iNe y.Kind 1&&iNe y.Kind 2) with
  | true=>rw [h1,cond_true] at h;exact absurd h (by decide)
  | false=>
   rw [h1,cond_false] at h
   cases h2:(iEq y.Kind 2&&iNe y.B 0) with
   | true=>rw [h2,cond_true] at h;exact absurd h (by decide)
   | false=>
    rw [h2,cond_false] at h
    rcases List.mem_cons.1 hx with rfl | hx
    ·have hy:=hr x (List.mem_cons_self ..)
     have k1:x.Kind=1∨x.Kind=2:=by
      rcases Classical.em (x.Kind=1) with k | k
      ·exact .inl k
      ·rcases Classical.em (x.Kind=2) with k' | k'
       ·exact .inr k'
       ·rw [b8 k,b8 k'] at h1;cases h1
     refine ⟨k1,hy.1,hy.2,fun hk=>?_⟩
     rcases Classical.em (x.B=0) with k | k
     ·exact k
     ·rw [bd hk,b8 k] at h2;cases h2
    ·exact Cb l (fun z hz=>hr z (List.mem_cons_of_mem _ hz)) h x hx
theorem ES {s:aq} (h:chkS s=0) (hr:∀ x∈s.Events,I64E x):OkS s:=by
 have hc:=um s h
 unfold chkS at h
 rw [B9 hc,cond_true] at h
 by_cases h0:verE s.Program=0
 ·rw [bd h0,cond_true] at h
  by_cases h4:4000<(s.Events.length:Int)
  ·rw [aU h4,cond_true] at h;exact absurd h (by decide)
  ·rw [aX (by omega),cond_false] at h
   obtain ⟨_,_,_,_,_,hp⟩:=zb s.Program
   exact ⟨hc,hp h0,by omega,Cb _ hr h⟩
 ·rw [aP h0,cond_false] at h
  exact absurd h h0
theorem o6 (c:aO):gq c=some (cond (cfgB c) 0 1):=by
 unfold gq cfgB
 rw [show iLt c.Mode 0= !iLe 0 c.Mode from vU _ _,show iLt 2 c.Mode= !iLe c.Mode 2 from vU _ _,show iLt c.Workers 1= !iLe 1 c.Workers from vU _ _,show iLt 8 c.Workers= !iLe c.Workers 8 from vU _ _,show iLt c.Quantum 1= !iLe 1 c.Quantum from vU _ _,show iLt 100 c.Quantum= !iLe c.Quantum 100 from vU _ _,show iLt c.Policy 0= !iLe 0 c.Policy from vU _ _,show iLt 3 c.Policy= !iLe c.Policy 3 from vU _ _]
 cases iLe 0 c.Mode <;> cases iLe c.Mode 2 <;> cases iLe 1 c.Workers <;> cases iLe c.Workers 8 <;> cases iLe 1 c.Quantum <;> cases iLe c.Quantum 100 <;> cases iLe 0 c.Policy <;> cases iLe c.Policy 3 <;> rfl
theorem vV (s:aq) (hl:s.Events.length≤4000):∀ (n i f:Nat),i+n=s.Events.length→n<f→ed s f (i:Int)=some (chkE (s.Events.drop i))
 | n,i,0,hi,hf=>by omega
 | 0,i,f+1,hi,hf=>by
  rw [ed,aX (by omega),cond_false,List.drop_of_length_le (by omega)];rfl
 | n+1,i,f+1,hi,hf=>by
  rw [ed,aU (by omega),cond_true,au (aK ⟨by omega,by omega⟩),Int.toNat_natCast,Ca (show i<s.Events.length by omega),chkE,w64 (by omega),show (i:Int)+1=((i+1:Nat):Int) by omega,vV s hl n (i+1) f (by omega) (by omega)]
  cases (iNe (s.Events.getD i default).Kind 1&&iNe (s.Events.getD i default).Kind 2) with
  | true=>rfl
  | false=>
   rw [cond_false,cond_false]
   cases (iEq (s.Events.getD i default).Kind 2&&iNe (s.Events.getD i default).B 0) <;> rfl
theorem Cc (s:aq):gf s=some (chkS s):=by
 obtain ⟨_,a,b,_,hv,_⟩:=zb s.Program
 unfold gf chkS
 rw [o6,af,hv]
 cases cfgB s.Config with
 | false=>rfl
 | true=>
  rw [cond_true,cond_true,bH rfl,cond_false,af]
  dsimp only
  by_cases h0:verE s.Program=0
  ·rw [bH h0,bd h0,cond_false,cond_true]
   by_cases h4:4000<(s.Events.length:Int)
   ·rw [aU h4];rfl
   ·rw [aX (by omega),cond_false,cond_false]
    exact vV s (by omega) s.Events.length 0 fuel (by omega) (by have:=aM;omega)
  ·rw [b8 h0,aP h0];rfl
theorem my (b:ByteArray) (c:UInt8):(b.push c).size=b.size+1:=by
 rw [←jl,qQ,List.length_append,jl];rfl
theorem xz {s:aq} (h:OkS s):∀ (n i f:Nat) (b:ByteArray),i+n=s.Events.length→n<f→b.size+21*n≤1000000→dy s f ((i:Int),b)=some (bs (mG++(bl b++(s.Events.drop i).flatMap putE)),0)
 | n,i,0,b,hi,hf,hb=>by omega
 | 0,i,f+1,b,hi,hf,hb=>by
  rw [dy]
  dsimp only
  rw [aX (by omega),cond_false,List.drop_of_length_le (by omega)]
  unfold cE
  rw [af,au (bX (by show 3+b.size≤_;omega))]
  refine congrArg (fun z=>some (z,(0:Int))) (bQ ?_)
  rw [jm,gC,List.flatMap_nil,List.append_nil]
  rfl
 | n+1,i,f+1,b,hi,hf,hb=>by
  have hx:=h.e _ (iA s.Events i (by omega))
  have hn:=h.n
  have l1:=aL (nO hx.a.1 hx.a.2)
  have l2:=aL (nO hx.b.1 hx.b.2)
  have hk:=hx.k
  rw [dy]
  dsimp only
  rw [aU (by omega),cond_true,au (aK ⟨by omega,by omega⟩),Int.toNat_natCast,yG (by omega),af,tH hx.a.1 hx.a.2 (by rw [my];omega),af,w64 (by omega),show (i:Int)+1=((i+1:Nat):Int) by omega,Ca (show i<s.Events.length by omega),List.flatMap_cons]
  have hkb:UInt8.ofNat ((s.Events.getD i default).Kind %256).toNat=UInt8.ofNat (s.Events.getD i default).Kind.toNat:=by
   rcases hk with k | k <;> rw [k] <;> rfl
  rw [hkb]
  rcases hk with k | k
  ·rw [bd k,cond_true,tH hx.b.1 hx.b.2 (by rw [ByteArray.size_append,my,aN];omega),af]
   dsimp only
   rw [xz h n (i+1) f _ (by omega) (by omega) (by rw [ByteArray.size_append,ByteArray.size_append,my,aN,aN];omega)]
   refine congrArg (fun z=>some (bs (mG++z),(0:Int))) ?_
   unfold putE
   rw [bd k,cond_true,jm,jm,qQ,gC,gC]
   simp
  ·rw [aP (by omega),cond_false]
   rw [xz h n (i+1) f _ (by omega) (by omega) (by rw [ByteArray.size_append,my,aN];omega)]
   refine congrArg (fun z=>some (bs (mG++z),(0:Int))) ?_
   unfold putE
   rw [aP (by omega),cond_false,jm,qQ,gC]
   simp
def cfgL (c:aO):List Int:=[c.Mode,c.Workers,c.Quantum,c.Policy]
theorem DQ {s:aq} (h:OkS s):∀ (n i f:Nat) (b:ByteArray),i+n=4→n<f→b.size+10*n≤1000→eO s f ((i:Int),b)=some (bs (mG++(bl b++(((cfgL s.Config).drop i).flatMap (fun v=>numL v.toNat)++((numL (putP s.Program).length++putP s.Program)++(numL s.Events.length++s.Events.flatMap putE))))),0)
 | n,i,0,b,hi,hf,hb=>by omega
 | 0,i,f+1,b,hi,hf,hb=>by
  have hl:=yN (lN.of h.p)
  have hn:=h.n
  have l1:=aL (n:=(putP s.Program).length) (by omega)
  have l2:=aL (n:=s.Events.length) (by omega)
  rw [eO]
  dsimp only
  rw [aX (by simp only [List.length_cons,List.length_nil];omega),cond_false,xq h.p,af]
  dsimp only
  rw [bH rfl,cond_false,CD (by rw [aN];omega) (by rw [aN];omega),af,wu64 (by omega),mZ (n:=s.Events.length) (by omega) (by simp only [ByteArray.size_append,aN];omega),af]
  dsimp only
  have:=xz h s.Events.length 0 fuel (b++bs (numL (bs (putP s.Program)).size)++bs (putP s.Program)++bs (numL s.Events.length)) (by omega) (by have:=aM;omega) (by simp only [ByteArray.size_append,aN];omega)
  rw [show ((0:Nat):Int)=0 from rfl] at this
  rw [this,List.drop_of_length_le (show (cfgL s.Config).length≤i by show 4≤i;omega)]
  refine congrArg (fun z=>some (bs (mG++z),(0:Int))) ?_
  simp
 | n+1,i,f+1,b,hi,hf,hb=>by
  have hc:=h.c
  have hm:=hc.m
  have hw:=hc.w
  have hq:=hc.q
  have hp:=hc.p
  have hv:0≤(cfgL s.Config).getD i default∧(cfgL s.Config).getD i default≤100:=by
   have:i=0∨i=1∨i=2∨i=3:=by omega
   rcases this with rfl | rfl | rfl | rfl
   ·exact ⟨hm.1,by show s.Config.Mode≤100;omega⟩
   ·exact ⟨by show 0≤s.Config.Workers;omega,by show s.Config.Workers≤100;omega⟩
   ·exact ⟨by show 0≤s.Config.Quantum;omega,hq.2⟩
   ·exact ⟨hp.1,by show s.Config.Policy≤100;omega⟩
  have l1:=aL (n:=((cfgL s.Config).getD i default).toNat) (by omega)
  have e4:([s.Config.Mode,s.Config.Workers,s.Config.Quantum,s.Config.Policy]:List Int)=cfgL s.Config:=rfl
  have e5:(cfgL s.Config).length=4:=rfl
  rw [eO,e4]
  dsimp only
  rw [e5,aU (by omega),cond_true,au (aK ⟨by omega,by omega⟩),Int.toNat_natCast,wu64 (by omega),jb hv.1 (by omega) (by omega),af,w64 (by omega),show (i:Int)+1=((i+1:Nat):Int) by omega]
  dsimp only
  rw [DQ h n (i+1) f _ (by omega) (by omega) (by rw [ByteArray.size_append,aN];omega),Ca (show i<(cfgL s.Config).length by rw [e5];omega),List.flatMap_cons]
  refine congrArg (fun z=>some (bs (mG++z),(0:Int))) ?_
  rw [jm,gC]
  simp
theorem DR {s:aq} (h:OkS s) (hc:chkS s=0):ff s=some (bs (putS s),0):=by
 unfold ff
 rw [mw,af,bH hc,cond_false]
 have:=DQ h 4 0 fuel ByteArray.empty (by omega) (by have:=aM;omega) (by show 0+_≤_;omega)
 rw [show ((0:Nat):Int)=0 from rfl] at this
 rw [this]
 refine congrArg (fun z=>some (bs z,(0:Int))) ?_
 unfold putS B3 cfgL
 simp
theorem uo {s:ByteArray} (hs:s.size≤9007199254740992) {l:List UInt8} {e:Int} (h:RdOK s l e):fM (mkI s l e)=some (cap (rdN l e).2.1,mkI s (rdN l e).2.2 (rdN l e).1):=by
 unfold fM
 rw [fj hs h,af]
 dsimp only
 congr 2
 unfold cap iMin
 have:=qY l e
 split
 ·rw [w64 (by omega)];omega
 ·rw [w64 (by omega)];omega
theorem lP {l:List UInt8} {e:Int} (h:e≠0):rdN l e=(e,0,[]):=by unfold rdN;rw [if_neg h]
theorem uq {l:List UInt8} {e:Int} (h:e≠0):rdT l e=(e,[],[]):=by
 unfold rdT
 rw [lP h,if_pos h]
theorem FL {s:ByteArray} (hs:s.size≤9007199254740992) {l:List UInt8} (h:l<:+bl s) {e:Int} (he:evP l= .inl e):∃ x r,eC (mkI s l 0)=some (x,e,r)∧e≠0:=by
 have ok:RdOK s l 0:=⟨h,fun h=>absurd rfl h⟩
 have hnz:e≠0:=DL l e he
 unfold eC
 rw [m4 hs ok,af,bN,af]
 cases l with
 | nil=>
  cases he
  exact ⟨_,_,rfl,hnz⟩
 | cons b t=>
  have okt:RdOK s t 0:=⟨n9 h,fun h=>absurd rfl h⟩
  rw [evP] at he
  rw [show rdB (b::t) 0=(0,b.toNat,t) from rfl]
  dsimp only
  rw [bH rfl,cond_false]
  by_cases h1:(b.toNat:Int)=1
  ·rw [bd h1,cond_true] at he
   rw [bH h1,Bool.false_and,cond_false,gw hs okt,af,bd h1,cond_true]
   dsimp only
   rw [gw hs okt.num,af,bN,af]
   have key:(rdN (rdN t 0).2.2 (rdN t 0).1).1=e:=by
    cases ha:intP t with
    | inl e1=>
     rw [ha] at he
     cases he
     obtain ⟨k1,k2⟩:=ua ha
     dsimp only at k1
     rw [k1,lP k2]
    | inr a=>
     rw [ha,dH] at he
     obtain ⟨k1,k2⟩:=gk ha
     subst k2
     dsimp only at k1 he
     rw [k1]
     cases hb:intP (rdN t 0).2.2 with
     | inl e2=>
      rw [hb] at he
      cases he
      exact (ua hb).1
     | inr c=>rw [hb] at he;cases he
   rw [key]
   exact ⟨_,_,rfl,hnz⟩
  ·rw [aP h1,cond_false] at he
   by_cases h2:(b.toNat:Int)=2
   ·rw [bd h2,cond_true] at he
    rw [bH h2,Bool.and_false,cond_false,gw hs okt,af,aP h1,cond_false,bN,af]
    have key:(rdN t 0).1=e:=by
     cases ha:intP t with
     | inl e1=>rw [ha] at he;cases he;exact (ua ha).1
     | inr a=>rw [ha] at he;cases he
    rw [key]
    exact ⟨_,_,rfl,hnz⟩
   ·rw [aP h2,cond_false] at he
    cases he
    rw [b8 h1,b8 h2,Bool.and_self,cond_true]
    exact ⟨_,_,rfl,hnz⟩
theorem FM {s:ByteArray} (hs:s.size≤9007199254740992) {l:List UInt8} (h:l<:+bl s) {x:ay} {t:List UInt8} (he:evP l= .inr (x,t)):eC (mkI s l 0)=some (x,0,mkI s t 0)∧t<:+bl s:=by
 have ok:RdOK s l 0:=⟨h,fun h=>absurd rfl h⟩
 have hsuf:=(B5 _ _ _ he).1
 refine ⟨?_,List.IsSuffix.trans ⟨_,hsuf.symm⟩ h⟩
 clear hsuf
 unfold eC
 rw [m4 hs ok,af,bN,af]
 cases l with
 | nil=>cases he
 | cons b k=>
  have okt:RdOK s k 0:=⟨n9 h,fun h=>absurd rfl h⟩
  rw [evP] at he
  rw [show rdB (b::k) 0=(0,b.toNat,k) from rfl]
  dsimp only
  rw [bH rfl,cond_false]
  by_cases h1:(b.toNat:Int)=1
  ·rw [bd h1,cond_true] at he
   obtain ⟨a,ha,he⟩:=fU he
   obtain ⟨c,hc,he⟩:=fU he
   cases he
   obtain ⟨k1,k2⟩:=gk ha
   subst k2
   dsimp only at k1 hc
   obtain ⟨k3,k4⟩:=gk hc
   subst k4
   dsimp only at k3
   rw [bH h1,Bool.false_and,cond_false,gw hs okt,af,bd h1,cond_true]
   dsimp only
   rw [gw hs okt.num,af,bN,af,k1,k3,h1]
  ·rw [aP h1,cond_false] at he
   by_cases h2:(b.toNat:Int)=2
   ·rw [bd h2,cond_true] at he
    obtain ⟨a,ha,he⟩:=fU he
    cases he
    obtain ⟨k1,k2⟩:=gk ha
    subst k2
    dsimp only at k1
    rw [bH h2,Bool.and_false,cond_false,gw hs okt,af,aP h1,cond_false,bN,af,k1,h2]
   ·rw [aP h2,cond_false] at he;cases he
def Rd3 (z:Option (aq×Int×an)) (g:aq×Int):Prop:=∃ s r,z=some (s,g.2,r)∧(g.2=0→s=g.1)
theorem ze {s:ByteArray} (hs:s.size≤9007199254740992) (x1 x2 x3 x4:Int×an) (x8:aa×Int) (x10:Int×an) {N:Nat} (hN:x10.1=(N:Int)) (hN2:N≤4000):∀ (n i f:Nat) (l:List UInt8) (acc:List ay),i+n=N→n<f→acc.length=i→l<:+bl s→
  Rd3 (dG x1 x2 x3 x4 x8 x10 f ((i:Int),s,(s.size:Int) - l.length,0,acc)) (outS (sb (repP evP n l acc) fun v=>clS chkS (⟨⟨x1.1,x2.1,x3.1,x4.1⟩,x8.1,v.1⟩,v.2)))
 | n,i,0,l,acc,hi,hf,ha,hl=>by omega
 | 0,i,f+1,l,acc,hi,hf,ha,hl=>by
  have e:(⟨s,(s.size:Int) - l.length,0⟩:an)=mkI s l 0:=rfl
  rw [dG,repP,dH]
  dsimp only
  rw [hN,aX (by omega),cond_false,e,qZ hs ⟨hl,fun h=>absurd rfl h⟩,af]
  unfold clS
  dsimp only
  by_cases h0:l.length=0
  ·rw [aX (by omega),cond_false,bd (by omega),cond_true,mw,af]
   by_cases hc:chkS ⟨⟨x1.1,x2.1,x3.1,x4.1⟩,x8.1,acc⟩=0
   ·rw [bd hc,cond_true,hc]
    exact ⟨_,_,rfl,fun _=>rfl⟩
   ·rw [aP hc,cond_false]
    exact ⟨_,_,rfl,fun h=>absurd h hc⟩
  ·rw [aU (by omega),cond_true,aP (by omega),cond_false]
   exact ⟨_,_,rfl,fun h=>by cases h⟩
 | n+1,i,f+1,l,acc,hi,hf,ha,hl=>by
  have e:(⟨s,(s.size:Int) - l.length,0⟩:an)=mkI s l 0:=rfl
  rw [dG,repP]
  dsimp only
  rw [hN,aU (by omega),cond_true,e]
  cases hv:evP l with
  | inl er=>
   obtain ⟨x,r,h1,h2⟩:=FL hs hl hv
   rw [h1,af]
   dsimp only
   rw [b8 h2,cond_true]
   exact ⟨_,_,rfl,fun h=>absurd h h2⟩
  | inr r=>
   obtain ⟨x,t⟩:=r
   obtain ⟨h1,h2⟩:=FM hs hl hv
   rw [h1,af,dH]
   dsimp only
   rw [bH rfl,cond_false,au (cQ (by simp;omega)),wu64 (by omega),show (i:Int)+1=((i+1:Nat):Int) by omega]
   exact ze hs x1 x2 x3 x4 x8 x10 hN hN2 n (i+1) f t _ (by omega) (by omega) (by simp;omega) h2
theorem ET (l:List UInt8):C5 l=cond (iEq (rdT (rdN (rdN (rdN (rdN l 0).2.2 (rdN l 0).1).2.2 (rdN (rdN l 0).2.2 (rdN l 0).1).1).2.2 (rdN (rdN (rdN l 0).2.2 (rdN l 0).1).2.2 (rdN (rdN l 0).2.2 (rdN l 0).1).1).1).2.2 (rdN (rdN (rdN (rdN l 0).2.2 (rdN l 0).1).2.2 (rdN (rdN l 0).2.2 (rdN l 0).1).1).2.2 (rdN (rdN (rdN l 0).2.2 (rdN l 0).1).2.2 (rdN (rdN l 0).2.2 (rdN l 0).1).1).1).1).1 0)
  (.inr ((⟨cap (rdN l 0).2.1,cap (rdN (rdN l 0).2.2 (rdN l 0).1).2.1,cap (rdN (rdN (rdN l 0).2.2 (rdN l 0).1).2.2 (rdN (rdN l 0).2.2 (rdN l 0).1).1).2.1,cap (rdN (rdN (rdN (rdN l 0).2.2 (rdN l 0).1).2.2 (rdN (rdN l 0).2.2 (rdN l 0).1).1).2.2 (rdN (rdN (rdN l 0).2.2 (rdN l 0).1).2.2 (rdN (rdN l 0).2.2 (rdN l 0).1).1).1).2.1⟩,(rdT (rdN (rdN (rdN (rdN l 0).2.2 (rdN l 0).1).2.2 (rdN (rdN l 0).2.2 (rdN l 0).1).1).2.2 (rdN (rdN (rdN l 0).2.2 (rdN l 0).1).2.2 (rdN (rdN l 0).2.2 (rdN l 0).1).1).1).2.2 (rdN (rdN (rdN (rdN l 0).2.2 (rdN l 0).1).2.2 (rdN (rdN l 0).2.2 (rdN l 0).1).1).2.2 (rdN (rdN (rdN l 0).2.2 (rdN l 0).1).2.2 (rdN (rdN l 0).2.2 (rdN l 0).1).1).1).1).2.1),(rdT (rdN (rdN (rdN (rdN l 0).2.2 (rdN l 0).1).2.2 (rdN (rdN l 0).2.2 (rdN l 0).1).1).2.2 (rdN (rdN (rdN l 0).2.2 (rdN l 0).1).2.2 (rdN (rdN l 0).2.2 (rdN l 0).1).1).1).2.2 (rdN (rdN (rdN (rdN l 0).2.2 (rdN l 0).1).2.2 (rdN (rdN l 0).2.2 (rdN l 0).1).1).2.2 (rdN (rdN (rdN l 0).2.2 (rdN l 0).1).2.2 (rdN (rdN l 0).2.2 (rdN l 0).1).1).1).1).2.2))
  (.inl (rdT (rdN (rdN (rdN (rdN l 0).2.2 (rdN l 0).1).2.2 (rdN (rdN l 0).2.2 (rdN l 0).1).1).2.2 (rdN (rdN (rdN l 0).2.2 (rdN l 0).1).2.2 (rdN (rdN l 0).2.2 (rdN l 0).1).1).1).2.2 (rdN (rdN (rdN (rdN l 0).2.2 (rdN l 0).1).2.2 (rdN (rdN l 0).2.2 (rdN l 0).1).1).2.2 (rdN (rdN (rdN l 0).2.2 (rdN l 0).1).2.2 (rdN (rdN l 0).2.2 (rdN l 0).1).1).1).1).1):=by
 unfold C5 numP EJ
 generalize hM:rdN l 0=M
 by_cases m0:M.1=0
 ·rw [kZ m0,dH]
  dsimp only
  rw [m0]
  generalize hW:rdN M.2.2 0=W
  by_cases w0:W.1=0
  ·rw [kZ w0,dH]
   dsimp only
   rw [w0]
   generalize hQ:rdN W.2.2 0=Q
   by_cases q0:Q.1=0
   ·rw [kZ q0,dH]
    dsimp only
    rw [q0]
    generalize hY:rdN Q.2.2 0=Y
    by_cases y0:Y.1=0
    ·rw [kZ y0,dH]
     dsimp only
     rw [y0]
     generalize hT:rdT Y.2.2 0=T
     by_cases t0:T.1=0
     ·rw [kZ t0,dH,bd t0,cond_true]
     ·rw [iX t0,kY,aP t0,cond_false]
    ·rw [iX y0,kY,uq y0]
     dsimp only
     rw [aP y0,cond_false]
   ·rw [iX q0,kY,lP q0]
    dsimp only
    rw [uq q0]
    dsimp only
    rw [aP q0,cond_false]
  ·rw [iX w0,kY,lP w0]
   dsimp only
   rw [lP w0]
   dsimp only
   rw [uq w0]
   dsimp only
   rw [aP w0,cond_false]
 ·rw [iX m0,kY,lP m0]
  dsimp only
  rw [lP m0]
  dsimp only
  rw [lP m0]
  dsimp only
  rw [uq m0]
  dsimp only
  rw [aP m0,cond_false]
theorem EU {s:ByteArray} {l:List UInt8} {e:Int} (h:RdOK s l e):(rdT l e).2.1.length≤s.size:=by
 have:=lI h.num.suf
 unfold rdT
 split
 ·exact Nat.zero_le _
 ·split
  ·exact Nat.zero_le _
  ·dsimp only
   rw [List.length_take]
   omega
theorem EV {s:ByteArray} (hs:s.size≤9007199254740992):Rd3 (im (mkI s (bl s) 0)) (outS (sb (scP (bl s)) (clS chkS))):=by
 have k0:=RdOK.start s
 have k4:=k0.num.num.num.num
 have hce:=ET (bl s)
 unfold im scP
 rw [uo hs k0,af,uo hs k0.num,af,uo hs k0.num.num,af,uo hs k0.num.num.num,af,wV hs k4,af,bN,af]
 dsimp only
 rw [hce]
 clear hce
 have k5:=k4.text
 have k6:=EU k4
 generalize rdT (rdN (rdN (rdN (rdN (bl s) 0).2.2 (rdN (bl s) 0).1).2.2 (rdN (rdN (bl s) 0).2.2 (rdN (bl s) 0).1).1).2.2 (rdN (rdN (rdN (bl s) 0).2.2 (rdN (bl s) 0).1).2.2 (rdN (rdN (bl s) 0).2.2 (rdN (bl s) 0).1).1).1).2.2 (rdN (rdN (rdN (rdN (bl s) 0).2.2 (rdN (bl s) 0).1).2.2 (rdN (rdN (bl s) 0).2.2 (rdN (bl s) 0).1).1).2.2 (rdN (rdN (rdN (bl s) 0).2.2 (rdN (bl s) 0).1).2.2 (rdN (rdN (bl s) 0).2.2 (rdN (bl s) 0).1).1).1).1=T at k5 k6 ⊢
 by_cases t0:T.1=0
 ·rw [bH t0,bd t0,cond_false,cond_true,dH,xt (by rw [aN];omega),af,gC]
  dsimp only
  unfold gP
  by_cases p0:(getP T.2.1).2=0
  ·rw [bH p0,bd p0,cond_false,cond_true,dH,t0]
   rw [t0] at k5
   rw [fj hs k5,af,bN,af]
   dsimp only
   unfold ot numP
   by_cases n0:(rdN T.2.2 0).1=0
   ·rw [bH n0,cond_false,kZ n0,dH]
    dsimp only
    by_cases n4:4000<((rdN T.2.2 0).2.1:Int)
    ·rw [aU n4,cond_true,aU (a:=((4000:Nat):Int)) (by omega),cond_true]
     exact ⟨_,_,rfl,fun h=>by cases h⟩
    ·rw [aX (by omega),cond_false,aX (a:=((4000:Nat):Int)) (by omega),cond_false,dH]
     dsimp only
     rw [n0,CR]
     have:=ze hs (cap (rdN (bl s) 0).2.1,mkI s (rdN (bl s) 0).2.2 (rdN (bl s) 0).1) (cap (rdN (rdN (bl s) 0).2.2 (rdN (bl s) 0).1).2.1,mkI s (rdN (rdN (bl s) 0).2.2 (rdN (bl s) 0).1).2.2 (rdN (rdN (bl s) 0).2.2 (rdN (bl s) 0).1).1) (cap (rdN (rdN (rdN (bl s) 0).2.2 (rdN (bl s) 0).1).2.2 (rdN (rdN (bl s) 0).2.2 (rdN (bl s) 0).1).1).2.1,mkI s (rdN (rdN (rdN (bl s) 0).2.2 (rdN (bl s) 0).1).2.2 (rdN (rdN (bl s) 0).2.2 (rdN (bl s) 0).1).1).2.2 (rdN (rdN (rdN (bl s) 0).2.2 (rdN (bl s) 0).1).2.2 (rdN (rdN (bl s) 0).2.2 (rdN (bl s) 0).1).1).1)
      (cap (rdN (rdN (rdN (rdN (bl s) 0).2.2 (rdN (bl s) 0).1).2.2 (rdN (rdN (bl s) 0).2.2 (rdN (bl s) 0).1).1).2.2 (rdN (rdN (rdN (bl s) 0).2.2 (rdN (bl s) 0).1).2.2 (rdN (rdN (bl s) 0).2.2 (rdN (bl s) 0).1).1).1).2.1,mkI s (rdN (rdN (rdN (rdN (bl s) 0).2.2 (rdN (bl s) 0).1).2.2 (rdN (rdN (bl s) 0).2.2 (rdN (bl s) 0).1).1).2.2 (rdN (rdN (rdN (bl s) 0).2.2 (rdN (bl s) 0).1).2.2 (rdN (rdN (bl s) 0).2.2 (rdN (bl s) 0).1).1).1).2.2 (rdN (rdN (rdN (rdN (bl s) 0).2.2 (rdN (bl s) 0).1).2.2 (rdN (rdN (bl s) 0).2.2 (rdN (bl s) 0).1).1).2.2 (rdN (rdN (rdN (bl s) 0).2.2 (rdN (bl s) 0).1).2.2 (rdN (rdN (bl s) 0).2.2 (rdN (bl s) 0).1).1).1).1)
      (getP T.2.1) (((rdN T.2.2 0).2.1:Int),mkI s (rdN T.2.2 0).2.2 0) (N:=(rdN T.2.2 0).2.1) rfl (by omega) (rdN T.2.2 0).2.1 0 fuel (rdN T.2.2 0).2.2 [] (by omega) (by have:=aM;omega) rfl (by have:=k5.num.suf;exact this)
     exact this
   ·rw [b8 n0,cond_true,iX n0,kY,kY]
    exact ⟨_,_,rfl,fun h=>absurd h n0⟩
  ·rw [b8 p0,aP p0,cond_true,cond_false,kY]
   exact ⟨_,_,rfl,fun h=>absurd h p0⟩
 ·rw [b8 t0,aP t0,cond_true,cond_false,kY]
  exact ⟨_,_,rfl,fun h=>absurd h t0⟩
end LJ
end
section
namespace LJ
open Go Go.RowKit
set_option linter.unusedVariables false
set_option linter.unusedSimpArgs false
theorem zg {z:Int ⊕ aq} (h:(outS z).2≠0):(outS z).1=noS:=by
 cases z with
 | inl e=>rfl
 | inr s=>exact absurd rfl h
theorem FN {s:ByteArray} (hs:s.size≤9007199254740992):fi s=some (getS chkS (bl s)):=by
 have h3:(⟨#[76,83,1]⟩:ByteArray)=bs mG:=rfl
 have h3s:(bs mG).size=3:=rfl
 unfold fi fL dK cj getS
 rw [h3,h3s]
 by_cases hl:3≤s.size
 ·have hx:s.extract 0 ((3:Nat):Int).toNat=bs ((bl s).take 3):=by
   apply bQ
   rw [ic,gC,Int.toNat_natCast,List.drop_zero]
  rw [iU (by omega),yr (by omega)]
  simp only [Bool.not_true,Bool.false_or]
  rw [au rfl,af,hx,Bool.true_and]
  cases hc:sEq (bs ((bl s).take 3)) (bs mG) with
  | false=>rfl
  | true=>
   have he:s.extract ((3:Nat):Int).toNat s.size=bs ((bl s).drop 3):=by
    apply bQ
    rw [ic,gC,←jl,List.take_length]
    rfl
   rw [Bool.not_true,cond_false,cond_true,au rfl,af,af,he]
   dsimp only
   rw [Bool.not_true,cond_false,qX,af]
   obtain ⟨s',r,h1,h2⟩:=EV (s:=bs ((bl s).drop 3)) (by rw [aN,List.length_drop,jl];omega)
   rw [gC] at h1 h2
   rw [gC,h1,af]
   dsimp only
   by_cases h0:(outS (sb (scP ((bl s).drop 3)) (clS chkS))).2=0
   ·rw [bH h0,cond_false,h2 h0]
    exact congrArg some (Prod.ext rfl h0.symm)
   ·rw [b8 h0,cond_true]
    exact congrArg some (Prod.ext (zg h0).symm rfl)
 ·have hc:sEq (bs ((bl s).take 3)) (bs mG)=false:=Cu fun h=>by
   have:=congrArg ByteArray.size h
   rw [aN,h3s,List.length_take,jl] at this
   omega
  rw [j3 (by omega),hc]
  rfl
theorem ur:eU=some true:=by decide+kernel
def ownS (s:aq):aq:=⟨s.Config,ownP s.Program,s.Events.take 4100⟩
theorem xA (s:aq):fx s=some (ownS s):=by
 unfold fx
 rw [F5]
 by_cases h:4100<(s.Events.length:Int)
 ·rw [aU h,cond_true,au (vh (by omega)),af,au (cQ (by simp;omega))]
  rfl
 ·rw [aX (by omega),cond_false,af,au (cQ (by simp;omega))]
  unfold ownS
  rw [List.nil_append,List.take_of_length_le (by omega)]
theorem Da (s:aq):ownS (ownS s)=ownS s:=by
 unfold ownS
 dsimp only
 rw [CQ,List.take_take,Nat.min_self]
theorem zh (s:aq) (hl:s.Events.length≤4000):∀ (n i f:Nat),i+n=s.Events.length→n<f→eT s s f (i:Int)=some true
 | n,i,0,hi,hf=>by omega
 | 0,i,f+1,hi,hf=>by
  rw [eT,aX (by omega),cond_false]
 | n+1,i,f+1,hi,hf=>by
  have h1:nIn (i:Int) (s.Events.length:Int)=true:=aK ⟨by omega,by omega⟩
  rw [eT,aU (by omega),cond_true,au h1,au h1,bd rfl,bd rfl,bd rfl]
  simp only [Bool.and_self,Bool.not_true,cond_false]
  rw [w64 (by omega),show (i:Int)+1=((i+1:Nat):Int) by omega]
  exact zh s hl n (i+1) f (by omega) (by omega)
theorem F9 {s:aq} (hp:iq s.Program s.Program=some true) (hn:s.Events.length≤4000):fP s s=some true:=by
 unfold fP
 rw [bd rfl,bd rfl,bd rfl,bd rfl,hp,bH rfl]
 simp only [Bool.and_self,Bool.not_true,Bool.not_false,cond_true,af,Bool.or_self,Bool.or_false,cond_false]
 exact zh s hn s.Events.length 0 fuel (by omega) (by have:=aM;omega)
end LJ
end
section
namespace LJ
open Go Go.RowKit
set_option linter.unusedVariables false
set_option linter.unusedSimpArgs false
theorem Cd {s:aq} (h:OkS s):ownS s=s:=by
 have hn:=h.n
 unfold ownS
 rw [BH (lN.of h.p),List.take_of_length_le (by omega)]
theorem Db {s:aq} (h:chkS s=0):verE s.Program=0:=by
 have hc:=um s h
 unfold chkS at h
 rw [B9 hc,cond_true] at h
 by_cases h0:verE s.Program=0
 ·exact h0
 ·rw [aP h0,cond_false] at h
  exact absurd h h0
theorem EW (p:aa):kh p=some (iEq (verE p) 0):=by
 obtain ⟨_,x,y,_,h,_⟩:=zb p
 unfold kh
 rw [h,af]
theorem Dc {chk:aq→Int} {l:List UInt8} (h:(getS chk l).2≠0):(getS chk l).1=noS:=by
 unfold getS at h ⊢
 cases hc:sEq (bs (l.take 3)) (bs mG) with
 | false=>rfl
 | true=>
  rw [hc,cond_true] at h
  rw [cond_true]
  exact zg h
theorem EX:fP noS noS=some true:=F9 CV (by decide)
theorem pT {t:ByteArray} (ht:t.size≤140737488351232):fQ t=some true:=by
 unfold fQ
 rw [FN (by omega),af]
 by_cases h0:(getS chkS (bl t)).2=0
 ·obtain ⟨hz,ok,hl⟩:=C6 um h0
  have htt:bs (putS (getS chkS (bl t)).1)=t:=bQ (by rw [gC];exact hl.symm)
  have hv:=Db hz
  rw [bH h0,cond_false,xA,Cd ok,af,DR ok hz,af,EW,bd hv,af,cond_true,af,cond_true,mw,af,hz,htt]
  dsimp only
  rw [bd rfl,zq rfl,ur]
  rfl
 ·have e:=Dc h0
  rw [b8 h0,cond_true,e]
  have hs:=EX
  unfold noS noP at hs ⊢
  rw [hs,ur]
  rfl
theorem uu {s:aq} (h:OkS s):∀ (n i f:Nat) (b:ByteArray),i+n=s.Events.length→n<f→b.size+21*n≤1000000→dX s f (b,(i:Int))=some (bs (bl b++(s.Events.drop i).flatMap putE))
 | n,i,0,b,hi,hf,hb=>by omega
 | 0,i,f+1,b,hi,hf,hb=>by
  rw [dX]
  dsimp only
  rw [aX (by omega),cond_false,List.drop_of_length_le (by omega),List.flatMap_nil,List.append_nil,D9]
 | n+1,i,f+1,b,hi,hf,hb=>by
  have hx:=h.e _ (iA s.Events i (by omega))
  have hn:=h.n
  have l1:=aL (nO hx.a.1 hx.a.2)
  have l2:=aL (nO hx.b.1 hx.b.2)
  have hk:=hx.k
  have hs1:∀ c:UInt8,(ByteArray.empty.push c).size=1:=fun c=>rfl
  rw [dX]
  dsimp only
  rw [aU (by omega),cond_true,au (aK ⟨by omega,by omega⟩),Int.toNat_natCast,wu8 (by omega),au (aK ⟨by omega,by omega⟩),au (bX (by rw [hs1];omega)),yF hx.a.1 hx.a.2,af,au (bX (by rw [ByteArray.size_append,hs1,aN];omega)),w64 (by omega),show (i:Int)+1=((i+1:Nat):Int) by omega,Ca (show i<s.Events.length by omega),List.flatMap_cons]
  rcases hk with k | k
  ·rw [bd k,cond_true,yF hx.b.1 hx.b.2,af,au (bX (by simp only [ByteArray.size_append,hs1,aN];omega)),uu h n (i+1) f _ (by omega) (by omega) (by simp only [ByteArray.size_append,hs1,aN];omega)]
   refine congrArg (fun z=>some (bs z)) ?_
   unfold putE
   rw [bd k,cond_true]
   simp
  ·rw [aP (by omega),cond_false,uu h n (i+1) f _ (by omega) (by omega) (by simp only [ByteArray.size_append,hs1,aN];omega)]
   refine congrArg (fun z=>some (bs z)) ?_
   unfold putE
   rw [aP (by omega),cond_false]
   simp
theorem EY {s:aq} (h:OkS s):lF s=some (bs (putS s)):=by
 have hl:=yN (lN.of h.p)
 have hn:=h.n
 have hm:=h.c.m
 have hw:=h.c.w
 have hq:=h.c.q
 have hp:=h.c.p
 have a1:=aL (n:=s.Config.Mode.toNat) (by omega)
 have a2:=aL (n:=s.Config.Workers.toNat) (by omega)
 have a3:=aL (n:=s.Config.Quantum.toNat) (by omega)
 have a4:=aL (n:=s.Config.Policy.toNat) (by omega)
 have a5:=aL (n:=(putP s.Program).length) (by omega)
 have a6:=aL (n:=s.Events.length) (by omega)
 have e3:(⟨#[76,83,1]⟩:ByteArray).size=3:=rfl
 unfold lF
 rw [wu64 (a:=s.Config.Mode) (by omega),wu64 (a:=s.Config.Workers) (by omega),wu64 (a:=s.Config.Quantum) (by omega),wu64 (a:=s.Config.Policy) (by omega),wu64 (a:=(s.Events.length:Int)) (by omega)]
 rw [fm (by omega) (by omega),af,au (bX (by rw [e3,aN];omega)),fm (by omega) (by omega),af,au (bX (by simp only [ByteArray.size_append,e3,aN];omega)),fm (by omega) (by omega),af,au (bX (by simp only [ByteArray.size_append,e3,aN];omega)),fm (by omega) (by omega),af,au (bX (by simp only [ByteArray.size_append,e3,aN];omega)),vN h.p,af,El (by rw [aN];omega),af,au (bX (by simp only [ByteArray.size_append,e3,aN];omega)),sR (n:=s.Events.length) (by omega),af,au (bX (by simp only [ByteArray.size_append,e3,aN];omega))]
 have:=uu h s.Events.length 0 fuel (⟨#[76,83,1]⟩++bs (numL s.Config.Mode.toNat)++bs (numL s.Config.Workers.toNat)++bs (numL s.Config.Quantum.toNat)++bs (numL s.Config.Policy.toNat)++(bs (numL (bs (putP s.Program)).size)++bs (putP s.Program))++bs (numL s.Events.length)) (by omega) (by have:=aM;omega) (by simp only [ByteArray.size_append,e3,aN];omega)
 rw [show ((0:Nat):Int)=0 from rfl] at this
 rw [this]
 refine congrArg (fun z=>some (bs z)) ?_
 unfold putS B3
 have eh:bl (⟨#[76,83,1]⟩:ByteArray)=mG:=rfl
 simp [eh]
theorem o7 {s:aq} (w:oz s):ft s=some true:=by
 obtain ⟨_,_,wl,we⟩:=w
 have hr:∀ x∈(ownS s).Events,I64E x:=fun x hx=>by
  have:=we x (List.mem_of_mem_take hx)
  exact ⟨this.2.1,this.2.2⟩
 unfold ft
 rw [xA s,af,Cc,af,xA,Da,af]
 by_cases hc:chkS (ownS s)=0
 ·have ok:=ES hc hr
  rw [DR ok hc,af,af,mw,af,hc]
  dsimp only
  rw [bH rfl,Bool.or_self,cond_false,rC,o6,af,af,bH rfl,cond_false,EY ok,Bool.false_and,Bool.not_false,bd rfl,Bool.and_self,cond_true,af,zq rfl,ur]
  rfl
 ·have hp:ff (ownS s)=some (ByteArray.empty,chkS (ownS s)):=by
   unfold ff
   rw [mw,af,b8 hc,cond_true]
  rw [hp,af,af,mw,af]
  dsimp only
  rw [bH rfl,Bool.or_self,cond_false,rC,o6,af,af,bH rfl,cond_false,b8 hc,zq rfl,aP hc,ur]
  rfl
end LJ
end
section
namespace LJ
open Go Go.RowKit
set_option linter.unusedVariables false
set_option linter.unusedSimpArgs false
end LJ
end
