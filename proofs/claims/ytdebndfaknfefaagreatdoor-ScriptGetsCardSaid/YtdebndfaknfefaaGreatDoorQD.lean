/- Several texts of plain Lean, one behind the other. No condition. -/
import Derived.Test.YtdebndfaknfefaaGreatDoorQC
import Derived.Test.YtdebndfaknfefaaGreatDoorCF
section
namespace LJ
open Go Go.RowKit
set_option linter.unusedVariables false
set_option linter.unusedSimpArgs false
theorem uU (a b:Int):iLt a b= !iLe b a:=by
 by_cases h:a<b
 ·rw [aR h,kA (by omega)];rfl
 ·rw [aU (by omega),l0 (by omega)];rfl
def cfgB (c:aM):Bool:=((((iLe 0 c.Mode&&iLe c.Mode 2)&&(iLe 1 c.Workers&&iLe c.Workers 8))&&(iLe 1 c.Quantum&&iLe c.Quantum 100))&&(iLe 0 c.Policy&&iLe c.Policy 3))
theorem Ds {c:aM} (h:cfgB c=true):OkC c:=by
 unfold cfgB at h
 simp only [Bool.and_eq_true,dS] at h
 exact ⟨h.1.1.1,h.1.1.2,h.1.2,h.2⟩
theorem A5 (c:aM):fv c=some (cond (cfgB c) 0 1):=by
 unfold fv jm cfgB
 cases iLe 0 c.Mode <;> cases iLe c.Mode 2 <;> cases iLe 1 c.Workers <;> cases iLe c.Workers 8 <;> cases iLe 1 c.Quantum <;> cases iLe c.Quantum 100 <;> cases iLe 0 c.Policy <;> cases iLe c.Policy 3 <;> rfl
def chkE:List av→Int
 | []=>0
 | x::l=>cond (iNe x.Kind 1&&iNe x.Kind 2) 6 (cond (iEq x.Kind 2&&iNe x.B 0) 2 (chkE l))
def verE (p:ah):Int:=match dW p with
 | some r=>r.2
 | none=>0
theorem Cz (p:ah):∃ w x y,dW p=some (w,verE p)∧ew p=some (x,y,verE p)∧(verE p=0→chkP p=0):=by
 obtain ⟨w,x,y,e,h1,h2,h3⟩:=BV p
 have he:verE p=e:=by unfold verE;rw [h1]
 rw [he]
 exact ⟨w,x,y,h1,h2,h3⟩
def chkS (s:aw):Int:=cond (cfgB s.Config) (cond (iEq (verE s.Program) 0) (cond (iLt 4000 (s.Events.length:Int)) 4 (chkE s.Events)) (verE s.Program)) 1
theorem BW (s:aw) (h:chkS s=0):OkC s.Config:=by
 unfold chkS at h
 cases hc:cfgB s.Config with
 | true=>exact Ds hc
 | false=>rw [hc,cond_false] at h;exact absurd h (by decide)
theorem Em {α:Type} [Inhabited α] {l:List α} {i:Nat} (h:i<l.length):l.drop i=l.getD i default::l.drop (i+1):=by
 rw [List.drop_eq_getElem_cons h,List.getD_eq_getElem?_getD,List.getElem?_eq_getElem h];rfl
theorem xU (s:aw) (hl:s.Events.length≤4000):∀ (n i f:Nat),i+n=s.Events.length→n<f→dB s f (i:Int)=some (chkE (s.Events.drop i))
 | n,i,0,hi,hf=>by omega
 | 0,i,f+1,hi,hf=>by
  rw [dB,aU (by omega),cond_false,List.drop_of_length_le (by omega)];rfl
 | n+1,i,f+1,hi,hf=>by
  rw [dB,aR (by omega),cond_true,aB (aN ⟨by omega,by omega⟩),Int.toNat_natCast,Em (show i<s.Events.length by omega),chkE,w64 (by omega),show (i:Int)+1=((i+1:Nat):Int) by omega,xU s hl n (i+1) f (by omega) (by omega)]
  cases (iNe (s.Events.getD i default).Kind 1&&iNe (s.Events.getD i default).Kind 2) with
  | true=>rfl
  | false=>
   rw [cond_false,cond_false]
   cases (iEq (s.Events.getD i default).Kind 2&&iNe (s.Events.getD i default).B 0) <;> rfl
theorem BX (s:aw):dN s=some (chkS s):=by
 obtain ⟨w,_,_,hv,_⟩:=Cz s.Program
 unfold dN chkS
 rw [A5,aj,hv]
 cases cfgB s.Config with
 | false=>rfl
 | true=>
  rw [cond_true,cond_true,bd rfl,cond_false,aj]
  dsimp only
  by_cases h0:verE s.Program=0
  ·rw [bd h0,aQ h0,cond_false,cond_true]
   by_cases h4:4000<(s.Events.length:Int)
   ·rw [aR h4];rfl
   ·rw [aU (by omega),cond_false,cond_false]
    exact xU s (by omega) s.Events.length 0 fuel (by omega) (by have:=aL;omega)
  ·rw [bn h0,aJ h0];rfl
def I64E (x:av):Prop:=(-9223372036854775808≤x.A∧x.A<9223372036854775808)∧(-9223372036854775808≤x.B∧x.B<9223372036854775808)
theorem yI (c:aM):gk c=some (cond (cfgB c) 0 1):=by
 unfold gk cfgB
 rw [show iLt c.Mode 0= !iLe 0 c.Mode from uU _ _,show iLt 2 c.Mode= !iLe c.Mode 2 from uU _ _,show iLt c.Workers 1= !iLe 1 c.Workers from uU _ _,show iLt 8 c.Workers= !iLe c.Workers 8 from uU _ _,show iLt c.Quantum 1= !iLe 1 c.Quantum from uU _ _,show iLt 100 c.Quantum= !iLe c.Quantum 100 from uU _ _,show iLt c.Policy 0= !iLe 0 c.Policy from uU _ _,show iLt 3 c.Policy= !iLe c.Policy 3 from uU _ _]
 cases iLe 0 c.Mode <;> cases iLe c.Mode 2 <;> cases iLe 1 c.Workers <;> cases iLe c.Workers 8 <;> cases iLe 1 c.Quantum <;> cases iLe c.Quantum 100 <;> cases iLe 0 c.Policy <;> cases iLe c.Policy 3 <;> rfl
theorem uV (s:aw) (hl:s.Events.length≤4000):∀ (n i f:Nat),i+n=s.Events.length→n<f→dU s f (i:Int)=some (chkE (s.Events.drop i))
 | n,i,0,hi,hf=>by omega
 | 0,i,f+1,hi,hf=>by
  rw [dU,aU (by omega),cond_false,List.drop_of_length_le (by omega)];rfl
 | n+1,i,f+1,hi,hf=>by
  rw [dU,aR (by omega),cond_true,aB (aN ⟨by omega,by omega⟩),Int.toNat_natCast,Em (show i<s.Events.length by omega),chkE,w64 (by omega),show (i:Int)+1=((i+1:Nat):Int) by omega,uV s hl n (i+1) f (by omega) (by omega)]
  cases (iNe (s.Events.getD i default).Kind 1&&iNe (s.Events.getD i default).Kind 2) with
  | true=>rfl
  | false=>
   rw [cond_false,cond_false]
   cases (iEq (s.Events.getD i default).Kind 2&&iNe (s.Events.getD i default).B 0) <;> rfl
theorem A6 (s:aw):fZ s=some (chkS s):=by
 obtain ⟨_,a,b,_,hv,_⟩:=Cz s.Program
 unfold fZ chkS
 rw [yI,aj,hv]
 cases cfgB s.Config with
 | false=>rfl
 | true=>
  rw [cond_true,cond_true,bd rfl,cond_false,aj]
  dsimp only
  by_cases h0:verE s.Program=0
  ·rw [bd h0,aQ h0,cond_false,cond_true]
   by_cases h4:4000<(s.Events.length:Int)
   ·rw [aR h4];rfl
   ·rw [aU (by omega),cond_false,cond_false]
    exact uV s (by omega) s.Events.length 0 fuel (by omega) (by have:=aL;omega)
  ·rw [bn h0,aJ h0];rfl
def cfgL (c:aM):List Int:=[c.Mode,c.Workers,c.Quantum,c.Policy]
theorem tj {s:ByteArray} (hs:s.size≤9007199254740992) {l:List UInt8} {e:Int} (h:RdOK s l e):fy (mkI s l e)=some (cap (rdN l e).2.1,mkI s (rdN l e).2.2 (rdN l e).1):=by
 unfold fy
 rw [eX hs h,aj]
 dsimp only
 congr 2
 unfold cap iMin
 have:=jP l e
 split
 ·rw [w64 (by omega)];omega
 ·rw [w64 (by omega)];omega
theorem kO {l:List UInt8} {e:Int} (h:e≠0):rdN l e=(e,0,[]):=by unfold rdN;rw [if_neg h]
theorem tm {l:List UInt8} {e:Int} (h:e≠0):rdT l e=(e,[],[]):=by
 unfold rdT
 rw [kO h,if_pos h]
theorem En {s:ByteArray} (hs:s.size≤9007199254740992) {l:List UInt8} (h:l<:+bl s) {e:Int} (he:evP l= .inl e):∃ x r,ei (mkI s l 0)=some (x,e,r)∧e≠0:=by
 have ok:RdOK s l 0:=⟨h,fun h=>absurd rfl h⟩
 have hnz:e≠0:=Cv l e he
 unfold ei
 rw [mn hs ok,aj,bL,aj]
 cases l with
 | nil=>
  cases he
  exact ⟨_,_,rfl,hnz⟩
 | cons b t=>
  have okt:RdOK s t 0:=⟨jM h,fun h=>absurd rfl h⟩
  rw [evP] at he
  rw [show rdB (b::t) 0=(0,b.toNat,t) from rfl]
  dsimp only
  rw [bd rfl,cond_false]
  by_cases h1:(b.toNat:Int)=1
  ·rw [aQ h1,cond_true] at he
   rw [bd h1,Bool.false_and,cond_false,gq hs okt,aj,aQ h1,cond_true]
   dsimp only
   rw [gq hs okt.num,aj,bL,aj]
   have key:(rdN (rdN t 0).2.2 (rdN t 0).1).1=e:=by
    cases ha:intP t with
    | inl e1=>
     rw [ha] at he
     cases he
     obtain ⟨k1,k2⟩:=mw ha
     dsimp only at k1
     rw [k1,kO k2]
    | inr a=>
     rw [ha,bK] at he
     obtain ⟨k1,k2⟩:=e8 ha
     subst k2
     dsimp only at k1 he
     rw [k1]
     cases hb:intP (rdN t 0).2.2 with
     | inl e2=>
      rw [hb] at he
      cases he
      exact (mw hb).1
     | inr c=>rw [hb] at he;cases he
   rw [key]
   exact ⟨_,_,rfl,hnz⟩
  ·rw [aJ h1,cond_false] at he
   by_cases h2:(b.toNat:Int)=2
   ·rw [aQ h2,cond_true] at he
    rw [bd h2,Bool.and_false,cond_false,gq hs okt,aj,aJ h1,cond_false,bL,aj]
    have key:(rdN t 0).1=e:=by
     cases ha:intP t with
     | inl e1=>rw [ha] at he;cases he;exact (mw ha).1
     | inr a=>rw [ha] at he;cases he
    rw [key]
    exact ⟨_,_,rfl,hnz⟩
   ·rw [aJ h2,cond_false] at he
    cases he
    rw [bn h1,bn h2,Bool.and_self,cond_true]
    exact ⟨_,_,rfl,hnz⟩
theorem Eo {s:ByteArray} (hs:s.size≤9007199254740992) {l:List UInt8} (h:l<:+bl s) {x:av} {t:List UInt8} (he:evP l= .inr (x,t)):ei (mkI s l 0)=some (x,0,mkI s t 0)∧t<:+bl s:=by
 have ok:RdOK s l 0:=⟨h,fun h=>absurd rfl h⟩
 have hsuf:=(A0 _ _ _ he).1
 refine ⟨?_,List.IsSuffix.trans ⟨_,hsuf.symm⟩ h⟩
 clear hsuf
 unfold ei
 rw [mn hs ok,aj,bL,aj]
 cases l with
 | nil=>cases he
 | cons b k=>
  have okt:RdOK s k 0:=⟨jM h,fun h=>absurd rfl h⟩
  rw [evP] at he
  rw [show rdB (b::k) 0=(0,b.toNat,k) from rfl]
  dsimp only
  rw [bd rfl,cond_false]
  by_cases h1:(b.toNat:Int)=1
  ·rw [aQ h1,cond_true] at he
   obtain ⟨a,ha,he⟩:=fI he
   obtain ⟨c,hc,he⟩:=fI he
   cases he
   obtain ⟨k1,k2⟩:=e8 ha
   subst k2
   dsimp only at k1 hc
   obtain ⟨k3,k4⟩:=e8 hc
   subst k4
   dsimp only at k3
   rw [bd h1,Bool.false_and,cond_false,gq hs okt,aj,aQ h1,cond_true]
   dsimp only
   rw [gq hs okt.num,aj,bL,aj,k1,k3,h1]
  ·rw [aJ h1,cond_false] at he
   by_cases h2:(b.toNat:Int)=2
   ·rw [aQ h2,cond_true] at he
    obtain ⟨a,ha,he⟩:=fI he
    cases he
    obtain ⟨k1,k2⟩:=e8 ha
    subst k2
    dsimp only at k1
    rw [bd h2,Bool.and_false,cond_false,gq hs okt,aj,aJ h1,cond_false,bL,aj,k1,h2]
   ·rw [aJ h2,cond_false] at he;cases he
def Rd3 (z:Option (aw×Int×ao)) (g:aw×Int):Prop:=∃ s r,z=some (s,g.2,r)∧(g.2=0→s=g.1)
theorem xV {s:ByteArray} (hs:s.size≤9007199254740992) (x1 x2 x3 x4:Int×ao) (x8:ah×Int) (x10:Int×ao) {N:Nat} (hN:x10.1=(N:Int)) (hN2:N≤4000):∀ (n i f:Nat) (l:List UInt8) (acc:List av),i+n=N→n<f→acc.length=i→l<:+bl s→
  Rd3 (dC x1 x2 x3 x4 x8 x10 f ((i:Int),s,(s.size:Int) - l.length,0,acc)) (outS (sb (repP evP n l acc) fun v=>clS chkS (⟨⟨x1.1,x2.1,x3.1,x4.1⟩,x8.1,v.1⟩,v.2)))
 | n,i,0,l,acc,hi,hf,ha,hl=>by omega
 | 0,i,f+1,l,acc,hi,hf,ha,hl=>by
  have e:(⟨s,(s.size:Int) - l.length,0⟩:ao)=mkI s l 0:=rfl
  rw [dC,repP,bK]
  dsimp only
  rw [hN,aU (by omega),cond_false,e,qt hs ⟨hl,fun h=>absurd rfl h⟩,aj]
  unfold clS
  dsimp only
  by_cases h0:l.length=0
  ·rw [aU (by omega),cond_false,aQ (by omega),cond_true,BX,aj]
   by_cases hc:chkS ⟨⟨x1.1,x2.1,x3.1,x4.1⟩,x8.1,acc⟩=0
   ·rw [aQ hc,cond_true,hc]
    exact ⟨_,_,rfl,fun _=>rfl⟩
   ·rw [aJ hc,cond_false]
    exact ⟨_,_,rfl,fun h=>absurd h hc⟩
  ·rw [aR (by omega),cond_true,aJ (by omega),cond_false]
   exact ⟨_,_,rfl,fun h=>by cases h⟩
 | n+1,i,f+1,l,acc,hi,hf,ha,hl=>by
  have e:(⟨s,(s.size:Int) - l.length,0⟩:ao)=mkI s l 0:=rfl
  rw [dC,repP]
  dsimp only
  rw [hN,aR (by omega),cond_true,e]
  cases hv:evP l with
  | inl er=>
   obtain ⟨x,r,h1,h2⟩:=En hs hl hv
   rw [h1,aj]
   dsimp only
   rw [bn h2,cond_true]
   exact ⟨_,_,rfl,fun h=>absurd h h2⟩
  | inr r=>
   obtain ⟨x,t⟩:=r
   obtain ⟨h1,h2⟩:=Eo hs hl hv
   rw [h1,aj,bK]
   dsimp only
   rw [bd rfl,cond_false,aB (fG (by simp;omega)),wu64 (by omega),show (i:Int)+1=((i+1:Nat):Int) by omega]
   exact xV hs x1 x2 x3 x4 x8 x10 hN hN2 n (i+1) f t _ (by omega) (by omega) (by simp;omega) h2
theorem A7 (l:List UInt8):BR l=cond (iEq (rdT (rdN (rdN (rdN (rdN l 0).2.2 (rdN l 0).1).2.2 (rdN (rdN l 0).2.2 (rdN l 0).1).1).2.2 (rdN (rdN (rdN l 0).2.2 (rdN l 0).1).2.2 (rdN (rdN l 0).2.2 (rdN l 0).1).1).1).2.2 (rdN (rdN (rdN (rdN l 0).2.2 (rdN l 0).1).2.2 (rdN (rdN l 0).2.2 (rdN l 0).1).1).2.2 (rdN (rdN (rdN l 0).2.2 (rdN l 0).1).2.2 (rdN (rdN l 0).2.2 (rdN l 0).1).1).1).1).1 0)
  (.inr ((⟨cap (rdN l 0).2.1,cap (rdN (rdN l 0).2.2 (rdN l 0).1).2.1,cap (rdN (rdN (rdN l 0).2.2 (rdN l 0).1).2.2 (rdN (rdN l 0).2.2 (rdN l 0).1).1).2.1,cap (rdN (rdN (rdN (rdN l 0).2.2 (rdN l 0).1).2.2 (rdN (rdN l 0).2.2 (rdN l 0).1).1).2.2 (rdN (rdN (rdN l 0).2.2 (rdN l 0).1).2.2 (rdN (rdN l 0).2.2 (rdN l 0).1).1).1).2.1⟩,(rdT (rdN (rdN (rdN (rdN l 0).2.2 (rdN l 0).1).2.2 (rdN (rdN l 0).2.2 (rdN l 0).1).1).2.2 (rdN (rdN (rdN l 0).2.2 (rdN l 0).1).2.2 (rdN (rdN l 0).2.2 (rdN l 0).1).1).1).2.2 (rdN (rdN (rdN (rdN l 0).2.2 (rdN l 0).1).2.2 (rdN (rdN l 0).2.2 (rdN l 0).1).1).2.2 (rdN (rdN (rdN l 0).2.2 (rdN l 0).1).2.2 (rdN (rdN l 0).2.2 (rdN l 0).1).1).1).1).2.1),(rdT (rdN (rdN (rdN (rdN l 0).2.2 (rdN l 0).1).2.2 (rdN (rdN l 0).2.2 (rdN l 0).1).1).2.2 (rdN (rdN (rdN l 0).2.2 (rdN l 0).1).2.2 (rdN (rdN l 0).2.2 (rdN l 0).1).1).1).2.2 (rdN (rdN (rdN (rdN l 0).2.2 (rdN l 0).1).2.2 (rdN (rdN l 0).2.2 (rdN l 0).1).1).2.2 (rdN (rdN (rdN l 0).2.2 (rdN l 0).1).2.2 (rdN (rdN l 0).2.2 (rdN l 0).1).1).1).1).2.2))
  (.inl (rdT (rdN (rdN (rdN (rdN l 0).2.2 (rdN l 0).1).2.2 (rdN (rdN l 0).2.2 (rdN l 0).1).1).2.2 (rdN (rdN (rdN l 0).2.2 (rdN l 0).1).2.2 (rdN (rdN l 0).2.2 (rdN l 0).1).1).1).2.2 (rdN (rdN (rdN (rdN l 0).2.2 (rdN l 0).1).2.2 (rdN (rdN l 0).2.2 (rdN l 0).1).1).2.2 (rdN (rdN (rdN l 0).2.2 (rdN l 0).1).2.2 (rdN (rdN l 0).2.2 (rdN l 0).1).1).1).1).1):=by
 unfold BR numP Dm
 generalize hM:rdN l 0=M
 by_cases m0:M.1=0
 ·rw [iI m0,bK]
  dsimp only
  rw [m0]
  generalize hW:rdN M.2.2 0=W
  by_cases w0:W.1=0
  ·rw [iI w0,bK]
   dsimp only
   rw [w0]
   generalize hQ:rdN W.2.2 0=Q
   by_cases q0:Q.1=0
   ·rw [iI q0,bK]
    dsimp only
    rw [q0]
    generalize hY:rdN Q.2.2 0=Y
    by_cases y0:Y.1=0
    ·rw [iI y0,bK]
     dsimp only
     rw [y0]
     generalize hT:rdT Y.2.2 0=T
     by_cases t0:T.1=0
     ·rw [iI t0,bK,aQ t0,cond_true]
     ·rw [eJ t0,eg,aJ t0,cond_false]
    ·rw [eJ y0,eg,tm y0]
     dsimp only
     rw [aJ y0,cond_false]
   ·rw [eJ q0,eg,kO q0]
    dsimp only
    rw [tm q0]
    dsimp only
    rw [aJ q0,cond_false]
  ·rw [eJ w0,eg,kO w0]
   dsimp only
   rw [kO w0]
   dsimp only
   rw [tm w0]
   dsimp only
   rw [aJ w0,cond_false]
 ·rw [eJ m0,eg,kO m0]
  dsimp only
  rw [kO m0]
  dsimp only
  rw [kO m0]
  dsimp only
  rw [tm m0]
  dsimp only
  rw [aJ m0,cond_false]
theorem A8 {s:ByteArray} {l:List UInt8} {e:Int} (h:RdOK s l e):(rdT l e).2.1.length≤s.size:=by
 have:=iY h.num.suf
 unfold rdT
 split
 ·exact Nat.zero_le _
 ·split
  ·exact Nat.zero_le _
  ·dsimp only
   rw [List.length_take]
   omega
theorem Dt {s:ByteArray} (hs:s.size≤9007199254740992):Rd3 (ib (mkI s (bl s) 0)) (outS (sb (scP (bl s)) (clS chkS))):=by
 have k0:=RdOK.start s
 have k4:=k0.num.num.num.num
 have hce:=A7 (bl s)
 unfold ib scP
 rw [tj hs k0,aj,tj hs k0.num,aj,tj hs k0.num.num,aj,tj hs k0.num.num.num,aj,vO hs k4,aj,bL,aj]
 dsimp only
 rw [hce]
 clear hce
 have k5:=k4.text
 have k6:=A8 k4
 generalize rdT (rdN (rdN (rdN (rdN (bl s) 0).2.2 (rdN (bl s) 0).1).2.2 (rdN (rdN (bl s) 0).2.2 (rdN (bl s) 0).1).1).2.2 (rdN (rdN (rdN (bl s) 0).2.2 (rdN (bl s) 0).1).2.2 (rdN (rdN (bl s) 0).2.2 (rdN (bl s) 0).1).1).1).2.2 (rdN (rdN (rdN (rdN (bl s) 0).2.2 (rdN (bl s) 0).1).2.2 (rdN (rdN (bl s) 0).2.2 (rdN (bl s) 0).1).1).2.2 (rdN (rdN (rdN (bl s) 0).2.2 (rdN (bl s) 0).1).2.2 (rdN (rdN (bl s) 0).2.2 (rdN (bl s) 0).1).1).1).1=T at k5 k6 ⊢
 by_cases t0:T.1=0
 ·rw [bd t0,aQ t0,cond_false,cond_true,bK,wm (by rw [eY];omega),aj,iB]
  dsimp only
  unfold gP
  by_cases p0:(getP T.2.1).2=0
  ·rw [bd p0,aQ p0,cond_false,cond_true,bK,t0]
   rw [t0] at k5
   rw [eX hs k5,aj,bL,aj]
   dsimp only
   unfold j3 numP
   by_cases n0:(rdN T.2.2 0).1=0
   ·rw [bd n0,cond_false,iI n0,bK]
    dsimp only
    by_cases n4:4000<((rdN T.2.2 0).2.1:Int)
    ·rw [aR n4,cond_true,aR (a:=((4000:Nat):Int)) (by omega),cond_true]
     exact ⟨_,_,rfl,fun h=>by cases h⟩
    ·rw [aU (by omega),cond_false,aU (a:=((4000:Nat):Int)) (by omega),cond_false,bK]
     dsimp only
     rw [n0,wj]
     have:=xV hs (cap (rdN (bl s) 0).2.1,mkI s (rdN (bl s) 0).2.2 (rdN (bl s) 0).1) (cap (rdN (rdN (bl s) 0).2.2 (rdN (bl s) 0).1).2.1,mkI s (rdN (rdN (bl s) 0).2.2 (rdN (bl s) 0).1).2.2 (rdN (rdN (bl s) 0).2.2 (rdN (bl s) 0).1).1) (cap (rdN (rdN (rdN (bl s) 0).2.2 (rdN (bl s) 0).1).2.2 (rdN (rdN (bl s) 0).2.2 (rdN (bl s) 0).1).1).2.1,mkI s (rdN (rdN (rdN (bl s) 0).2.2 (rdN (bl s) 0).1).2.2 (rdN (rdN (bl s) 0).2.2 (rdN (bl s) 0).1).1).2.2 (rdN (rdN (rdN (bl s) 0).2.2 (rdN (bl s) 0).1).2.2 (rdN (rdN (bl s) 0).2.2 (rdN (bl s) 0).1).1).1)
      (cap (rdN (rdN (rdN (rdN (bl s) 0).2.2 (rdN (bl s) 0).1).2.2 (rdN (rdN (bl s) 0).2.2 (rdN (bl s) 0).1).1).2.2 (rdN (rdN (rdN (bl s) 0).2.2 (rdN (bl s) 0).1).2.2 (rdN (rdN (bl s) 0).2.2 (rdN (bl s) 0).1).1).1).2.1,mkI s (rdN (rdN (rdN (rdN (bl s) 0).2.2 (rdN (bl s) 0).1).2.2 (rdN (rdN (bl s) 0).2.2 (rdN (bl s) 0).1).1).2.2 (rdN (rdN (rdN (bl s) 0).2.2 (rdN (bl s) 0).1).2.2 (rdN (rdN (bl s) 0).2.2 (rdN (bl s) 0).1).1).1).2.2 (rdN (rdN (rdN (rdN (bl s) 0).2.2 (rdN (bl s) 0).1).2.2 (rdN (rdN (bl s) 0).2.2 (rdN (bl s) 0).1).1).2.2 (rdN (rdN (rdN (bl s) 0).2.2 (rdN (bl s) 0).1).2.2 (rdN (rdN (bl s) 0).2.2 (rdN (bl s) 0).1).1).1).1)
      (getP T.2.1) (((rdN T.2.2 0).2.1:Int),mkI s (rdN T.2.2 0).2.2 0) (N:=(rdN T.2.2 0).2.1) rfl (by omega) (rdN T.2.2 0).2.1 0 fuel (rdN T.2.2 0).2.2 [] (by omega) (by have:=aL;omega) rfl (by have:=k5.num.suf;exact this)
     exact this
   ·rw [bn n0,cond_true,eJ n0,eg,eg]
    exact ⟨_,_,rfl,fun h=>absurd h n0⟩
  ·rw [bn p0,aJ p0,cond_true,cond_false,eg]
   exact ⟨_,_,rfl,fun h=>absurd h p0⟩
 ·rw [bn t0,aJ t0,cond_true,cond_false,eg]
  exact ⟨_,_,rfl,fun h=>absurd h t0⟩
end LJ
end
section
namespace LJ
open Go Go.RowKit
set_option linter.unusedVariables false
set_option linter.unusedSimpArgs false
theorem xW {z:Int ⊕ aw} (h:(outS z).2≠0):(outS z).1=noS:=by
 cases z with
 | inl e=>rfl
 | inr s=>exact absurd rfl h
theorem Ep {s:ByteArray} (hs:s.size≤9007199254740992):eW s=some (getS chkS (bl s)):=by
 have h3:(⟨#[76,83,1]⟩:ByteArray)=bs oq:=rfl
 have h3s:(bs oq).size=3:=rfl
 unfold eW fx dF cg getS
 rw [h3,h3s]
 by_cases hl:3≤s.size
 ·have hx:s.extract 0 ((3:Nat):Int).toNat=bs ((bl s).take 3):=by
   apply l8
   rw [eS,iB,Int.toNat_natCast,List.drop_zero]
  rw [l0 (by omega),rQ (by omega)]
  simp only [Bool.not_true,Bool.false_or]
  rw [aB rfl,aj,hx,Bool.true_and]
  cases hc:sEq (bs ((bl s).take 3)) (bs oq) with
  | false=>rfl
  | true=>
   have he:s.extract ((3:Nat):Int).toNat s.size=bs ((bl s).drop 3):=by
    apply l8
    rw [eS,iB,←gU,List.take_length]
    rfl
   rw [Bool.not_true,cond_false,cond_true,aB rfl,aj,aj,he]
   dsimp only
   rw [Bool.not_true,cond_false,qp,aj]
   obtain ⟨s',r,h1,h2⟩:=Dt (s:=bs ((bl s).drop 3)) (by rw [eY,List.length_drop,gU];omega)
   rw [iB] at h1 h2
   rw [iB,h1,aj]
   dsimp only
   by_cases h0:(outS (sb (scP ((bl s).drop 3)) (clS chkS))).2=0
   ·rw [bd h0,cond_false,h2 h0]
    exact congrArg some (Prod.ext rfl h0.symm)
   ·rw [bn h0,cond_true]
    exact congrArg some (Prod.ext (xW h0).symm rfl)
 ·have hc:sEq (bs ((bl s).take 3)) (bs oq)=false:=yh fun h=>by
   have:=congrArg ByteArray.size h
   rw [eY,h3s,List.length_take,gU] at this
   omega
  rw [kA (by omega),hc]
  rfl
theorem Du:eG=some true:=by decide+kernel
def ownS (s:aw):aw:=⟨s.Config,ownP s.Program,s.Events.take 4100⟩
theorem xX (s:aw) (hl:s.Events.length≤4000):∀ (n i f:Nat),i+n=s.Events.length→n<f→eF s s f (i:Int)=some true
 | n,i,0,hi,hf=>by omega
 | 0,i,f+1,hi,hf=>by
  rw [eF,aU (by omega),cond_false]
 | n+1,i,f+1,hi,hf=>by
  have h1:nIn (i:Int) (s.Events.length:Int)=true:=aN ⟨by omega,by omega⟩
  rw [eF,aR (by omega),cond_true,aB h1,aB h1,aQ rfl,aQ rfl,aQ rfl]
  simp only [Bool.and_self,Bool.not_true,cond_false]
  rw [w64 (by omega),show (i:Int)+1=((i+1:Nat):Int) by omega]
  exact xX s hl n (i+1) f (by omega) (by omega)
theorem Er {s:aw} (hp:gn s.Program s.Program=some true) (hn:s.Events.length≤4000):ef s s=some true:=by
 unfold ef
 rw [aQ rfl,aQ rfl,aQ rfl,aQ rfl,hp,bd rfl]
 simp only [Bool.and_self,Bool.not_true,Bool.not_false,cond_true,aj,Bool.or_self,Bool.or_false,cond_false]
 exact xX s hn s.Events.length 0 fuel (by omega) (by have:=aL;omega)
theorem EJ {s:aw} (h:OkS s):ef s s=some true:=Er (yB (uN.of h.p)) h.n
end LJ
end
section
namespace LJ
open Go Go.RowKit
set_option linter.unusedVariables false
set_option linter.unusedSimpArgs false
theorem BZ {chk:aw→Int} {l:List UInt8} (h:(getS chk l).2≠0):(getS chk l).1=noS:=by
 unfold getS at h ⊢
 cases hc:sEq (bs (l.take 3)) (bs oq) with
 | false=>rfl
 | true=>
  rw [hc,cond_true] at h
  rw [cond_true]
  exact xW h
theorem Dv:ef noS noS=some true:=Er BH (by decide)
end LJ
end
section
namespace LJ
open Go Go.RowKit
set_option linter.unusedVariables false
set_option linter.unusedSimpArgs false
theorem pU {s:ByteArray} (hs:s.size≤9007199254740992) {l:List UInt8} {e:Int} (h:RdOK s l e):iH (mkR s l e)=some (cap (rdN l e).2.1,mkR s (rdN l e).2.2 (rdN l e).1):=by
 unfold iH
 rw [cX hs h,aj]
 dsimp only
 congr 2
 unfold cap iMin
 have:=jP l e
 split
 ·rw [w64 (by omega)];omega
 ·rw [w64 (by omega)];omega
theorem xY {s:ByteArray} (hs:s.size≤9007199254740992) (x3 x4 x5 x6:Int×au) (x9:ah×Int) (x11:Int×au) {N:Nat} (hN:x11.1=(N:Int)) (hN2:N≤4000):∀ (n i f:Nat) (l:List UInt8) (acc:List av),i+n=N→n<f→acc.length=i→l<:+bl s→
  dm s x3 x4 x5 x6 x9 x11 f ((i:Int),s,(s.size:Int) - l.length,0,acc)=some (outS (sb (repP evP n l acc) fun v=>clS chkS (⟨⟨x3.1,x4.1,x5.1,x6.1⟩,x9.1,v.1⟩,v.2)))
 | n,i,0,l,acc,hi,hf,ha,hl=>by omega
 | 0,i,f+1,l,acc,hi,hf,ha,hl=>by
  have hll:=iY hl
  rw [dm,repP,bK]
  dsimp only
  rw [hN,w64 (by omega),aU (by omega),cond_false]
  unfold clS
  dsimp only
  by_cases h0:l.length=0
  ·rw [aU (by omega),cond_false,aQ (by omega),cond_true,A6,aj]
   by_cases hc:chkS ⟨⟨x3.1,x4.1,x5.1,x6.1⟩,x9.1,acc⟩=0
   ·rw [aQ hc,cond_true,bd hc,cond_false];rfl
   ·rw [aJ hc,cond_false,bn hc,cond_true];rfl
  ·rw [aR (by omega),cond_true,aJ (by omega),cond_false];rfl
 | n+1,i,f+1,l,acc,hi,hf,ha,hl=>by
  have e:(⟨s,(s.size:Int) - l.length,0⟩:au)=mkR s l 0:=rfl
  have ok:RdOK s l 0:=⟨hl,fun h=>absurd rfl h⟩
  rw [dm,repP]
  dsimp only
  rw [hN,w64 (by omega),aR (by omega),cond_true,e,qq hs ok,aj]
  dsimp only
  rw [dp]
  cases l with
  | nil=>
   rw [show (rdB [] 0).1=3 from rfl,bn (by decide),cond_true]
   rfl
  | cons b t=>
   have okt:RdOK s t 0:=⟨jM hl,fun h=>absurd rfl h⟩
   have hnext:∀ (q:List UInt8) (x:av),q<:+bl s→dm s x3 x4 x5 x6 x9 x11 f (IntKind.i64.wrap ((i:Int)+1),s,(s.size:Int) - q.length,0,acc++([x]:List av))=some (outS (sb (repP evP n q (acc++[x])) fun v=>clS chkS (⟨⟨x3.1,x4.1,x5.1,x6.1⟩,x9.1,v.1⟩,v.2))):=fun q x hq=>by
    rw [w64 (by omega),show (i:Int)+1=((i+1:Nat):Int) by omega]
    exact xY hs x3 x4 x5 x6 x9 x11 hN hN2 n (i+1) f q _ (by omega) (by omega) (by simp;omega) hq
   rw [show rdB (b::t) 0=(0,b.toNat,t) from rfl,evP]
   dsimp only
   rw [bd rfl,cond_false]
   by_cases h1:(b.toNat:Int)=1
   ·rw [aQ h1,cond_true,bd h1,Bool.false_and,cond_false,gF hs okt,aj,cond_true,h1]
    dsimp only
    rw [gF hs okt.num,aj]
    dsimp only
    rw [dp]
    cases hv:intP t with
    | inl er=>
     obtain ⟨k1,k2⟩:=mw hv
     dsimp only at k1
     have key:(rdN (rdN t 0).2.2 (rdN t 0).1).1=er:=by rw [k1,kO k2]
     rw [key,bn k2,cond_true]
     rfl
    | inr a=>
     obtain ⟨k1,k2⟩:=e8 hv
     subst k2
     dsimp only at k1
     rw [bK]
     dsimp only
     have okt2:=okt.num
     rw [k1] at okt2 ⊢
     cases hw:intP (rdN t 0).2.2 with
     | inl er=>
      obtain ⟨k3,k4⟩:=mw hw
      dsimp only at k3
      rw [k3,bn k4,cond_true]
      rfl
     | inr c=>
      obtain ⟨k3,k4⟩:=e8 hw
      subst k4
      dsimp only at k3
      rw [k3,bd rfl,cond_false,aB (fG (by simp;omega)),bK,bK]
      exact hnext _ _ okt2.num.suf
   ·rw [aJ h1,cond_false]
    by_cases h2:(b.toNat:Int)=2
    ·rw [aQ h2,cond_true,bd h2,Bool.and_false,cond_false,gF hs okt,aj,cond_false,h2]
     dsimp only
     rw [dp]
     cases hv:intP t with
     | inl er=>
      obtain ⟨k1,k2⟩:=mw hv
      dsimp only at k1
      rw [k1,bn k2,cond_true]
      rfl
     | inr a=>
      obtain ⟨k1,k2⟩:=e8 hv
      subst k2
      dsimp only at k1
      rw [k1,bd rfl,cond_false,aB (fG (by simp;omega)),bK,bK]
      exact hnext _ _ okt.num.suf
    ·rw [aJ h2,cond_false,bn h1,bn h2,Bool.and_self,cond_true]
     rfl
theorem Dw {s:ByteArray} (hs:s.size≤140737488351232):ly s=some (getS chkS (bl s)):=by
 have hs':s.size≤9007199254740992:=by omega
 have h3:(⟨#[76,83,1]⟩:ByteArray)=bs oq:=rfl
 have h3s:(bs oq).size=3:=rfl
 unfold ly getS
 rw [h3]
 by_cases hl:3≤s.size
 ·have hx:s.extract 0 (3:Int).toNat=bs ((bl s).take 3):=by
   apply l8
   rw [eS,iB,List.drop_zero]
   rfl
  rw [aU (by omega),rQ (by omega),hx,Bool.or_true,aB rfl,Bool.false_or]
  cases hc:sEq (bs ((bl s).take 3)) (bs oq) with
  | false=>rfl
  | true=>
   rw [Bool.not_true,cond_false,cond_true]
   have e0:(⟨s,3,0⟩:au)=mkR s ((bl s).drop 3) 0:=by
    unfold mkR
    rw [List.length_drop,gU]
    congr 1
    omega
   have k0:RdOK s ((bl s).drop 3) 0:=⟨List.drop_suffix _ _,fun h=>absurd rfl h⟩
   rw [e0]
   generalize (bl s).drop 3=l at k0
   have k4:=k0.num.num.num.num
   have hce:=A7 l
   unfold scP
   rw [pU hs' k0,aj,pU hs' k0.num,aj,pU hs' k0.num.num,aj,pU hs' k0.num.num.num,aj,uy (by omega) k4,aj]
   dsimp only
   rw [dp,hce]
   clear hce
   have k5:=k4.text
   have k6:=A8 k4
   generalize rdT (rdN (rdN (rdN (rdN l 0).2.2 (rdN l 0).1).2.2 (rdN (rdN l 0).2.2 (rdN l 0).1).1).2.2 (rdN (rdN (rdN l 0).2.2 (rdN l 0).1).2.2 (rdN (rdN l 0).2.2 (rdN l 0).1).1).1).2.2 (rdN (rdN (rdN (rdN l 0).2.2 (rdN l 0).1).2.2 (rdN (rdN l 0).2.2 (rdN l 0).1).1).2.2 (rdN (rdN (rdN l 0).2.2 (rdN l 0).1).2.2 (rdN (rdN l 0).2.2 (rdN l 0).1).1).1).1=T at k5 k6 ⊢
   by_cases t0:T.1=0
   ·rw [bd t0,aQ t0,cond_false,cond_true,bK,uP (by rw [eY];omega),aj,iB]
    dsimp only
    unfold gP
    by_cases p0:(getP T.2.1).2=0
    ·rw [bd p0,aQ p0,cond_false,cond_true,bK,t0]
     rw [t0] at k5
     rw [cX hs' k5,aj]
     dsimp only
     rw [dp]
     unfold j3 numP
     by_cases n0:(rdN T.2.2 0).1=0
     ·rw [bd n0,cond_false,iI n0,bK]
      dsimp only
      by_cases n4:4000<((rdN T.2.2 0).2.1:Int)
      ·rw [aR n4,cond_true,aR (a:=((4000:Nat):Int)) (by omega),cond_true]
       rfl
      ·rw [aU (by omega),cond_false,aU (a:=((4000:Nat):Int)) (by omega),cond_false,bK]
       dsimp only
       rw [n0,wj]
       exact xY hs' _ _ _ _ (getP T.2.1) (((rdN T.2.2 0).2.1:Int),mkR s (rdN T.2.2 0).2.2 0) (N:=(rdN T.2.2 0).2.1) rfl (by omega) (rdN T.2.2 0).2.1 0 fuel (rdN T.2.2 0).2.2 [] (by omega) (by have:=aL;omega) rfl (by have:=k5.num.suf;exact this)
     ·rw [bn n0,cond_true,eJ n0,eg,eg]
      rfl
    ·rw [bn p0,aJ p0,cond_true,cond_false,eg]
     rfl
   ·rw [bn t0,aJ t0,cond_true,cond_false,eg]
    rfl
 ·have hc:sEq (bs ((bl s).take 3)) (bs oq)=false:=yh fun h=>by
   have:=congrArg ByteArray.size h
   rw [eY,h3s,List.length_take,gU] at this
   omega
  rw [aR (by omega),hc]
  rfl
theorem qK {t:ByteArray} (ht:t.size≤140737488351232):fT t=some true:=by
 have hs:ef (getS chkS (bl t)).1 (getS chkS (bl t)).1=some true:=by
  by_cases h0:(getS chkS (bl t)).2=0
  ·obtain ⟨_,ok,_⟩:=BS BW h0
   exact EJ ok
  ·rw [BZ h0];exact Dv
 unfold fT
 rw [Ep (by omega),aj,Dw ht,aj,hs,aj,aQ rfl,Du]
 rfl
end LJ
end
