/- Several texts of plain Lean, one behind the other. No condition. -/
import Derived.Test.YtdebndfaknfefaaGreatDoorQA
section
namespace LJ
end LJ
end
section
namespace LJ
open Go Go.RowKit
set_option linter.unusedVariables false
set_option linter.unusedSimpArgs false
def Bt (k:Int):Int:=cond (iEq k 1) 1 (cond (iEq k 2||iEq k 3) 2 (cond (iEq k 4) 3 6))
def badN (L:List ai) (x:ah):Int:=
  cond (iLt x.Kind 1||iLt 5 x.Kind) 6 (cond (iLt x.Obj 0||iLe (L.length:Int) x.Obj) 1 (cond (iEq (L.getD x.Obj.toNat default).Kind (Bt x.Kind))
    (cond (iEq x.Kind 4) (cond (iLt x.N 1||iLt (L.getD x.Obj.toNat default).B x.N) 1 0) (cond (iEq x.Kind 5) (cond (iLt x.N 1||iLt (L.getD x.Obj.toNat default).A x.N) 1 0) (cond (iLt x.N 0||iLt 0 x.N) 1 0))) 1))
theorem Dt (a b:Int):iNe a b= !iEq a b:=by unfold iNe iEq;simp
theorem CN {k:Int} (h:1≤k∧k≤5):([0,1,2,2,3,6]:List Int).getD k.toNat default=Bt k:=by
  have h5:k=1∨k=2∨k=3∨k=4∨k=5:=by omega
  rcases h5 with rfl | rfl | rfl | rfl | rfl <;> decide
theorem vH (L:List ai) (x:ah):jo L x=some (badN L x):=by
  unfold jo badN
  cases h1:(iLt x.Kind 1||iLt 5 x.Kind) with
  | true=>rfl
  | false=>
    simp only [Bool.or_eq_false_iff,bo] at h1
    rw [cond_false,cond_false]
    cases h2:(iLt x.Obj 0||iLe (L.length:Int) x.Obj) with
    | true=>rfl
    | false=>
      simp only [Bool.or_eq_false_iff,bo,i6] at h2
      have hn:nIn x.Obj (L.length:Int)=true:=aK h2
      have hk:nIn x.Kind (([0,1,2,2,3,6]:List Int).length:Int)=true:=aK ⟨by omega,by simp only [List.length_cons,List.length_nil];omega⟩
      rw [hn,hk,Bool.or_true,au rfl,au rfl,Bool.false_or,cond_false,CN (by omega),Dt,mn]
      simp only [au,bf]
      by_cases k4:x.Kind=4
      · rw [bd k4,aP (show x.Kind≠5 by omega)]
        simp only [cond_true,cond_false]
      · rw [aP k4]
        simp only [cond_true,cond_false]
theorem xk (L:List ai) (x:ah):nS L x=some (badN L x):=by
  unfold nS badN bt
  simp only [lJ,af]
  by_cases h:x.Kind<1∨5<x.Kind
  · rw [show (iLt x.Kind 1||iLt 5 x.Kind)=true by simp only [Bool.or_eq_true,cU];exact h,cond_true]
    rw [aP (show x.Kind≠1 by omega),aP (show x.Kind≠2 by omega),aP (show x.Kind≠3 by omega),aP (show x.Kind≠4 by omega),aP (show x.Kind≠5 by omega)]
    rfl
  · rw [show (iLt x.Kind 1||iLt 5 x.Kind)=false by simp only [Bool.or_eq_false_iff,bo];omega,cond_false]
    have h5:x.Kind=1∨x.Kind=2∨x.Kind=3∨x.Kind=4∨x.Kind=5:=by omega
    unfold fitD fitK Bt
    cases h2:(iLt x.Obj 0||iLe (L.length:Int) x.Obj) with
    | true=>
      rcases h5 with e | e | e | e | e <;> rw [e] <;> rfl
    | false=>
      simp only [Bool.or_eq_false_iff,bo,i6] at h2
      have hn:nIn x.Obj (L.length:Int)=true:=aK h2
      have lt:iLt x.N 1=true→iLt x.N 0=true∨iLt x.N 0=false:=fun _=>by cases iLt x.N 0 <;> simp
      have l01:(iLt x.N 1||iLt x.N 0)=iLt x.N 1:=by
        rw [Bool.eq_iff_iff];simp only [Bool.or_eq_true,cU];omega
      rcases h5 with e | e | e | e | e <;> rw [e] <;> simp only [show iEq 1 1=true from rfl,show iEq 1 2=false from rfl,show iEq 1 3=false from rfl,show iEq 1 4=false from rfl,show iEq 1 5=false from rfl,show iEq 2 1=false from rfl,show iEq 2 2=true from rfl,show iEq 2 3=false from rfl,show iEq 2 4=false from rfl,show iEq 2 5=false from rfl,show iEq 3 1=false from rfl,show iEq 3 2=false from rfl,show iEq 3 3=true from rfl,show iEq 3 4=false from rfl,show iEq 3 5=false from rfl,show iEq 4 1=false from rfl,show iEq 4 2=false from rfl,show iEq 4 3=false from rfl,show iEq 4 4=true from rfl,show iEq 4 5=false from rfl,show iEq 5 1=false from rfl,show iEq 5 2=false from rfl,show iEq 5 3=false from rfl,show iEq 5 4=false from rfl,show iEq 5 5=true from rfl,show iEq 109 117=false from rfl,show iEq 109 115=false from rfl,show iEq 109 112=false from rfl,show iEq 109 99=false from rfl,show iEq 109 109=true from rfl,show iEq 117 117=true from rfl,show iEq 115 117=false from rfl,show iEq 115 115=true from rfl,show iEq 112 117=false from rfl,show iEq 112 115=false from rfl,show iEq 112 112=true from rfl,hn,Bool.or_true,au,cond_true,cond_false,Bool.false_or,Bool.or_false,Bool.true_or,Bool.false_and,Bool.true_and,Bool.not_not,Bool.and_true,Bool.and_false,Dt,bf,l01]
      all_goals
        generalize hK:(L.getD x.Obj.toNat default).Kind=K
        first
          | (cases iEq K 1 <;> rfl)
          | (cases iEq K 3 <;> rfl)
          | (cases iEq K 6 <;> rfl)
          | (by_cases hK1:K=1
             · subst hK1;rfl
             · rw [aP hK1];cases iEq K 2 <;> rfl)
def i3 (L:List ai):List ah→Int
  | []=>0
  | x::t=>cond (iNe (badN L x) 0) (badN L x) (i3 L t)
def vI (l:List ah) (j k:Nat):Bool:=(iEq (l.getD j default).Obj (l.getD k default).Obj||iEq (l.getD j default).Kind 4)||iEq (l.getD k default).Kind 4
def hit (l:List ah) (k:Nat):Nat→Nat→Bool
  | 0,_=>false
  | n+1,i=>vI l i k||hit l k n (i+1)
def hits (l:List ah):Nat→Nat→Bool
  | 0,_=>false
  | n+1,k=>hit l k k 0||hits l n (k+1)
def badW (L:List ai) (l:List ah):Int:=
  cond (iEq (l.length:Int) 0) 2 (cond (iLt 4 (l.length:Int)) 4 (cond (iNe (i3 L l) 0) (i3 L l) (cond (hits l l.length 0) 2 0)))
def px (L:List ai):List (List ah)→Int
  | []=>0
  | l::t=>cond (iNe (badW L l) 0) (badW L l) (px L t)
def chkW (L:List ai) (W:List (List ah)):Int:=cond (iEq (W.length:Int) 0) 2 (cond (iLt 4 (W.length:Int)) 4 (px L W))
theorem dc {α β γ:Type} (K:α→β) (f:(α→β)→γ):gJ K f=f K:=rfl
theorem Bu {α:Type} (a b:Bool) (x y:α):cond (a||b) x y=cond a x (cond b x y):=by cases a <;> rfl
theorem Fk {W:List (List ah)} {s:Int} {j:Nat} {K:Unit→Option Int} (hj:j<(W.getD s.toNat default).length) (h4:(W.getD s.toNat default).length≤4):∀ (n i f:Nat),i+n=j→n<f→ck W s (j:Int) K f (i:Int)=cond (hit (W.getD s.toNat default) j n i) (some 2) (K ())
  | n,i,0,hi,hf=>by omega
  | 0,i,f+1,hi,hf=>by
    rw [ck,aX (by omega),cond_false];rfl
  | n+1,i,f+1,hi,hf=>by
    have e1:nIn (i:Int) ((W.getD s.toNat default).length:Int)=true:=aK ⟨by omega,by omega⟩
    have e2:nIn (j:Int) ((W.getD s.toNat default).length:Int)=true:=aK ⟨by omega,by omega⟩
    rw [ck,aU (by omega),cond_true,e1,e2,Bool.or_true,Bool.or_true,w64 (by omega),show (i:Int)+1=((i+1:Nat):Int) by omega,au rfl,au rfl,au rfl,au rfl,Fk hj h4 n (i+1) f (by omega) (by omega),Int.toNat_natCast,Int.toNat_natCast,hit]
    exact (Bu (vI _ i j) _ _ _).symm
theorem Fl {W:List (List ah)} {s:Int} {K:Unit→Option Int} (h4:(W.getD s.toNat default).length≤4):∀ (n i f:Nat),i+n=(W.getD s.toNat default).length→n<f→bR W s K f (i:Int)=cond (hits (W.getD s.toNat default) n i) (some 2) (K ())
  | n,i,0,hi,hf=>by omega
  | 0,i,f+1,hi,hf=>by
    rw [bR,aX (by omega),cond_false];rfl
  | n+1,i,f+1,hi,hf=>by
    rw [bR,aU (by omega),cond_true,dc,w64 (by omega),show (i:Int)+1=((i+1:Nat):Int) by omega]
    have ih:=Fl (K:=K) h4 n (i+1) f (by omega) (by omega)
    have:=Fk (W:=W) (s:=s) (j:=i) (K:=fun _=>bR W s K f ((i+1:Nat):Int)) (by omega) h4 i 0 fuel (by omega) (by have:=aM;omega)
    rw [hits,Bu,←ih]
    exact this
theorem Fm {L:List ai} {W:List (List ah)} {s:Int} {K:Unit→Option Int} (h4:(W.getD s.toNat default).length≤4):∀ (n i f:Nat),i+n=(W.getD s.toNat default).length→n<f→cm L W s K f (i:Int)=cond (iNe (i3 L ((W.getD s.toNat default).drop i)) 0) (some (i3 L ((W.getD s.toNat default).drop i))) (cond (hits (W.getD s.toNat default) (W.getD s.toNat default).length 0) (some 2) (K ()))
  | n,i,0,hi,hf=>by omega
  | 0,i,f+1,hi,hf=>by
    rw [cm,aX (by omega),cond_false,List.drop_eq_nil_of_le (by omega),i3,bH rfl,cond_false]
    exact Fl h4 (W.getD s.toNat default).length 0 fuel (by omega) (by have:=aM;omega)
  | n+1,i,f+1,hi,hf=>by
    rw [cm,aU (by omega),cond_true,au (aK ⟨by omega,by omega⟩),w64 (by omega),show (i:Int)+1=((i+1:Nat):Int) by omega,vH,af,Fm h4 n (i+1) f (by omega) (by omega),bM _ i (by omega),i3,Int.toNat_natCast]
    by_cases hb:badN L ((W.getD s.toNat default).getD i default)=0
    · rw [bH hb,cond_false,cond_false]
    · rw [b8 hb,cond_true,cond_true,b8 hb,cond_true]
theorem w_l4 {L:List ai} {W:List (List ah)} (hW:W.length≤4):∀ (n i f:Nat),i+n=W.length→n<f→ca L W f (i:Int)=some (px L (W.drop i))
  | n,i,0,hi,hf=>by omega
  | 0,i,f+1,hi,hf=>by
    rw [ca,aX (by omega),cond_false,List.drop_eq_nil_of_le (by omega)]
    rfl
  | n+1,i,f+1,hi,hf=>by
    rw [ca,aU (by omega),cond_true,dc,w64 (by omega),show (i:Int)+1=((i+1:Nat):Int) by omega,au (aK ⟨by omega,by omega⟩),bM W i (by omega),px,badW]
    have ih:=w_l4 (L:=L) hW n (i+1) f (by omega) (by omega)
    rw [Int.toNat_natCast]
    by_cases h0:((W.getD i default).length:Int)=0
    · rw [bd h0,cond_true,cond_true,b8 (by decide),cond_true]
    · rw [aP h0,cond_false,cond_false]
      by_cases h4:4<((W.getD i default).length:Int)
      · rw [aU h4,cond_true,cond_true,b8 (by decide),cond_true]
      · rw [aX (by omega),cond_false,cond_false]
        have:=Fm (L:=L) (W:=W) (s:=(i:Int)) (K:=fun _=>ca L W f ((i+1:Nat):Int)) (by rw [Int.toNat_natCast];omega) ((W.getD (i:Int).toNat default).length) 0 fuel (by omega) (by have:=aM;rw [Int.toNat_natCast];omega)
        rw [Int.toNat_natCast,List.drop_zero] at this
        refine Eq.trans this ?_
        rw [ih]
        by_cases hb:i3 L (W.getD i default)=0
        · rw [bH hb,cond_false,cond_false]
          cases hits (W.getD i default) (W.getD i default).length 0 with
          | true=>rfl
          | false=>rfl
        · rw [b8 hb,cond_true,cond_true,b8 hb,cond_true]
theorem sh (L:List ai) (W:List (List ah)):fz L W=some (chkW L W):=by
  unfold fz chkW
  by_cases h0:(W.length:Int)=0
  · rw [bd h0];rfl
  · rw [aP h0,cond_false,cond_false]
    by_cases h4:4<(W.length:Int)
    · rw [aU h4];rfl
    · rw [aX (by omega),cond_false,cond_false]
      exact w_l4 (by omega) W.length 0 fuel (by omega) (by have:=aM;omega)
theorem xl {L:List ai} {x:ah} (h:badN L x=0):(1≤x.Kind∧x.Kind≤5)∧(0≤x.Obj∧x.Obj<L.length)∧(L.getD x.Obj.toNat default).Kind=Bt x.Kind∧0≤x.N∧(x.Kind=4→x.N≤(L.getD x.Obj.toNat default).B)∧(x.Kind=5→x.N≤(L.getD x.Obj.toNat default).A)∧(x.Kind≤3→x.N=0):=by
  unfold badN at h
  cases h1:(iLt x.Kind 1||iLt 5 x.Kind) with
  | true=>rw [h1,cond_true] at h;cases h
  | false=>
    rw [h1,cond_false] at h
    simp only [Bool.or_eq_false_iff,bo] at h1
    cases h2:(iLt x.Obj 0||iLe (L.length:Int) x.Obj) with
    | true=>rw [h2,cond_true] at h;cases h
    | false=>
      rw [h2,cond_false] at h
      simp only [Bool.or_eq_false_iff,bo,i6] at h2
      cases h3:iEq (L.getD x.Obj.toNat default).Kind (Bt x.Kind) with
      | false=>rw [h3,cond_false] at h;cases h
      | true=>
        rw [h3,cond_true] at h
        rw [cy] at h3
        refine ⟨by omega,by omega,h3,?_⟩
        by_cases k4:x.Kind=4
        · rw [bd k4,cond_true] at h
          cases h4:(iLt x.N 1||iLt (L.getD x.Obj.toNat default).B x.N) with
          | true=>rw [h4] at h;cases h
          | false=>simp only [Bool.or_eq_false_iff,bo] at h4;omega
        · rw [aP k4,cond_false] at h
          by_cases k5:x.Kind=5
          · rw [bd k5,cond_true] at h
            cases h4:(iLt x.N 1||iLt (L.getD x.Obj.toNat default).A x.N) with
            | true=>rw [h4] at h;cases h
            | false=>simp only [Bool.or_eq_false_iff,bo] at h4;omega
          · rw [aP k5,cond_false] at h
            cases h4:(iLt x.N 0||iLt 0 x.N) with
            | true=>rw [h4] at h;cases h
            | false=>simp only [Bool.or_eq_false_iff,bo] at h4;omega
theorem rn {L:List ai} :∀ {l:List ah},i3 L l=0→∀ x∈l,badN L x=0
  | [],h=>fun x hx=>by cases hx
  | y::t,h=>by
    unfold i3 at h
    by_cases hy:badN L y=0
    · rw [bH hy,cond_false] at h
      intro x hx
      rcases List.mem_cons.1 hx with rfl | hx
      · exact hy
      · exact rn h x hx
    · rw [b8 hy,cond_true] at h;exact absurd h hy
def tW (s:Nat):List ah→Nat
  | []=>s
  | x::t=>tW (s|||2 ^x.Obj.toNat) t
theorem Du:∀ (i k x:Nat),i<k→x.testBit i=false→pc k (x+2 ^i)=pc k x+1
  | 0,k+1,x,hi,h=>by
    rw [Nat.testBit_zero] at h
    simp only [decide_eq_false_iff_not] at h
    rw [pc,pc,Nat.pow_zero,show (x+1) /2=x /2 by omega]
    omega
  | i+1,k+1,x,hi,h=>by
    rw [Nat.testBit_succ] at h
    have e1:(x+2 ^(i+1)) %2=x %2:=by rw [Nat.pow_succ];omega
    have e2:(x+2 ^(i+1)) /2=x /2+2 ^i:=by rw [Nat.pow_succ];omega
    rw [pc,pc,e1,e2,Du i k (x /2) (by omega) h]
    omega
theorem F2 {s i:Nat} (hs:s<2 ^64) (hi:i<64):s|||2 ^i<2 ^64:=Nat.or_lt_two_pow hs (Nat.pow_lt_pow_right (by decide) hi)
theorem yJ:∀ (l:List ah) (s:Nat),(∀ x∈l,x.Obj.toNat<64)→pc 64 (tW s l)≤pc 64 s+l.length∧(pc 64 (tW s l)=pc 64 s+l.length↔(∀ x∈l,s.testBit x.Obj.toNat=false)∧l.Pairwise fun x y=>x.Obj.toNat≠y.Obj.toNat)
  | [],s,h=>by simp [tW]
  | x::t,s,h=>by
    obtain ⟨h1,h2⟩:=yJ t (s|||2 ^x.Obj.toNat) fun y hy=>h y (List.mem_cons_of_mem _ hy)
    have hx:=h x (List.mem_cons_self ..)
    rw [tW,List.length_cons]
    have ho:=Ds x.Obj.toNat s
    cases hb:s.testBit x.Obj.toNat with
    | true=>
      rw [hb,if_pos rfl] at ho
      rw [ho] at h1 ⊢
      refine ⟨by omega,⟨fun h=>by omega,fun h=>?_⟩⟩
      have:=h.1 x (List.mem_cons_self ..)
      rw [hb] at this;cases this
    | false=>
      rw [hb,if_neg Bool.false_ne_true] at ho
      have hp:=Du x.Obj.toNat 64 s hx hb
      rw [←ho] at hp
      rw [hp] at h1 h2
      refine ⟨by omega,?_⟩
      rw [show pc 64 s+(t.length+1)=pc 64 s+1+t.length by omega,h2,List.pairwise_cons]
      constructor
      · rintro ⟨a,b⟩
        refine ⟨fun y hy=>?_,fun y hy he=>?_,b⟩
        · rcases List.mem_cons.1 hy with rfl | hy
          · exact hb
          · have:=a y hy
            rw [Nat.testBit_or,Bool.or_eq_false_iff] at this
            exact this.1
        · have:=a y hy
          rw [←he,Nat.testBit_or,Nat.testBit_two_pow] at this
          simp at this
      · rintro ⟨a,b,c⟩
        refine ⟨fun y hy=>?_,c⟩
        rw [Nat.testBit_or,a y (List.mem_cons_of_mem _ hy),Nat.testBit_two_pow,Bool.false_or]
        exact decide_eq_false (b y hy)
theorem Bv (l:List ah) (k:Nat):∀ n i,hit l k n i=true↔∃ j,i≤j∧j<i+n∧vI l j k=true
  | 0,i=>by simp [hit];intro j h1 h2;omega
  | n+1,i=>by
    rw [hit,Bool.or_eq_true,Bv l k n (i+1)]
    constructor
    · rintro (h | ⟨j,h1,h2,h3⟩)
      · exact ⟨i,by omega,by omega,h⟩
      · exact ⟨j,by omega,by omega,h3⟩
    · rintro ⟨j,h1,h2,h3⟩
      rcases Nat.eq_or_lt_of_le h1 with rfl | h1
      · exact .inl h3
      · exact .inr ⟨j,h1,by omega,h3⟩
theorem yK (l:List ah):∀ n i,hits l n i=true↔∃ j k,i≤k∧k<i+n∧j<k∧vI l j k=true
  | 0,i=>by simp [hits];intro j k h1 h2;omega
  | n+1,i=>by
    rw [hits,Bool.or_eq_true,yK l n (i+1),Bv]
    constructor
    · rintro (⟨j,h1,h2,h3⟩ | ⟨j,k,h1,h2,h3,h4⟩)
      · exact ⟨j,i,by omega,by omega,by omega,h3⟩
      · exact ⟨j,k,by omega,by omega,h3,h4⟩
    · rintro ⟨j,k,h1,h2,h3,h4⟩
      rcases Nat.eq_or_lt_of_le h1 with rfl | h1
      · exact .inl ⟨j,by omega,by omega,h4⟩
      · exact .inr ⟨j,k,h1,by omega,h3,h4⟩
theorem Eu {l:List ah} (h64:∀ x∈l,0≤x.Obj∧x.Obj<64):(iLt ((pc 64 (tW 0 l):Nat):Int) (l.length:Int)||(l.any (fun x=>iEq x.Kind 4)&&iLt 1 (l.length:Int)))=hits l l.length 0:=by
  obtain ⟨h1,h2⟩:=yJ l 0 fun x hx=>by have:=h64 x hx;omega
  rw [Br,Nat.zero_add] at h1 h2
  have hmem:∀ j,j<l.length→l.getD j default∈l:=fun j hj=>by
    rw [List.getD_eq_getElem?_getD,List.getElem?_eq_getElem hj];exact List.getElem_mem hj
  have hpw:(l.Pairwise fun x y=>x.Obj.toNat≠y.Obj.toNat)↔∀ j k,j<k→k<l.length→(l.getD j default).Obj≠(l.getD k default).Obj:=by
    rw [List.pairwise_iff_getElem]
    constructor
    · intro h j k hjk hk he
      have:=h j k (by omega) hk hjk
      simp only [List.getD_eq_getElem?_getD,List.getElem?_eq_getElem hk,List.getElem?_eq_getElem (show j<l.length by omega),Option.getD_some] at he
      exact this (by rw [he])
    · intro h j k hj hk hjk he
      have e:=h j k hjk hk
      have a:=h64 _ (hmem j hj)
      have b:=h64 _ (hmem k hk)
      simp only [List.getD_eq_getElem?_getD,List.getElem?_eq_getElem hk,List.getElem?_eq_getElem hj,Option.getD_some] at e a b
      exact e (by omega)
  rw [Bool.eq_iff_iff,Bool.or_eq_true,Bool.and_eq_true,cU,cU,yK,List.any_eq_true]
  constructor
  · rintro (h | ⟨⟨x,hx,hk⟩,hl⟩)
    · have hn:¬(l.Pairwise fun x y=>x.Obj.toNat≠y.Obj.toNat):=fun hp=>by
        have:=h2.2 ⟨fun x _=>by simp,hp⟩
        omega
      rw [hpw] at hn
      simp only [Classical.not_forall,not_imp,Decidable.not_not] at hn
      obtain ⟨j,k,a,b,c⟩:=hn
      exact ⟨j,k,by omega,by omega,a,by unfold vI;rw [bd c];rfl⟩
    · obtain ⟨m,hm,rfl⟩:=List.mem_iff_getElem.1 hx
      have e:l.getD m default=l[m]:=by simp [List.getD_eq_getElem?_getD,hm]
      by_cases h0:m=0
      · subst h0
        exact ⟨0,1,by omega,by omega,by omega,by unfold vI;rw [e,hk];simp⟩
      · exact ⟨0,m,by omega,by omega,by omega,by unfold vI;rw [e,hk];simp⟩
  · rintro ⟨j,k, -,hk,hjk,hp⟩
    rw [Nat.zero_add] at hk
    unfold vI at hp
    rw [Bool.or_eq_true,Bool.or_eq_true,cy] at hp
    rcases hp with (hp | hp) | hp
    · left
      rcases Nat.eq_or_lt_of_le h1 with he | hlt
      · exact absurd hp (hpw.1 (h2.1 he).2 j k hjk hk)
      · omega
    · exact .inr ⟨⟨_,hmem j (by omega),hp⟩,by omega⟩
    · exact .inr ⟨⟨_,hmem k hk,hp⟩,by omega⟩
theorem Ev {s:Nat} {o:Int} (hs:s<18446744073709551616) (ho:0≤o∧o<64):gL (s:Int) o=some ((s|||2 ^o.toNat:Nat):Int):=by
  unfold gL qq
  rw [show (iLt o 0||iLt 63 o)=false by simp only [Bool.or_eq_false_iff,bo];omega,cond_false,au (A4 ho.1),af]
  have hp:2 ^o.toNat<2 ^64:=Nat.pow_lt_pow_right (by decide) (by omega)
  have hm:min o.toNat IntKind.u64.bits=o.toNat:=Nat.min_eq_left (by show o.toNat≤64;omega)
  rw [hm,Int.one_mul,show ((2:Int) ^o.toNat)=((2 ^o.toNat:Nat):Int) by simp,wu hp,bits_or_u64_nat _ _ hs hp]
theorem Dv {L:List ai} (hL:L.length≤32) {l:List ah} (h4:l.length≤4):∀ (n i f s:Nat) (d:Bool),i+n=l.length→n<f→s<18446744073709551616→
    gg L l f ((s:Int),d,(i:Int))=cond (iNe (i3 L (l.drop i)) 0) (some (i3 L (l.drop i))) (cond (iLt ((pc 64 (tW s (l.drop i)):Nat):Int) (l.length:Int)||((d||(l.drop i).any (fun x=>iEq x.Kind 4))&&iLt 1 (l.length:Int))) (some 2) (some 0))
  | n,i,0,s,d,hi,hf,hs=>by omega
  | 0,i,f+1,s,d,hi,hf,hs=>by
    rw [gg]
    dsimp only
    rw [aX (by omega),cond_false,List.drop_eq_nil_of_le (by omega),i3,bH rfl,cond_false,iw,Es hs,af,af,Fj,tW,List.any_nil,Bool.or_false]
  | n+1,i,f+1,s,d,hi,hf,hs=>by
    rw [gg]
    dsimp only
    rw [aU (by omega),cond_true,au (aK ⟨by omega,by omega⟩),xk,af,bM l i (by omega),i3,Int.toNat_natCast]
    by_cases hb:badN L (l.getD i default)=0
    · obtain ⟨_,ho,_⟩:=xl hb
      rw [bH hb,cond_false,cond_false,Ev hs (by omega),af,w64 (by omega),show (i:Int)+1=((i+1:Nat):Int) by omega,Dv hL h4 n (i+1) f _ _ (by omega) (by omega) (F2 hs (by omega)),tW,List.any_cons,Bool.or_assoc]
    · rw [b8 hb,cond_true,cond_true,b8 hb,cond_true]
theorem xm {L:List ai} (hL:L.length≤32) (l:List ah):nT L l=some (badW L l):=by
  unfold nT badW
  by_cases h0:(l.length:Int)=0
  · rw [bd h0];rfl
  · rw [aP h0,cond_false,cond_false]
    by_cases h4:4<(l.length:Int)
    · rw [aU h4];rfl
    · rw [aX (by omega),cond_false,cond_false]
      have:=Dv hL (l:=l) (by omega) l.length 0 fuel 0 false (by omega) (by have:=aM;omega) (by decide)
      refine Eq.trans this ?_
      rw [List.drop_zero]
      by_cases hb:i3 L l=0
      · rw [bH hb,cond_false,cond_false,Bool.false_or,Eu (fun x hx=>by obtain ⟨_,h,_⟩:=xl (rn hb x hx);omega),bf]
      · rw [b8 hb,cond_true,cond_true]
theorem yL {L:List ai} (hL:L.length≤32) {W:List (List ah)} (hW:W.length≤4):∀ (n i f:Nat),i+n=W.length→n<f→eK L W f (i:Int)=some (px L (W.drop i))
  | n,i,0,hi,hf=>by omega
  | 0,i,f+1,hi,hf=>by
    rw [eK,aX (by omega),cond_false,List.drop_eq_nil_of_le (by omega)]
    rfl
  | n+1,i,f+1,hi,hf=>by
    rw [eK,aU (by omega),cond_true,au (aK ⟨by omega,by omega⟩),xm hL,af,w64 (by omega),show (i:Int)+1=((i+1:Nat):Int) by omega,yL hL hW n (i+1) f (by omega) (by omega),bM W i (by omega),px,bf,Int.toNat_natCast]
theorem kN {L:List ai} (hL:L.length≤32) (W:List (List ah)):ik L W=some (chkW L W):=by
  unfold ik chkW
  by_cases h0:(W.length:Int)=0
  · rw [bd h0];rfl
  · rw [aP h0,cond_false,cond_false]
    by_cases h4:4<(W.length:Int)
    · rw [aU h4];rfl
    · rw [aX (by omega),cond_false,cond_false]
      exact yL hL (by omega) W.length 0 fuel (by omega) (by have:=aM;omega)
end LJ
end
section
namespace LJ
open Go Go.RowKit
set_option linter.unusedVariables false
set_option linter.unusedSimpArgs false
structure RngN (x:ah):Prop where
  k:1≤x.Kind∧x.Kind≤5
  o:0≤x.Obj∧x.Obj<2147483648
  n:0≤x.N∧x.N<2147483648
  nz:x.Kind≤3→x.N=0
structure si (W:List (List ah)):Prop where
  len:1≤W.length∧W.length≤4
  ways:∀ l∈W,(1≤l.length∧l.length≤4)∧∀ x∈l,RngN x
theorem Bw {L:List ai} {d:ai} (h:badD L d=0):(d.Kind=3→d.B≤1000)∧(d.Kind=6→d.A≤1000):=by
  unfold badD at h
  constructor
  · intro k
    rw [bd k,cond_true] at h
    cases hb:(iLe 1 d.B&&iLe d.B 1000&&iLe 0 d.A&&iLe d.A d.B) with
    | false=>rw [hb] at h;cases h
    | true=>simp only [Bool.and_eq_true,dZ] at hb;omega
  · intro k
    rw [aP (show d.Kind≠3 by omega),cond_false,bd k,cond_true] at h
    cases hb:(iLe 1 d.A&&iLe d.A 1000) with
    | false=>rw [hb] at h;cases h
    | true=>simp only [Bool.and_eq_true,dZ] at hb;omega
theorem oh {L:List ai} (h:(chkL L).2=0):L.length≤32∧∀ d∈L,badD L d=0:=by
  unfold chkL at h
  by_cases hl:32<(L.length:Int)
  · rw [aU hl,cond_true] at h;cases h
  · rw [aX (by omega),cond_false] at h
    exact ⟨by omega,wX h⟩
theorem RngN.of {L:List ai} (hL:(chkL L).2=0) {x:ah} (h:badN L x=0):RngN x:=by
  obtain ⟨h1,h2⟩:=oh hL
  obtain ⟨a,b,c,d,e,f,g⟩:=xl h
  have hm:L.getD x.Obj.toNat default∈L:=by
    rw [List.getD_eq_getElem?_getD,List.getElem?_eq_getElem (by omega)]
    exact List.getElem_mem _
  obtain ⟨i,j⟩:=Bw (h2 _ hm)
  rw [c] at i j
  refine ⟨a,by omega,⟨d,?_⟩,g⟩
  by_cases k4:x.Kind=4
  · have:=i (by rw [k4];rfl)
    have:=e k4
    omega
  · by_cases k5:x.Kind=5
    · have:=j (by rw [k5];rfl)
      have:=f k5
      omega
    · have:=g (by omega)
      omega
theorem Ew {L:List ai} {l:List ah} (h:badW L l=0):(1≤l.length∧l.length≤4)∧∀ x∈l,badN L x=0:=by
  unfold badW at h
  by_cases h0:(l.length:Int)=0
  · rw [bd h0,cond_true] at h;cases h
  · rw [aP h0,cond_false] at h
    by_cases h4:4<(l.length:Int)
    · rw [aU h4,cond_true] at h;cases h
    · rw [aX (by omega),cond_false] at h
      by_cases hb:i3 L l=0
      · exact ⟨by omega,rn hb⟩
      · rw [b8 hb,cond_true] at h;exact absurd h hb
theorem vJ {L:List ai} :∀ {W:List (List ah)},px L W=0→∀ l∈W,badW L l=0
  | [],h=>fun x hx=>by cases hx
  | y::t,h=>by
    unfold px at h
    by_cases hy:badW L y=0
    · rw [bH hy,cond_false] at h
      intro x hx
      rcases List.mem_cons.1 hx with rfl | hx
      · exact hy
      · exact vJ h x hx
    · rw [b8 hy,cond_true] at h;exact absurd h hy
theorem si.of {L:List ai} (hL:(chkL L).2=0) {W:List (List ah)} (h:chkW L W=0):si W:=by
  unfold chkW at h
  by_cases h0:(W.length:Int)=0
  · rw [bd h0,cond_true] at h;cases h
  · rw [aP h0,cond_false] at h
    by_cases h4:4<(W.length:Int)
    · rw [aU h4,cond_true] at h;cases h
    · rw [aX (by omega),cond_false] at h
      refine ⟨by omega,fun l hl=>?_⟩
      obtain ⟨a,b⟩:=Ew (vJ h l hl)
      exact ⟨a,fun x hx=>RngN.of hL (b x hx)⟩
def putN (x:ah):List UInt8:=UInt8.ofNat x.Kind.toNat::(numL x.Obj.toNat++if 3<x.Kind then numL x.N.toNat else [])
def putW (l:List ah):List UInt8:=numL l.length++l.flatMap putN
def oi (W:List (List ah)):List UInt8:=numL W.length++W.flatMap putW
theorem oj {x:ah} (h:RngN x):(putN x).length≤21:=by
  have ⟨_,ha,hb,_⟩:=h
  have h1:=aL (n:=x.Obj.toNat) (by omega)
  have h2:=aL (n:=x.N.toNat) (by omega)
  unfold putN
  rw [List.length_cons,List.length_append]
  split
  · omega
  · simp;omega
theorem tX {l:List ah} (h4:l.length≤4) (h:∀ x∈l,RngN x):(putW l).length≤94:=by
  unfold putW
  rw [List.length_append]
  have:=aL (n:=l.length) (by omega)
  have:=jc putN 21 (fun d hd=>oj (h d hd))
  omega
theorem rp {W:List (List ah)} (h:si W):(oi W).length≤386:=by
  have hl:=h.len
  unfold oi
  rw [List.length_append]
  have:=aL (n:=W.length) (by omega)
  have:=jc putW 94 (fun d hd=>tX (h.ways d hd).1.2 (h.ways d hd).2)
  omega
theorem Bx {W:List (List ah)} {s4:Int×ByteArray} {K:ByteArray→Option (ByteArray×Int)} {l:List ah} (hl:W.getD s4.1.toNat default=l) (h4:l.length≤4) (h:∀ x∈l,RngN x):∀ (n i f:Nat) (b:ByteArray),i+n=l.length→n<f→b.size+21*n≤10000→
    dV W s4 K f ((i:Int),b)=K (b++bs ((l.drop i).flatMap putN))
  | n,i,0,b,hi,hf,hb=>by omega
  | 0,i,f+1,b,hi,hf,hb=>by
    rw [dV]
    dsimp only
    rw [hl,aX (by omega),cond_false,List.drop_eq_nil_of_le (by omega)]
    congr 1
    apply bQ
    simp
  | n+1,i,f+1,b,hi,hf,hb=>by
    rw [dV]
    dsimp only
    have hm:l.getD i default∈l:=by
      rw [List.getD_eq_getElem?_getD,List.getElem?_eq_getElem (by omega)]
      exact List.getElem_mem _
    have hd:=h _ hm
    rw [hl,aU (by omega),cond_true,au (aK ⟨by omega,by omega⟩),Int.toNat_natCast,bM l i (by omega),List.flatMap_cons]
    generalize l.getD i default=d at*
    have hlen:=oj hd
    have ⟨hk,ho,hn,_⟩:=hd
    have h1:=aL (n:=d.Obj.toNat) (by omega)
    have h2:=aL (n:=d.N.toNat) (by omega)
    unfold ct bt
    rw [wu8 (by omega),au (cQ (by dsimp only;omega)),au (aK (by omega)),af]
    dsimp only
    have w:IntKind.i64.wrap ((i:Int)+1)=((i+1:Nat):Int):=by rw [w64 (by omega)];omega
    have sz:(b.push (UInt8.ofNat d.Kind.toNat)).size=b.size+1:=ByteArray.size_push
    have go:∀ (x:List UInt8),UInt8.ofNat d.Kind.toNat::x=putN d→dV W s4 K f (IntKind.i64.wrap ((i:Int)+1),b.push (UInt8.ofNat d.Kind.toNat)++bs x)=K (b++bs (putN d++(l.drop (i+1)).flatMap putN)):=fun x hx=>by
      have hxl:x.length≤20:=by rw [←hx] at hlen;simpa using hlen
      rw [w,Bx hl h4 h n (i+1) f _ (by omega) (by omega) (by rw [ByteArray.size_append,sz,aN];omega)]
      congr 1
      apply bQ
      rw [←hx]
      simp
    rw [wu64 (a:=d.Obj) (by omega),wu64 (a:=d.N) (by omega),jb ho.1 (by omega) (by omega),af,af]
    by_cases k3:3<d.Kind
    · rw [show (iEq d.Kind 4||iEq d.Kind 5)=true by rw [Bool.or_eq_true,cy,cy];omega,cond_true,jb hn.1 (by omega) (by rw [ByteArray.size_append,aN];omega),af]
      dsimp only
      rw [mo,←j4]
      exact go _ (by unfold putN;rw [if_pos k3])
    · rw [show (iEq d.Kind 4||iEq d.Kind 5)=false by rw [aP (by omega),aP (by omega)];rfl,cond_false]
      exact go _ (by unfold putN;rw [if_neg k3,List.append_nil])
theorem Dw {W:List (List ah)} (h4:W.length≤4) (h:∀ l∈W,l.length≤4∧∀ x∈l,RngN x):∀ (n i f:Nat) (b:ByteArray),i+n=W.length→n<f→b.size+94*n≤5000→
    fC W f ((i:Int),b)=some (b++bs ((W.drop i).flatMap putW),0)
  | n,i,0,b,hi,hf,hb=>by omega
  | 0,i,f+1,b,hi,hf,hb=>by
    rw [fC]
    dsimp only
    rw [aX (by omega),cond_false,List.drop_eq_nil_of_le (by omega)]
    show some (b,(0:Int))=_
    congr 2
    apply bQ
    simp
  | n+1,i,f+1,b,hi,hf,hb=>by
    rw [fC]
    dsimp only
    have hm:W.getD i default∈W:=by
      rw [List.getD_eq_getElem?_getD,List.getElem?_eq_getElem (by omega)]
      exact List.getElem_mem _
    obtain ⟨hd1,hd2⟩:=h _ hm
    have h1:=aL (n:=(W.getD i default).length) (by omega)
    have hlen:=tX hd1 hd2
    rw [aU (by omega),cond_true,dc,au (aK ⟨by omega,by omega⟩),Int.toNat_natCast,wu64 (by omega),mZ (by omega) (by omega),af]
    dsimp only
    have:=Bx (W:=W) (s4:=((i:Int),b)) (K:=fun s8=>fC W f (IntKind.i64.wrap ((i:Int)+1),s8)) (l:=W.getD i default) (by rw [Int.toNat_natCast]) hd1 hd2 (W.getD i default).length 0 fuel (b++bs (numL (W.getD i default).length)) (by omega) (by have:=aM;omega) (by rw [ByteArray.size_append,aN];omega)
    refine Eq.trans this ?_
    have hf2:=jc putN 21 (fun d hd=>oj (hd2 d hd))
    rw [List.drop_zero,w64 (by omega),show (i:Int)+1=((i+1:Nat):Int) by omega,Dw h4 h n (i+1) f _ (by omega) (by omega) (by rw [ByteArray.size_append,ByteArray.size_append,aN,aN];omega),bM W i (by omega),List.flatMap_cons]
    congr 2
    apply bQ
    unfold putW
    simp
theorem xn {L:List ai} (hL:(chkL L).2=0) {W:List (List ah)} (h:chkW L W=0):nW L W=some (bs (oi W),0):=by
  have g:=si.of hL h
  have hl:=g.len
  unfold nW
  have:=aL (n:=W.length) (by omega)
  rw [kN (oh hL).1,af,bH h,cond_false,wu64 (by omega),mZ (by omega) (by simp;omega),af]
  dsimp only
  rw [show (0:Int)=((0:Nat):Int) from rfl,Dw hl.2 (fun l hl=>⟨(g.ways l hl).1.2,(g.ways l hl).2⟩) W.length 0 fuel _ (by omega) (by have:=aM;omega) (by rw [ByteArray.size_append,aN];simp;omega)]
  exact congrArg (fun z=>some (z,(0:Int))) (bQ (by unfold oi;simp))
theorem yM {W:List (List ah)} {s2:ByteArray×Int} {K:ByteArray→Option ByteArray} {l:List ah} (hl:W.getD s2.2.toNat default=l) (hs:nIn s2.2 (W.length:Int)=true) (h4:l.length≤4) (h:∀ x∈l,RngN x):∀ (n i f:Nat) (b:ByteArray),i+n=l.length→n<f→b.size+21*n≤10000→
    dp W s2 K f (b,(i:Int))=K (b++bs ((l.drop i).flatMap putN))
  | n,i,0,b,hi,hf,hb=>by omega
  | 0,i,f+1,b,hi,hf,hb=>by
    rw [dp]
    dsimp only
    rw [au hs,hl,aX (by omega),cond_false,List.drop_eq_nil_of_le (by omega)]
    congr 1
    apply bQ
    simp
  | n+1,i,f+1,b,hi,hf,hb=>by
    rw [dp]
    dsimp only
    have hm:l.getD i default∈l:=by
      rw [List.getD_eq_getElem?_getD,List.getElem?_eq_getElem (by omega)]
      exact List.getElem_mem _
    have hd:=h _ hm
    rw [au hs,hl,aU (by omega),cond_true,au hs,au (aK ⟨by omega,by omega⟩),Int.toNat_natCast,bM l i (by omega),List.flatMap_cons]
    generalize l.getD i default=d at*
    have hlen:=oj hd
    have ⟨hk,ho,hn,_⟩:=hd
    have h1:=aL (n:=d.Obj.toNat) (by omega)
    have h2:=aL (n:=d.N.toNat) (by omega)
    have w:IntKind.i64.wrap ((i:Int)+1)=((i+1:Nat):Int):=by rw [w64 (by omega)];omega
    have sz:(ByteArray.empty.push (UInt8.ofNat d.Kind.toNat)).size=1:=rfl
    have sz2:(b++ByteArray.empty.push (UInt8.ofNat d.Kind.toNat)).size=b.size+1:=by rw [ByteArray.size_append,sz]
    rw [wu8 (by omega),au (aK (by omega)),sz,au (bX (by omega))]
    have go:∀ (x:List UInt8),UInt8.ofNat d.Kind.toNat::x=putN d→dp W s2 K f (b++ByteArray.empty.push (UInt8.ofNat d.Kind.toNat)++bs x,IntKind.i64.wrap ((i:Int)+1))=K (b++bs (putN d++(l.drop (i+1)).flatMap putN)):=fun x hx=>by
      have hxl:x.length≤20:=by rw [←hx] at hlen;simpa using hlen
      rw [w,yM hl hs h4 h n (i+1) f _ (by omega) (by omega) (by rw [ByteArray.size_append,sz2,aN];omega)]
      congr 1
      apply bQ
      rw [←hx]
      simp
    rw [wu64 (a:=d.Obj) (by omega),wu64 (a:=d.N) (by omega),fm ho.1 (by omega),af,aN,sz2,au (bX (by omega))]
    by_cases k3:3<d.Kind
    · rw [aU k3,cond_true,fm hn.1 (by omega),af,aN,ByteArray.size_append,aN,sz2,au (bX (by omega)),mo (b++_),←j4]
      exact go _ (by unfold putN;rw [if_pos k3])
    · rw [aX (by omega),cond_false]
      exact go _ (by unfold putN;rw [if_neg k3,List.append_nil])
theorem Bz {W:List (List ah)} (h4:W.length≤4) (h:∀ l∈W,l.length≤4∧∀ x∈l,RngN x):∀ (n i f:Nat) (b:ByteArray),i+n=W.length→n<f→b.size+94*n≤5000→
    eB W f (b,(i:Int))=some (b++bs ((W.drop i).flatMap putW))
  | n,i,0,b,hi,hf,hb=>by omega
  | 0,i,f+1,b,hi,hf,hb=>by
    rw [eB]
    dsimp only
    rw [aX (by omega),cond_false,List.drop_eq_nil_of_le (by omega)]
    congr 1
    apply bQ
    simp
  | n+1,i,f+1,b,hi,hf,hb=>by
    rw [eB]
    dsimp only
    have hm:W.getD i default∈W:=by
      rw [List.getD_eq_getElem?_getD,List.getElem?_eq_getElem (by omega)]
      exact List.getElem_mem _
    obtain ⟨hd1,hd2⟩:=h _ hm
    have h1:=aL (n:=(W.getD i default).length) (by omega)
    have hlen:=tX hd1 hd2
    have hI:nIn (i:Int) (W.length:Int)=true:=aK ⟨by omega,by omega⟩
    rw [aU (by omega),cond_true,dc,au hI,Int.toNat_natCast,wu64 (by omega),sR (by omega),af,aN,au (bX (by omega))]
    have:=yM (W:=W) (s2:=(b,(i:Int))) (K:=fun s6=>eB W f (s6,IntKind.i64.wrap ((i:Int)+1))) (l:=W.getD i default) (by rw [Int.toNat_natCast]) hI hd1 hd2 (W.getD i default).length 0 fuel (b++bs (numL (W.getD i default).length)) (by omega) (by have:=aM;omega) (by rw [ByteArray.size_append,aN];omega)
    refine Eq.trans this ?_
    have hf2:=jc putN 21 (fun d hd=>oj (hd2 d hd))
    rw [List.drop_zero,w64 (by omega),show (i:Int)+1=((i+1:Nat):Int) by omega,Bz h4 h n (i+1) f _ (by omega) (by omega) (by rw [ByteArray.size_append,ByteArray.size_append,aN,aN];omega),bM W i (by omega),List.flatMap_cons]
    congr 1
    apply bQ
    unfold putW
    simp
theorem vK {L:List ai} (hL:(chkL L).2=0) {W:List (List ah)} (h:chkW L W=0):lB W=some (bs (oi W)):=by
  have g:=si.of hL h
  have hl:=g.len
  unfold lB
  have:=aL (n:=W.length) (by omega)
  rw [wu64 (by omega),sR (by omega),af,show (0:Int)=((0:Nat):Int) from rfl,Bz hl.2 (fun l hl=>⟨(g.ways l hl).1.2,(g.ways l hl).2⟩) W.length 0 fuel _ (by omega) (by have:=aM;omega) (by rw [aN];omega)]
  exact congrArg some (bQ (by unfold oi;simp))
end LJ
end
section
namespace LJ
open Go Go.RowKit
set_option linter.unusedVariables false
set_option linter.unusedSimpArgs false
theorem BA {n:Nat} (h:n<18446744073709551616):IntKind.i64.wrap (iMin (n:Int) (2147483648:Int))=((min n 2147483648:Nat):Int):=by
  unfold iMin
  split
  · rw [w64 (by omega)];omega
  · rw [w64 (by omega)];omega
def tY (b:UInt8) (t:List UInt8):ah×Int×List UInt8:=
  cond (iLt (b.toNat:Int) 1||iLt 5 (b.toNat:Int)) (⟨b.toNat,0,0⟩,6,t)
    (cond (iLt 3 (b.toNat:Int)) (⟨b.toNat,capN (rdN t 0),capN (rdN (rdN t 0).2.2 (rdN t 0).1)⟩,(rdN (rdN t 0).2.2 (rdN t 0).1).1,(rdN (rdN t 0).2.2 (rdN t 0).1).2.2)
    (⟨b.toNat,capN (rdN t 0),0⟩,(rdN t 0).1,(rdN t 0).2.2))
def hJ:List UInt8→ah×Int×List UInt8
  | []=>(⟨0,0,0⟩,3,[])
  | b::t=>tY b t
theorem rq (b:UInt8) (t:List UInt8):hJ (b::t)=tY b t:=rfl
theorem vL {s:ByteArray} (hs:s.size≤9007199254740992) {l:List UInt8} (h:l<:+bl s):∃ er,ke (mkI s l 0)=some ((hJ l).1,(hJ l).2.1,mkI s (hJ l).2.2 er)∧((hJ l).2.1=0→er=0∧(hJ l).2.2<:+bl s):=by
  have h0:RdOK s l 0:=⟨h,fun h=>absurd rfl h⟩
  unfold ke bt
  cases l with
  | nil=>
    rw [ju,af]
    dsimp only
    rw [bN,af,if_pos rfl,b8 (by decide),cond_true]
    exact ⟨3,rfl,fun h=>absurd h (by decide:(3:Int)≠0)⟩
  | cons b t=>
    have ht:RdOK s t 0:=h0.byte
    have hb:=pk b
    rw [jP s hs b t 0 h,af]
    dsimp only
    rw [bN,af,bH rfl,cond_false,rq]
    unfold tY
    cases hk:(iLt (b.toNat:Int) 1||iLt 5 (b.toNat:Int)) with
    | true=>exact ⟨_,rfl,fun h=>absurd h (by decide:(6:Int)≠0)⟩
    | false=>
      simp only [Bool.or_eq_false_iff,bo] at hk
      rw [cond_false,cond_false,fj hs ht,af,af]
      dsimp only
      rw [BA (qY t 0)]
      by_cases k3:3<(b.toNat:Int)
      · rw [show (iEq (b.toNat:Int) 4||iEq (b.toNat:Int) 5)=true by rw [Bool.or_eq_true,cy,cy];omega,cond_true,aU k3,cond_true,fj hs ht.num,af]
        dsimp only
        rw [bN,af,BA (qY _ _)]
        exact ⟨_,rfl,fun h=>⟨h,ht.num.num.suf⟩⟩
      · rw [show (iEq (b.toNat:Int) 4||iEq (b.toNat:Int) 5)=false by rw [aP (by omega),aP (by omega)];rfl,cond_false,aX (by omega),cond_false,bN,af]
        exact ⟨_,rfl,fun h=>⟨h,ht.num.suf⟩⟩
def rdM (l:List UInt8):Nat×Int×List UInt8:=cond (iLt 4 ((rdN l 0).2.1:Int)) (0,4,[]) ((rdN l 0).2.1,(rdN l 0).1,(rdN l 0).2.2)
theorem py {s:ByteArray} (hs:s.size≤9007199254740992) {l:List UInt8} (h:l<:+bl s):∃ S,jt (mkI s l 0) 4=some (((rdM l).1:Int),(rdM l).2.1,S)∧((rdM l).2.1=0→S=mkI s (rdM l).2.2 0∧(rdM l).2.2<:+bl s∧(rdM l).1≤4):=by
  have h0:RdOK s l 0:=⟨h,fun h=>absurd rfl h⟩
  unfold jt rdM
  rw [fj hs h0,af]
  dsimp only
  by_cases h4:4<((rdN l 0).2.1:Int)
  · rw [aU h4,cond_true,cond_true]
    exact ⟨_,rfl,fun h=>absurd h (by decide:(4:Int)≠0)⟩
  · rw [aX (by omega),cond_false,cond_false,bN,af,w64 (by omega)]
    refine ⟨_,rfl,fun he=>?_⟩
    dsimp only at he ⊢
    exact ⟨by rw [he],h0.num.suf,by omega⟩
def eW:Nat→List UInt8→List ah→List ah×Int×List UInt8
  | 0,l,acc=>(acc,0,l)
  | n+1,l,acc=>cond (iEq (hJ l).2.1 0) (eW n (hJ l).2.2 (acc++[(hJ l).1])) ([],(hJ l).2.1,[])
def oZ (l:List UInt8):List ah×Int×List UInt8:=cond (iEq (rdM l).2.1 0) (eW (rdM l).1 (rdM l).2.2 []) ([],(rdM l).2.1,[])
def fu:Nat→List UInt8→List (List ah)→List (List ah)×Int×List UInt8
  | 0,l,acc=>(acc,0,l)
  | n+1,l,acc=>cond (iEq (oZ l).2.1 0) (fu n (oZ l).2.2 (acc++[(oZ l).1])) ([],(oZ l).2.1,[])
def om (L:List ai) (l:List UInt8):List (List ah)×Int×List UInt8:=
  cond (iEq (rdM l).2.1 0)
    (cond (iEq (fu (rdM l).1 (rdM l).2.2 []).2.1 0)
      (cond (iEq (chkW L (fu (rdM l).1 (rdM l).2.2 []).1) 0) ((fu (rdM l).1 (rdM l).2.2 []).1,0,(fu (rdM l).1 (rdM l).2.2 []).2.2) ([],chkW L (fu (rdM l).1 (rdM l).2.2 []).1,[]))
      ([],(fu (rdM l).1 (rdM l).2.2 []).2.1,[]))
    ([],(rdM l).2.1,[])
theorem xo (s:ByteArray) (l:List UInt8) (e:Int):(⟨(mkI s l e).s,(mkI s l e).at_,(mkI s l e).err⟩:an)=mkI s l e:=rfl
theorem BB {s:ByteArray} (hs:s.size≤9007199254740992) {s5:Int×(List (List ah))×ByteArray×Int×Int} {K:((List (List ah))×ByteArray×Int×Int)→Option ((List (List ah))×Int×Int)} {x10:Int×Int×an} {N:Nat} (hN:x10.1=(N:Int)) (hN4:N≤4) (h5:s5.2.1.length≤4):∀ (n i f:Nat) (acc:List ah) (l:List UInt8),i+n=N→n<f→acc.length=i→l<:+bl s→
    fF s5 K x10 f ((i:Int),acc,(mkI s l 0).s,(mkI s l 0).at_,(mkI s l 0).err)=cond (iEq (eW n l acc).2.1 0) (K (s5.2.1++[(eW n l acc).1],(mkI s (eW n l acc).2.2 0).s,(mkI s (eW n l acc).2.2 0).at_,(mkI s (eW n l acc).2.2 0).err)) (some ([],0,(eW n l acc).2.1))∧((eW n l acc).2.1=0→(eW n l acc).2.2<:+bl s)
  | n,i,0,acc,l,hi,hf,ha,hl=>by omega
  | 0,i,f+1,acc,l,hi,hf,ha,hl=>by
    refine ⟨?_,fun _=>hl⟩
    rw [fF]
    dsimp only
    rw [hN,aX (by omega),cond_false,au (cQ (by simp only [List.length_cons,List.length_nil];omega)),show eW 0 l acc=(acc,0,l) from rfl,bd rfl,cond_true]
  | n+1,i,f+1,acc,l,hi,hf,ha,hl=>by
    rw [fF]
    dsimp only
    obtain ⟨er,h1,h2⟩:=vL hs hl
    rw [hN,aU (by omega),cond_true,xo,h1,af,eW]
    dsimp only
    by_cases he:(hJ l).2.1=0
    · obtain ⟨rfl,h3⟩:=h2 he
      rw [bH he,cond_false,bd he,cond_true,au (cQ (by simp only [List.length_cons,List.length_nil];omega)),w64 (by omega),show (i:Int)+1=((i+1:Nat):Int) by omega]
      exact BB hs hN hN4 h5 n (i+1) f _ _ (by omega) (by omega) (by simp;omega) h3
    · rw [b8 he,cond_true,aP he,cond_false,aP he,cond_false]
      exact ⟨rfl,fun h=>absurd h he⟩
theorem Dx {L:List ai} (hL:L.length≤32) {s:ByteArray} (hs:s.size≤9007199254740992) {x2:Int×Int×an} {N:Nat} (hN:x2.1=(N:Int)) (hN4:N≤4):∀ (n i f:Nat) (acc:List (List ah)) (l:List UInt8),i+n=N→n<f→acc.length=i→l<:+bl s→
    fG L s x2 f ((i:Int),acc,(mkI s l 0).s,(mkI s l 0).at_,(mkI s l 0).err)=cond (iEq (fu n l acc).2.1 0) (cond (iEq (chkW L (fu n l acc).1) 0) (some ((fu n l acc).1,(s.size:Int) - (fu n l acc).2.2.length,0)) (some ([],0,chkW L (fu n l acc).1))) (some ([],0,(fu n l acc).2.1))
  | n,i,0,acc,l,hi,hf,ha,hl=>by omega
  | 0,i,f+1,acc,l,hi,hf,ha,hl=>by
    have:=lI hl
    rw [fG]
    dsimp only
    rw [hN,aX (by omega),cond_false,kN hL,af,xo,show fu 0 l acc=(acc,0,l) from rfl,bd rfl,cond_true]
    dsimp only
    by_cases hc:chkW L acc=0
    · rw [bH hc,cond_false,bd hc,cond_true,tI s hs l 0 hl,af,w64 (by omega)]
    · rw [b8 hc,cond_true,aP hc,cond_false]
  | n+1,i,f+1,acc,l,hi,hf,ha,hl=>by
    rw [fG]
    dsimp only
    obtain ⟨S,h1,h2⟩:=py hs hl
    rw [hN,aU (by omega),cond_true,dc,xo,h1,af,fu,oZ]
    dsimp only
    by_cases he:(rdM l).2.1=0
    · obtain ⟨rfl,h3,h4⟩:=h2 he
      rw [bH he,cond_false,bd he,cond_true]
      obtain ⟨g1,g2⟩:=BB hs (s5:=((i:Int),acc,(mkI s l 0).s,(mkI s l 0).at_,(mkI s l 0).err)) (K:=fun s9=>fG L s x2 f (IntKind.i64.wrap ((i:Int)+1),s9.1,s9.2.1,s9.2.2.1,s9.2.2.2)) (x10:=(((rdM l).1:Int),(rdM l).2.1,mkI s (rdM l).2.2 0)) (N:=(rdM l).1) rfl h4 (by dsimp only;omega) (rdM l).1 0 fuel [] (rdM l).2.2 (by omega) (by have:=aM;omega) rfl h3
      refine Eq.trans g1 ?_
      dsimp only
      by_cases hr:(eW (rdM l).1 (rdM l).2.2 []).2.1=0
      · rw [bd hr,cond_true,cond_true,w64 (by omega),show (i:Int)+1=((i+1:Nat):Int) by omega]
        exact Dx hL hs hN hN4 n (i+1) f _ _ (by omega) (by omega) (by simp;omega) (g2 hr)
      · rw [aP hr,cond_false,cond_false,aP hr,cond_false]
    · rw [b8 he,cond_true,aP he,cond_false]
      dsimp only
      rw [aP he,cond_false,aP he,cond_false]
theorem xp {L:List ai} (hL:L.length≤32) {s:ByteArray} (hs:s.size≤9007199254740992):nZ L s=some ((om L (bl s)).1,cond (iEq (om L (bl s)).2.1 0) ((s.size:Int) - (om L (bl s)).2.2.length) 0,(om L (bl s)).2.1):=by
  unfold nZ
  obtain ⟨S,h1,h2⟩:=py hs (List.suffix_refl (bl s))
  rw [qX,af,h1,af]
  dsimp only
  unfold om
  by_cases he:(rdM (bl s)).2.1=0
  · obtain ⟨rfl,h3,h4⟩:=h2 he
    rw [bH he,cond_false,bd he,cond_true]
    have:=Dx hL hs (x2:=(((rdM (bl s)).1:Int),(rdM (bl s)).2.1,mkI s (rdM (bl s)).2.2 0)) (N:=(rdM (bl s)).1) rfl h4 (rdM (bl s)).1 0 fuel [] (rdM (bl s)).2.2 (by omega) (by have:=aM;omega) rfl h3
    refine Eq.trans this ?_
    generalize fu (rdM (bl s)).1 (rdM (bl s)).2.2 []=r
    by_cases h1:r.2.1=0
    · rw [bd h1,cond_true,cond_true]
      by_cases h2:chkW L r.1=0
      · rw [bd h2,cond_true,cond_true];rfl
      · rw [aP h2,cond_false,cond_false];dsimp only;rw [aP h2,cond_false]
    · rw [aP h1,cond_false,cond_false];dsimp only;rw [aP h1,cond_false]
  · rw [b8 he,cond_true,aP he,cond_false];dsimp only;rw [aP he,cond_false]
def Said (L:List ai) (s:ByteArray) (r:List (List ah)×Int×List UInt8) (z:Option ((List (List ah))×aA×Int)):Prop:=
  (r.2.1=0→chkW L r.1=0→z=some (r.1,mkR s r.2.2 0,0))∧(r.2.1=0→chkW L r.1≠0→∃ R,z=some ([],R,chkW L r.1))∧(r.2.1≠0→∃ R,z=some ([],R,r.2.1))
theorem zG {l:List UInt8} (h:(hJ l).2.1=0) (hr:RngN (hJ l).1):l=putN (hJ l).1++(hJ l).2.2:=by
  cases l with
  | nil=>exact absurd h (by decide:(3:Int)≠0)
  | cons b t=>
    have hu:UInt8.ofNat b.toNat=b:=gb b
    have hb:=pk b
    rw [rq] at h hr ⊢
    unfold tY at h hr ⊢
    cases hk:(iLt (b.toNat:Int) 1||iLt 5 (b.toNat:Int)) with
    | true=>rw [hk,cond_true] at h;exact absurd h (by decide:(6:Int)≠0)
    | false=>
      rw [hk,cond_false] at h hr
      rw [cond_false]
      by_cases k3:3<(b.toNat:Int)
      · rw [aU k3,cond_true] at h hr ⊢
        dsimp only at h
        have e1:=wT h
        obtain ⟨i1,j1⟩:=eV (l:=t) e1
        rw [e1] at h
        obtain ⟨i2,j2⟩:=eV (l:=(rdN t 0).2.2) h
        rw [e1] at hr ⊢
        have ⟨_,ha,hbb,_⟩:=hr
        generalize (rdN (rdN t 0).2.2 0)=r2 at*
        generalize (rdN t 0)=r1 at*
        obtain ⟨x1,n1,t1⟩:=r1
        obtain ⟨x2,n2,t2⟩:=r2
        unfold putN capN at*
        dsimp only at*
        rw [if_pos k3,Int.toNat_natCast,hu,show ((min n1 2147483648:Nat):Int).toNat=n1 by omega,show ((min n2 2147483648:Nat):Int).toNat=n2 by omega,List.cons_append,List.append_assoc,←i2,←i1]
      · rw [aX (by omega),cond_false] at h hr ⊢
        dsimp only at h
        obtain ⟨i1,j1⟩:=eV (l:=t) h
        have ⟨_,ha,hbb,_⟩:=hr
        generalize (rdN t 0)=r1 at*
        obtain ⟨x1,n1,t1⟩:=r1
        unfold putN capN at*
        dsimp only at*
        rw [if_neg k3,Int.toNat_natCast,hu,show ((min n1 2147483648:Nat):Int).toNat=n1 by omega,List.append_nil,List.cons_append,←i1]
theorem rr:∀ (n:Nat) (l:List UInt8) (acc:List ah),(eW n l acc).2.1=0→(∀ x∈(eW n l acc).1,RngN x)→∃ L,(eW n l acc).1=acc++L∧L.length=n∧l=L.flatMap putN++(eW n l acc).2.2
  | 0,l,acc,h,hr=>⟨[],by simp [eW]⟩
  | n+1,l,acc,h,hr=>by
    rw [eW] at h hr ⊢
    by_cases he:(hJ l).2.1=0
    · rw [bd he,cond_true] at h hr ⊢
      obtain ⟨L,h1,h2,h3⟩:=rr n _ _ h hr
      have hd:RngN (hJ l).1:=hr _ (by rw [h1];simp)
      refine ⟨(hJ l).1::L,by rw [h1];simp,by simp [h2],?_⟩
      rw [List.flatMap_cons,List.append_assoc,←h3]
      exact zG he hd
    · rw [aP he,cond_false] at h
      exact absurd h he
theorem BC {l:List UInt8} (h:(rdM l).2.1=0):l=numL (rdM l).1++(rdM l).2.2:=by
  unfold rdM at h ⊢
  by_cases h4:4<((rdN l 0).2.1:Int)
  · rw [aU h4,cond_true] at h;exact absurd h (by decide:(4:Int)≠0)
  · rw [aX (by omega),cond_false] at h ⊢
    exact (eV h).1
theorem BD {l:List UInt8} (h:(oZ l).2.1=0) (hr:∀ x∈(oZ l).1,RngN x):l=putW (oZ l).1++(oZ l).2.2:=by
  unfold oZ at h hr ⊢
  by_cases he:(rdM l).2.1=0
  · rw [bd he,cond_true] at h hr ⊢
    obtain ⟨L,h1,h2,h3⟩:=rr _ _ _ h hr
    unfold putW
    rw [h1,List.nil_append,h2,List.append_assoc,←h3]
    exact BC he
  · rw [aP he,cond_false] at h;exact absurd h he
theorem sX:∀ (n:Nat) (l:List UInt8) (acc:List (List ah)),(fu n l acc).2.1=0→(∀ w∈(fu n l acc).1,∀ x∈w,RngN x)→∃ L,(fu n l acc).1=acc++L∧L.length=n∧l=L.flatMap putW++(fu n l acc).2.2
  | 0,l,acc,h,hr=>⟨[],by simp [fu]⟩
  | n+1,l,acc,h,hr=>by
    rw [fu] at h hr ⊢
    by_cases he:(oZ l).2.1=0
    · rw [bd he,cond_true] at h hr ⊢
      obtain ⟨L,h1,h2,h3⟩:=sX n _ _ h hr
      have hd:∀ x∈(oZ l).1,RngN x:=hr _ (by rw [h1];simp)
      refine ⟨(oZ l).1::L,by rw [h1];simp,by simp [h2],?_⟩
      rw [List.flatMap_cons,List.append_assoc,←h3]
      exact BD he hd
    · rw [aP he,cond_false] at h
      exact absurd h he
theorem vM {L:List ai} (hL:(chkL L).2=0) {l:List UInt8} (h:(om L l).2.1=0):chkW L (om L l).1=0∧l=oi (om L l).1++(om L l).2.2:=by
  unfold om at h ⊢
  by_cases a1:(rdM l).2.1=0
  · rw [bd a1,cond_true] at h ⊢
    by_cases a3:(fu (rdM l).1 (rdM l).2.2 []).2.1=0
    · rw [bd a3,cond_true] at h ⊢
      by_cases a4:chkW L (fu (rdM l).1 (rdM l).2.2 []).1=0
      · rw [bd a4,cond_true]
        refine ⟨a4,?_⟩
        have g:=si.of hL a4
        obtain ⟨M,h1,h2,h3⟩:=sX _ _ _ a3 fun w hw=>(g.ways w hw).2
        dsimp only
        unfold oi
        rw [h1,List.nil_append,h2,List.append_assoc,←h3]
        exact BC a1
      · rw [aP a4,cond_false] at h;exact absurd h a4
    · rw [aP a3,cond_false] at h;exact absurd h a3
  · rw [aP a1,cond_false] at h;exact absurd h a1
end LJ
end
section
namespace LJ
open Go Go.RowKit
set_option linter.unusedVariables false
set_option linter.unusedSimpArgs false
def first {α:Type} (f:α→Int):List α→Int
  | []=>0
  | x::t=>cond (iNe (f x) 0) (f x) (first f t)
theorem qu {α:Type} {f:α→Int} :∀ {l:List α},first f l=0→∀ x∈l,f x=0
  | [],h=>fun x hx=>by cases hx
  | y::t,h=>by
    unfold first at h
    by_cases hy:f y=0
    · rw [bH hy,cond_false] at h
      intro x hx
      rcases List.mem_cons.1 hx with rfl | hx
      · exact hy
      · exact qu h x hx
    · rw [b8 hy,cond_true] at h;exact absurd h hy
def sj (F:ax):Int:=cond ((iLt F.Args 0||iLt F.Locals F.Args)||iLt 8 F.Locals) 1 (cond (iEq (F.Code.length:Int) 0) 2 (cond (iLt 200 (F.Code.length:Int)) 4 (first chkI F.Code)))
def chkP (p:aa):Int:=
  cond (iNe (chkL p.Decls).2 0) (chkL p.Decls).2 (cond (iLt 32 (p.Waits.length:Int)) 4 (cond (iNe (first (chkW p.Decls) p.Waits) 0) (first (chkW p.Decls) p.Waits)
    (cond (iEq (p.Funcs.length:Int) 0) 2 (cond (iLt 16 (p.Funcs.length:Int)) 4 (first sj p.Funcs)))))
theorem Dy (F:ax) (hF:F.Code.length≤200):∀ (n i f:Nat),i+n=F.Code.length→n<f→cO F f (i:Int)=some (first chkI (F.Code.drop i))
  | n,i,0,hi,hf=>by omega
  | 0,i,f+1,hi,hf=>by rw [cO,aX (by omega),cond_false,List.drop_eq_nil_of_le (by omega)];rfl
  | n+1,i,f+1,hi,hf=>by
    rw [cO,aU (by omega),cond_true,au (aK ⟨by omega,by omega⟩),Int.toNat_natCast,lL,af,w64 (by omega),show (i:Int)+1=((i+1:Nat):Int) by omega,Dy F hF n (i+1) f (by omega) (by omega),bM _ i (by omega),first,bf]
theorem Dz (F:ax) (hF:F.Code.length≤200):∀ (n i f:Nat),i+n=F.Code.length→n<f→bL F f (i:Int)=some (first chkI (F.Code.drop i))
  | n,i,0,hi,hf=>by omega
  | 0,i,f+1,hi,hf=>by rw [bL,aX (by omega),cond_false,List.drop_eq_nil_of_le (by omega)];rfl
  | n+1,i,f+1,hi,hf=>by
    rw [bL,aU (by omega),cond_true,au (aK ⟨by omega,by omega⟩),Int.toNat_natCast,mM,af,w64 (by omega),show (i:Int)+1=((i+1:Nat):Int) by omega,Dz F hF n (i+1) f (by omega) (by omega),bM _ i (by omega),first,bf]
theorem pR (F:ax):gM F=some (sj F):=by
  unfold gM sj
  by_cases h:200<(F.Code.length:Int)
  · rw [aU h,cond_true,cond_true,bf,bf]
  · have h':iLt 200 (F.Code.length:Int)=false:=aX (by omega)
    have hl:=Dy F (by omega) F.Code.length 0 fuel (by omega) (by have:=aM;omega)
    rw [List.drop_zero] at hl
    have hl':cO F fuel 0=some (first chkI F.Code):=hl
    rw [h',cond_false,cond_false,hl',bf,bf]
theorem o0 (F:ax):ea F=some (sj F):=by
  unfold ea sj
  by_cases h:200<(F.Code.length:Int)
  · rw [aU h,cond_true,cond_true,bf,bf]
  · have h':iLt 200 (F.Code.length:Int)=false:=aX (by omega)
    have hl:=Dz F (by omega) F.Code.length 0 fuel (by omega) (by have:=aM;omega)
    rw [List.drop_zero] at hl
    have hl':bL F fuel 0=some (first chkI F.Code):=hl
    rw [h',cond_false,cond_false,hl',bf,bf]
theorem BE (p:aa) (hF:p.Funcs.length≤16):∀ (n i f:Nat),i+n=p.Funcs.length→n<f→ee p f (i:Int)=some (first sj (p.Funcs.drop i))
  | n,i,0,hi,hf=>by omega
  | 0,i,f+1,hi,hf=>by rw [ee,aX (by omega),cond_false,List.drop_eq_nil_of_le (by omega)];rfl
  | n+1,i,f+1,hi,hf=>by
    rw [ee,aU (by omega),cond_true,au (aK ⟨by omega,by omega⟩),Int.toNat_natCast,pR,af,w64 (by omega),show (i:Int)+1=((i+1:Nat):Int) by omega,BE p hF n (i+1) f (by omega) (by omega),bM _ i (by omega),first,bf]
theorem BF (p:aa) (hF:p.Funcs.length≤16):∀ (n i f:Nat),i+n=p.Funcs.length→n<f→cq p f (i:Int)=some (first sj (p.Funcs.drop i))
  | n,i,0,hi,hf=>by omega
  | 0,i,f+1,hi,hf=>by rw [cq,aX (by omega),cond_false,List.drop_eq_nil_of_le (by omega)];rfl
  | n+1,i,f+1,hi,hf=>by
    rw [cq,aU (by omega),cond_true,au (aK ⟨by omega,by omega⟩),Int.toNat_natCast,o0,af,w64 (by omega),show (i:Int)+1=((i+1:Nat):Int) by omega,BF p hF n (i+1) f (by omega) (by omega),bM _ i (by omega),first,bf]
def CO (p:aa):Int:=cond (iEq (p.Funcs.length:Int) 0) 2 (cond (iLt 16 (p.Funcs.length:Int)) 4 (first sj p.Funcs))
theorem DA (p:aa) (hD:p.Decls.length≤32) (hW:p.Waits.length≤32):∀ (n i f:Nat),i+n=p.Waits.length→n<f→eL p f (i:Int)=some (cond (iNe (first (chkW p.Decls) (p.Waits.drop i)) 0) (first (chkW p.Decls) (p.Waits.drop i)) (CO p))
  | n,i,0,hi,hf=>by omega
  | 0,i,f+1,hi,hf=>by
    rw [eL,aX (by omega),cond_false,List.drop_eq_nil_of_le (by omega),first,bH rfl,cond_false]
    unfold CO
    by_cases h:16<(p.Funcs.length:Int)
    · rw [aU h,cond_true,cond_true,bf]
    · have:=BE p (by omega) p.Funcs.length 0 fuel (by omega) (by have:=aM;omega)
      rw [List.drop_zero] at this
      rw [aX (by omega),cond_false,cond_false,show (0:Int)=((0:Nat):Int) from rfl,this,bf]
  | n+1,i,f+1,hi,hf=>by
    rw [eL,aU (by omega),cond_true,au (aK ⟨by omega,by omega⟩),Int.toNat_natCast,kN hD,af,w64 (by omega),show (i:Int)+1=((i+1:Nat):Int) by omega,DA p hD hW n (i+1) f (by omega) (by omega),bM _ i (by omega),first]
    by_cases h:chkW p.Decls (p.Waits.getD i default)=0
    · rw [bH h,cond_false,cond_false]
    · rw [b8 h,cond_true,cond_true,b8 h,cond_true]
theorem DB (p:aa) (hW:p.Waits.length≤32):∀ (n i f:Nat),i+n=p.Waits.length→n<f→cD p f (i:Int)=some (cond (iNe (first (chkW p.Decls) (p.Waits.drop i)) 0) (first (chkW p.Decls) (p.Waits.drop i)) (CO p))
  | n,i,0,hi,hf=>by omega
  | 0,i,f+1,hi,hf=>by
    rw [cD,aX (by omega),cond_false,List.drop_eq_nil_of_le (by omega),first,bH rfl,cond_false]
    unfold CO
    by_cases h:16<(p.Funcs.length:Int)
    · rw [aU h,cond_true,cond_true,bf]
    · have:=BF p (by omega) p.Funcs.length 0 fuel (by omega) (by have:=aM;omega)
      rw [List.drop_zero] at this
      rw [aX (by omega),cond_false,cond_false,show (0:Int)=((0:Nat):Int) from rfl,this,bf]
  | n+1,i,f+1,hi,hf=>by
    rw [cD,aU (by omega),cond_true,au (aK ⟨by omega,by omega⟩),Int.toNat_natCast,sh,af,w64 (by omega),show (i:Int)+1=((i+1:Nat):Int) by omega,DB p hW n (i+1) f (by omega) (by omega),bM _ i (by omega),first]
    by_cases h:chkW p.Decls (p.Waits.getD i default)=0
    · rw [bH h,cond_false,cond_false]
    · rw [b8 h,cond_true,cond_true,b8 h,cond_true]
theorem kO (p:aa):il p=some (chkP p):=by
  unfold il chkP
  rw [kK,af]
  by_cases hd:(chkL p.Decls).2=0
  · rw [bH hd,cond_false,cond_false]
    by_cases h:32<(p.Waits.length:Int)
    · rw [aU h];rfl
    · rw [aX (by omega),cond_false,cond_false,show (0:Int)=((0:Nat):Int) from rfl,DA p (oh hd).1 (by omega) p.Waits.length 0 fuel (by omega) (by have:=aM;omega),List.drop_zero]
      rfl
  · rw [b8 hd];rfl
theorem mN (p:aa):fA p=some (chkP p):=by
  unfold fA chkP
  rw [sa,af]
  by_cases hd:(chkL p.Decls).2=0
  · rw [bH hd,cond_false,cond_false]
    by_cases h:32<(p.Waits.length:Int)
    · rw [aU h];rfl
    · rw [aX (by omega),cond_false,cond_false,show (0:Int)=((0:Nat):Int) from rfl,DB p (by omega) p.Waits.length 0 fuel (by omega) (by have:=aM;omega),List.drop_zero]
      rfl
  · rw [b8 hd];rfl
structure sk (F:ax):Prop where
  args:0≤F.Args∧F.Args≤8
  locals:0≤F.Locals∧F.Locals≤8
  code:1≤F.Code.length∧F.Code.length≤200
  ins:∀ x∈F.Code,chkI x=0
theorem sk.of {F:ax} (h:sj F=0):sk F:=by
  unfold sj at h
  cases h1:((iLt F.Args 0||iLt F.Locals F.Args)||iLt 8 F.Locals) with
  | true=>rw [h1,cond_true] at h;cases h
  | false=>
    rw [h1,cond_false] at h
    simp only [Bool.or_eq_false_iff,bo] at h1
    by_cases h2:(F.Code.length:Int)=0
    · rw [bd h2,cond_true] at h;cases h
    · rw [aP h2,cond_false] at h
      by_cases h3:200<(F.Code.length:Int)
      · rw [aU h3,cond_true] at h;cases h
      · rw [aX (by omega),cond_false] at h
        exact ⟨by omega,by omega,by omega,qu h⟩
structure lN (p:aa):Prop where
  decls:(chkL p.Decls).2=0
  waits:p.Waits.length≤32∧∀ w∈p.Waits,chkW p.Decls w=0
  funcs:1≤p.Funcs.length∧p.Funcs.length≤16
  fns:∀ F∈p.Funcs,sk F
theorem lN.of {p:aa} (h:chkP p=0):lN p:=by
  unfold chkP at h
  by_cases hd:(chkL p.Decls).2=0
  · rw [bH hd,cond_false] at h
    by_cases h1:32<(p.Waits.length:Int)
    · rw [aU h1,cond_true] at h;cases h
    · rw [aX (by omega),cond_false] at h
      by_cases h2:first (chkW p.Decls) p.Waits=0
      · rw [bH h2,cond_false] at h
        by_cases h3:(p.Funcs.length:Int)=0
        · rw [bd h3,cond_true] at h;cases h
        · rw [aP h3,cond_false] at h
          by_cases h4:16<(p.Funcs.length:Int)
          · rw [aU h4,cond_true] at h;cases h
          · rw [aX (by omega),cond_false] at h
            exact ⟨hd,⟨by omega,qu h2⟩,by omega,fun F hF=>sk.of (qu h F hF)⟩
      · rw [b8 h2,cond_true] at h;exact absurd h h2
  · rw [b8 hd,cond_true] at h;exact absurd h hd
def ownW (W:List (List ah)):List (List ah):=(W.take 6).map fun l=>l.take 6
theorem BG (W:List (List ah)):∀ (n i f:Nat) (acc:List (List ah)),i+n=min W.length 6→n<f→acc.length=i→ey W f ((i:Int),acc)=some (acc++((W.take 6).drop i).map fun l=>l.take 6)
  | n,i,0,acc,hi,hf,ha=>by omega
  | 0,i,f+1,acc,hi,hf,ha=>by
    rw [ey]
    dsimp only
    have:(iLt (i:Int) (W.length:Int)&&iLt (i:Int) 6)=false:=by
      rw [Bool.and_eq_false_iff,bo,bo];omega
    rw [this,cond_false,List.drop_eq_nil_of_le (by simp;omega),List.map_nil,List.append_nil]
  | n+1,i,f+1,acc,hi,hf,ha=>by
    rw [ey]
    dsimp only
    have hl:(W.take 6).drop i=W.getD i default::(W.take 6).drop (i+1):=by
      rw [bM (W.take 6) i (by simp;omega)]
      congr 1
      rw [List.getD_eq_getElem?_getD,List.getD_eq_getElem?_getD,List.getElem?_take_of_lt (by omega)]
    rw [aU (by omega),aU (by omega),Bool.and_self,cond_true,au (aK ⟨by omega,by omega⟩),w64 (by omega),show (i:Int)+1=((i+1:Nat):Int) by omega,Int.toNat_natCast,hl,List.map_cons]
    cases h6:iLt 6 ((W.getD i default).length:Int) with
    | true=>
      rw [cU] at h6
      rw [cond_true,au (vh ⟨by omega,by omega,by omega⟩),au (cQ (by simp;omega)),au (cQ (by simp;omega)),BG W n (i+1) f _ (by omega) (by omega) (by simp [ha])]
      simp
    | false=>
      rw [bo] at h6
      rw [cond_false,au (cQ (by rw [List.length_nil];omega)),au (cQ (by simp;omega)),BG W n (i+1) f _ (by omega) (by omega) (by simp [ha])]
      rw [List.take_of_length_le (l:=W.getD i default) (by omega)]
      simp
theorem F4 (W:List (List ah)):lv W=some (ownW W):=by
  unfold lv
  have:=BG W (min W.length 6) 0 fuel [] (by omega) (by have:=aM;omega) rfl
  rw [show (0:Int)=((0:Nat):Int) from rfl,this]
  rfl
theorem Ex (W:List (List ah)):ownW (ownW W)=ownW W:=by
  unfold ownW
  rw [List.take_of_length_le (by rw [List.length_map,List.length_take];omega),List.map_map]
  refine List.map_congr_left fun l _=>?_
  show (l.take 6).take 6=l.take 6
  rw [List.take_take,Nat.min_self]
theorem CP {W:List (List ah)} (g:si W):ownW W=W:=by
  unfold ownW
  rw [List.take_of_length_le (by have:=g.len;omega)]
  refine Eq.trans (List.map_congr_left (g:=id) fun l hl=>?_) (List.map_id W)
  exact List.take_of_length_le (by have:=(g.ways l hl).1;omega)
def ownF (F:ax):ax:=⟨F.Args,F.Locals,F.Code.take 250⟩
def ownP (p:aa):aa:=⟨p.Decls.take 40,(p.Waits.take 40).map ownW,(p.Funcs.take 20).map ownF⟩
theorem oo {α:Type} [Inhabited α] (L:List α) (m i:Nat) (h:i<L.length) (hm:i<m):(L.take m).drop i=L.getD i default::(L.take m).drop (i+1):=by
  rw [bM (L.take m) i (by simp;omega)]
  congr 1
  rw [List.getD_eq_getElem?_getD,List.getD_eq_getElem?_getD,List.getElem?_take_of_lt hm]
theorem DC {p:aa} {k:Nat} {G:List ax} {K:List ax→Option aa} (hk:k<p.Funcs.length) (hG:G.length≤20):∀ (n i f:Nat) (acc:List ar),i+n=min (p.Funcs.getD k default).Code.length 250→n<f→acc.length=i→
    eG p ((k:Int),G) K f ((i:Int),acc)=K (G++[⟨(p.Funcs.getD k default).Args,(p.Funcs.getD k default).Locals,acc++((p.Funcs.getD k default).Code.take 250).drop i⟩])
  | n,i,0,acc,hi,hf,ha=>by omega
  | 0,i,f+1,acc,hi,hf,ha=>by
    rw [eG]
    dsimp only
    rw [au (aK ⟨by omega,by omega⟩),Int.toNat_natCast]
    have:(iLt (i:Int) ((p.Funcs.getD k default).Code.length:Int)&&iLt (i:Int) 250)=false:=by
      rw [Bool.and_eq_false_iff,bo,bo];omega
    rw [this,cond_false,au (cQ (by simp only [List.length_append,List.length_cons,List.length_nil];omega)),List.drop_eq_nil_of_le (by rw [List.length_take];omega),List.append_nil]
  | n+1,i,f+1,acc,hi,hf,ha=>by
    rw [eG]
    dsimp only
    rw [au (aK ⟨by omega,by omega⟩),Int.toNat_natCast,aU (by omega),aU (by omega),Bool.and_self,cond_true,au (aK ⟨by omega,by omega⟩),au (aK ⟨by omega,by omega⟩),au (cQ (by simp only [List.length_append,List.length_cons,List.length_nil];omega)),w64 (by omega),show (i:Int)+1=((i+1:Nat):Int) by omega,DC hk hG n (i+1) f _ (by omega) (by omega) (by simp;omega),oo _ 250 i (by omega) (by omega),Int.toNat_natCast]
    simp
theorem DD (p:aa) (D:List ai) (W:List (List (List ah))) (x y:Int):∀ (n i f:Nat) (acc:List ax),i+n=min p.Funcs.length 20→n<f→acc.length=i→
    dS p (x,D) (y,W) f ((i:Int),acc)=some ⟨D,W,acc++((p.Funcs.take 20).drop i).map ownF⟩
  | n,i,0,acc,hi,hf,ha=>by omega
  | 0,i,f+1,acc,hi,hf,ha=>by
    rw [dS]
    dsimp only
    have:(iLt (i:Int) (p.Funcs.length:Int)&&iLt (i:Int) 20)=false:=by
      rw [Bool.and_eq_false_iff,bo,bo];omega
    rw [this,cond_false,List.drop_eq_nil_of_le (by rw [List.length_take];omega),List.map_nil,List.append_nil]
  | n+1,i,f+1,acc,hi,hf,ha=>by
    rw [dS]
    dsimp only
    have hN:nIn (i:Int) (p.Funcs.length:Int)=true:=aK ⟨by omega,by omega⟩
    rw [aU (by omega),aU (by omega),Bool.and_self,cond_true,dc,au hN,au hN,oo _ 20 i (by omega) (by omega),List.map_cons]
    have:=DC (p:=p) (k:=i) (G:=acc) (K:=fun s14=>dS p (x,D) (y,W) f (IntKind.i64.wrap ((i:Int)+1),s14)) (by omega) (by omega) (min (p.Funcs.getD i default).Code.length 250) 0 fuel [] (by omega) (by have:=aM;omega) rfl
    refine Eq.trans this ?_
    rw [w64 (by omega),show (i:Int)+1=((i+1:Nat):Int) by omega,DD p D W x y n (i+1) f _ (by omega) (by omega) (by simp;omega)]
    simp [ownF]
theorem Fo (p:aa) (D:List ai) (x:Int):∀ (n i f:Nat) (acc:List (List (List ah))),i+n=min p.Waits.length 40→n<f→acc.length=i→
    fv p (x,D) f ((i:Int),acc)=some ⟨D,acc++((p.Waits.take 40).drop i).map ownW,(p.Funcs.take 20).map ownF⟩
  | n,i,0,acc,hi,hf,ha=>by omega
  | 0,i,f+1,acc,hi,hf,ha=>by
    rw [fv]
    dsimp only
    have:(iLt (i:Int) (p.Waits.length:Int)&&iLt (i:Int) 40)=false:=by
      rw [Bool.and_eq_false_iff,bo,bo];omega
    rw [this,cond_false,List.drop_eq_nil_of_le (by rw [List.length_take];omega),List.map_nil,List.append_nil]
    have h:=DD p D acc x (i:Int) (min p.Funcs.length 20) 0 fuel [] (by omega) (by have:=aM;omega) rfl
    rw [List.drop_zero,List.nil_append] at h
    exact h
  | n+1,i,f+1,acc,hi,hf,ha=>by
    rw [fv]
    dsimp only
    rw [aU (by omega),aU (by omega),Bool.and_self,cond_true,au (aK ⟨by omega,by omega⟩),Int.toNat_natCast,F4,af,au (cQ (by simp only [List.length_append,List.length_cons,List.length_nil];omega)),w64 (by omega),show (i:Int)+1=((i+1:Nat):Int) by omega,Fo p D x n (i+1) f _ (by omega) (by omega) (by simp;omega),oo _ 40 i (by omega) (by omega),List.map_cons]
    simp
theorem Fp (p:aa):∀ (n i f:Nat) (acc:List ai),i+n=min p.Decls.length 40→n<f→acc.length=i→
    fw p f ((i:Int),acc)=some ⟨acc++(p.Decls.take 40).drop i,(p.Waits.take 40).map ownW,(p.Funcs.take 20).map ownF⟩
  | n,i,0,acc,hi,hf,ha=>by omega
  | 0,i,f+1,acc,hi,hf,ha=>by
    rw [fw]
    dsimp only
    have:(iLt (i:Int) (p.Decls.length:Int)&&iLt (i:Int) 40)=false:=by
      rw [Bool.and_eq_false_iff,bo,bo];omega
    rw [this,cond_false,List.drop_eq_nil_of_le (by rw [List.length_take];omega),List.append_nil]
    have h:=Fo p acc (i:Int) (min p.Waits.length 40) 0 fuel [] (by omega) (by have:=aM;omega) rfl
    rw [List.drop_zero,List.nil_append] at h
    exact h
  | n+1,i,f+1,acc,hi,hf,ha=>by
    rw [fw]
    dsimp only
    rw [aU (by omega),aU (by omega),Bool.and_self,cond_true,au (aK ⟨by omega,by omega⟩),Int.toNat_natCast,au (cQ (by simp only [List.length_append,List.length_cons,List.length_nil];omega)),w64 (by omega),show (i:Int)+1=((i+1:Nat):Int) by omega,Fp p n (i+1) f _ (by omega) (by omega) (by simp;omega),oo _ 40 i (by omega) (by omega)]
    simp
theorem F5 (p:aa):j8 p=some (ownP p):=by
  unfold j8
  have h:=Fp p (min p.Decls.length 40) 0 fuel [] (by omega) (by have:=aM;omega) rfl
  rw [List.drop_zero,List.nil_append] at h
  exact h
theorem CQ (p:aa):ownP (ownP p)=ownP p:=by
  unfold ownP
  dsimp only
  congr 1
  · rw [List.take_take,Nat.min_self]
  · rw [List.take_of_length_le (by rw [List.length_map,List.length_take];omega),List.map_map]
    exact List.map_congr_left fun l _=>Ex l
  · rw [List.take_of_length_le (by rw [List.length_map,List.length_take];omega),List.map_map]
    refine List.map_congr_left fun F _=>?_
    show (⟨F.Args,F.Locals,(F.Code.take 250).take 250⟩:ax)=⟨F.Args,F.Locals,F.Code.take 250⟩
    rw [List.take_take,Nat.min_self]
theorem BH {p:aa} (g:lN p):ownP p=p:=by
  obtain ⟨D,W,F⟩:=p
  have g1:=(oh g.decls).1
  have g2:=g.waits
  have g3:=g.funcs
  have g4:=g.fns
  have g0:=g.decls
  dsimp only at*
  unfold ownP
  dsimp only
  congr 1
  · exact List.take_of_length_le (by omega)
  · rw [List.take_of_length_le (by omega)]
    refine Eq.trans (List.map_congr_left (g:=id) fun w hw=>?_) (List.map_id W)
    exact CP (si.of g0 (g2.2 w hw))
  · rw [List.take_of_length_le (by omega)]
    refine Eq.trans (List.map_congr_left (g:=id) fun f hf=>?_) (List.map_id F)
    have:=(g4 f hf).code
    unfold ownF
    rw [List.take_of_length_le (by omega)]
    rfl
end LJ
end
section
namespace LJ
open Go Go.RowKit
set_option linter.unusedVariables false
set_option linter.unusedSimpArgs false
theorem BI (u:Bool) (b s:ByteArray):bc ⟨u,b⟩ s=need (nCap (b.size+s.size)) (some ((s.size:Int),(),(⟨true,b++s⟩:aJ))):=by
  unfold bc cu
  cases u <;> rfl
theorem jv {n:Int} (h0:0≤n) (h:n<18446744073709551616):i7 n=some (bs (numL n.toNat)):=by
  unfold i7
  have:=aL (n:=n.toNat) (by omega)
  rw [wu64 (by omega),jb h0 (by omega) (by simp;omega),af]
  unfold cE
  rw [af]
  exact congrArg some (bQ (by simp))
def putF (F:ax):List UInt8:=numL F.Args.toNat++(numL F.Locals.toNat++(numL F.Code.length++F.Code.flatMap putI))
def pS:List UInt8:=[76,74,1]
def putP (p:aa):List UInt8:=pS++(sc p.Decls++(numL p.Waits.length++(p.Waits.flatMap oi++(numL p.Funcs.length++p.Funcs.flatMap putF))))
theorem m6 {F:ax} (h:sk F):(F.Code.flatMap putI).length≤4200:=by
  have:=jc putI 21 (fun x hx=>tO (lM (h.ins x hx)))
  have:=h.code
  omega
theorem tZ {F:ax} (h:sk F):(putF F).length≤4230:=by
  have:=m6 h
  have ⟨h1,h2,h3,h4⟩:=h
  have:=aL (n:=F.Args.toNat) (by omega)
  have:=aL (n:=F.Locals.toNat) (by omega)
  have:=aL (n:=F.Code.length) (by omega)
  unfold putF
  simp only [List.length_append]
  omega
theorem lN.wait {p:aa} (h:lN p):∀ w∈p.Waits,si w:=fun w hw=>si.of h.decls (h.waits.2 w hw)
theorem yN {p:aa} (h:lN p):(putP p).length≤100000:=by
  have d:=oX h.decls
  have:=ra d.1 d.2.2.2
  have:=jc putF 4230 (fun x hx=>tZ (h.fns x hx))
  have:=jc oi 386 (fun x hx=>rp (h.wait x hx))
  have h1:=h.funcs
  have h2:=h.waits.1
  have:=aL (n:=p.Waits.length) (by omega)
  have:=aL (n:=p.Funcs.length) (by omega)
  unfold putP pS
  simp only [List.length_append,List.length_cons,List.length_nil]
  omega
theorem iA {α:Type} [Inhabited α] (L:List α) (i:Nat) (h:i<L.length):L.getD i default∈L:=by
  rw [List.getD_eq_getElem?_getD,List.getElem?_eq_getElem (by omega)]
  exact List.getElem_mem _
theorem BJ {p:aa} {s:ByteArray×Int} {K:ByteArray→Option ByteArray} {F:ax} (hF:p.Funcs.getD s.2.toNat default=F) (hs:nIn s.2 (p.Funcs.length:Int)=true) (g:sk F):∀ (n i f:Nat) (b:ByteArray),i+n=F.Code.length→n<f→b.size+21*n≤1000000→
    eP p s K f (b,(i:Int))=K (b++bs ((F.Code.drop i).flatMap putI))
  | n,i,0,b,hi,hf,hb=>by omega
  | 0,i,f+1,b,hi,hf,hb=>by
    rw [eP]
    dsimp only
    rw [hF,aX (by omega),cond_false,List.drop_eq_nil_of_le (by omega)]
    congr 1
    apply bQ
    simp
  | n+1,i,f+1,b,hi,hf,hb=>by
    have hx:=g.ins _ (iA F.Code i (by omega))
    have hl:=tO (lM hx)
    have hc:=g.code
    rw [eP]
    dsimp only
    rw [hF,aU (by omega),cond_true,au (aK ⟨by omega,by omega⟩),Int.toNat_natCast,vF hx,af,au (bX (by rw [aN];omega)),w64 (by omega),show (i:Int)+1=((i+1:Nat):Int) by omega]
    rw [BJ hF hs g n (i+1) f _ (by omega) (by omega) (by rw [ByteArray.size_append,aN];omega),bM F.Code i (by omega),List.flatMap_cons]
    congr 1
    apply bQ
    simp
theorem BK {p:aa} (g:lN p):∀ (n i f:Nat) (b:ByteArray),i+n=p.Funcs.length→n<f→b.size+4230*n≤500000→
    dW p f (b,(i:Int))=some (b++bs ((p.Funcs.drop i).flatMap putF))
  | n,i,0,b,hi,hf,hb=>by omega
  | 0,i,f+1,b,hi,hf,hb=>by
    rw [dW]
    dsimp only
    rw [aX (by omega),cond_false,List.drop_eq_nil_of_le (by omega)]
    congr 1
    apply bQ
    simp
  | n+1,i,f+1,b,hi,hf,hb=>by
    have gF:=g.fns _ (iA p.Funcs i (by omega))
    have hl:=tZ gF
    have h4:=m6 gF
    have hfs:=g.funcs
    have hN:nIn (i:Int) (p.Funcs.length:Int)=true:=aK ⟨by omega,by omega⟩
    have ⟨h1,h2,h3,_⟩:=gF
    have l1:=aL (n:=(p.Funcs.getD i default).Args.toNat) (by omega)
    have l2:=aL (n:=(p.Funcs.getD i default).Locals.toNat) (by omega)
    have l3:=aL (n:=(p.Funcs.getD i default).Code.length) (by omega)
    rw [dW]
    dsimp only
    rw [aU (by omega),cond_true,dc,au hN,Int.toNat_natCast,wu64 (by omega),wu64 (by omega),wu64 (by omega),fm (by omega) (by omega),af,au (bX (by rw [aN];omega)),fm (by omega) (by omega),af,au (bX (by simp only [ByteArray.size_append,aN];omega)),fm (by omega) (by omega),af,Int.toNat_natCast,au (bX (by simp only [ByteArray.size_append,aN];omega))]
    have:=BJ (p:=p) (s:=(b,(i:Int))) (K:=fun s17=>dW p f (s17,IntKind.i64.wrap ((i:Int)+1))) (F:=p.Funcs.getD i default) (by rw [Int.toNat_natCast]) hN gF (p.Funcs.getD i default).Code.length 0 fuel (b++bs (numL (p.Funcs.getD i default).Args.toNat)++bs (numL (p.Funcs.getD i default).Locals.toNat)++bs (numL (p.Funcs.getD i default).Code.length)) (by omega) (by have:=aM;omega) (by simp only [ByteArray.size_append,aN];omega)
    refine Eq.trans this ?_
    rw [List.drop_zero]
    rw [w64 (by omega),show (i:Int)+1=((i+1:Nat):Int) by omega,BK g n (i+1) f _ (by omega) (by omega) (by simp only [ByteArray.size_append,aN];omega),bM p.Funcs i (by omega),List.flatMap_cons]
    congr 1
    apply bQ
    simp [putF]
theorem DE {p:aa} (g:lN p):∀ (n i f:Nat) (b:ByteArray),i+n=p.Waits.length→n<f→b.size+386*n≤100000→
    fE p f (b,(i:Int))=some (b++bs ((p.Waits.drop i).flatMap oi++(numL p.Funcs.length++p.Funcs.flatMap putF)))
  | n,i,0,b,hi,hf,hb=>by omega
  | 0,i,f+1,b,hi,hf,hb=>by
    have hfs:=g.funcs
    have l1:=aL (n:=p.Funcs.length) (by omega)
    rw [fE]
    dsimp only
    rw [aX (by omega),cond_false,wu64 (by omega),fm (by omega) (by omega),af,Int.toNat_natCast,au (bX (by simp only [ByteArray.size_append,aN];omega)),List.drop_eq_nil_of_le (by omega),show (0:Int)=((0:Nat):Int) from rfl]
    rw [BK g p.Funcs.length 0 fuel _ (by omega) (by have:=aM;omega) (by simp only [ByteArray.size_append,aN];omega),List.drop_zero]
    congr 1
    apply bQ
    simp
  | n+1,i,f+1,b,hi,hf,hb=>by
    have hm:=iA p.Waits i (by omega)
    have hx:=g.waits.2 _ hm
    have hl:=rp (g.wait _ hm)
    have hws:=g.waits.1
    rw [fE]
    dsimp only
    rw [aU (by omega),cond_true,au (aK ⟨by omega,by omega⟩),Int.toNat_natCast,vK g.decls hx,af,au (bX (by rw [aN];omega)),w64 (by omega),show (i:Int)+1=((i+1:Nat):Int) by omega]
    rw [DE g n (i+1) f _ (by omega) (by omega) (by rw [ByteArray.size_append,aN];omega),bM p.Waits i (by omega),List.flatMap_cons]
    congr 1
    apply bQ
    simp
theorem vN {p:aa} (h:chkP p=0):lD p=some (bs (putP p)):=by
  have g:=lN.of h
  have d:=oX g.decls
  have hd:=ra d.1 d.2.2.2
  have hw:=g.waits.1
  have l1:=aL (n:=p.Waits.length) (by omega)
  have h3:(⟨#[76,74,1]⟩:ByteArray)=bs [76,74,1]:=rfl
  unfold lD
  rw [vz g.decls,af,h3,au (bX (by simp only [ByteArray.size_append,aN,List.length_cons,List.length_nil];omega)),wu64 (by omega),fm (by omega) (by omega),af,Int.toNat_natCast,au (bX (by simp only [ByteArray.size_append,aN,List.length_cons,List.length_nil];omega)),show (0:Int)=((0:Nat):Int) from rfl]
  rw [DE g p.Waits.length 0 fuel _ (by omega) (by have:=aM;omega) (by simp only [ByteArray.size_append,aN,List.length_cons,List.length_nil];omega),List.drop_zero]
  congr 1
  apply bQ
  simp [putP,pS]
theorem BL {p:aa} {s:Int×Bool×ByteArray} {K:(Bool×ByteArray)→Option (ByteArray×Int)} {F:ax} (hF:p.Funcs.getD s.1.toNat default=F) (g:sk F):∀ (n i f:Nat) (u:Bool) (b:ByteArray),i+n=F.Code.length→n<f→b.size+21*n≤1000000→
    ∃ u',fD p s K f ((i:Int),u,b)=K (u',b++bs ((F.Code.drop i).flatMap putI))
  | n,i,0,u,b,hi,hf,hb=>by omega
  | 0,i,f+1,u,b,hi,hf,hb=>by
    refine ⟨u,?_⟩
    rw [fD]
    dsimp only
    rw [hF,aX (by omega),cond_false,List.drop_eq_nil_of_le (by omega)]
    congr 2
    apply bQ
    simp
  | n+1,i,f+1,u,b,hi,hf,hb=>by
    have hx:=g.ins _ (iA F.Code i (by omega))
    have hl:=tO (lM hx)
    have hc:=g.code
    rw [fD]
    dsimp only
    rw [hF,aU (by omega),cond_true,au (aK ⟨by omega,by omega⟩),Int.toNat_natCast,zB hx,af,BI,au (cQ (by rw [aN];omega)),af,w64 (by omega),show (i:Int)+1=((i+1:Nat):Int) by omega]
    obtain ⟨u',hu⟩:=BL (p:=p) (s:=s) (K:=K) hF g n (i+1) f true (b++bs (putI (F.Code.getD i default))) (by omega) (by omega) (by rw [ByteArray.size_append,aN];omega)
    refine ⟨u',Eq.trans hu ?_⟩
    rw [bM F.Code i (by omega),List.flatMap_cons]
    congr 2
    apply bQ
    simp
theorem BM {p:aa} (g:lN p):∀ (n i f:Nat) (u:Bool) (b:ByteArray),i+n=p.Funcs.length→n<f→b.size+4230*n≤500000→
    dx p f ((i:Int),u,b)=some (b++bs ((p.Funcs.drop i).flatMap putF),0)
  | n,i,0,u,b,hi,hf,hb=>by omega
  | 0,i,f+1,u,b,hi,hf,hb=>by
    rw [dx]
    unfold cS
    dsimp only
    rw [aX (by omega),cond_false,List.drop_eq_nil_of_le (by omega),af]
    congr 2
    apply bQ
    simp
  | n+1,i,f+1,u,b,hi,hf,hb=>by
    have gF:=g.fns _ (iA p.Funcs i (by omega))
    have hl:=tZ gF
    have h4:=m6 gF
    have hfs:=g.funcs
    have hN:nIn (i:Int) (p.Funcs.length:Int)=true:=aK ⟨by omega,by omega⟩
    have ⟨h1,h2,h3,_⟩:=gF
    have l1:=aL (n:=(p.Funcs.getD i default).Args.toNat) (by omega)
    have l2:=aL (n:=(p.Funcs.getD i default).Locals.toNat) (by omega)
    have l3:=aL (n:=(p.Funcs.getD i default).Code.length) (by omega)
    rw [dx]
    dsimp only
    rw [aU (by omega),cond_true,dc,au hN,Int.toNat_natCast,jv (by omega) (by omega),af,jv (by omega) (by omega),af,au (bX (by simp only [ByteArray.size_append,aN];omega)),jv (by omega) (by omega),af,Int.toNat_natCast,au (bX (by simp only [ByteArray.size_append,aN];omega)),BI,au (cQ (by simp only [ByteArray.size_append,aN];omega)),af]
    obtain ⟨u',hu⟩:=BL (p:=p) (s:=((i:Int),u,b)) (K:=fun s20=>dx p f (IntKind.i64.wrap ((i:Int)+1),s20.1,s20.2)) (F:=p.Funcs.getD i default) (by rw [Int.toNat_natCast]) gF (p.Funcs.getD i default).Code.length 0 fuel true (b++(bs (numL (p.Funcs.getD i default).Args.toNat)++bs (numL (p.Funcs.getD i default).Locals.toNat)++bs (numL (p.Funcs.getD i default).Code.length))) (by omega) (by have:=aM;omega) (by simp only [ByteArray.size_append,aN];omega)
    refine Eq.trans hu ?_
    rw [List.drop_zero]
    dsimp only
    rw [w64 (by omega),show (i:Int)+1=((i+1:Nat):Int) by omega,BM g n (i+1) f u' _ (by omega) (by omega) (by simp only [ByteArray.size_append,aN];omega),bM p.Funcs i (by omega),List.flatMap_cons]
    congr 2
    apply bQ
    simp [putF]
theorem DF {p:aa} (g:lN p):∀ (n i f:Nat) (u:Bool) (b:ByteArray),i+n=p.Waits.length→n<f→b.size+386*n≤100000→
    eN p f ((i:Int),u,b)=some (b++bs ((p.Waits.drop i).flatMap oi++(numL p.Funcs.length++p.Funcs.flatMap putF)),0)
  | n,i,0,u,b,hi,hf,hb=>by omega
  | 0,i,f+1,u,b,hi,hf,hb=>by
    have hfs:=g.funcs
    have l1:=aL (n:=p.Funcs.length) (by omega)
    rw [eN]
    dsimp only
    rw [aX (by omega),cond_false,jv (by omega) (by omega),af,Int.toNat_natCast,BI,au (cQ (by simp only [ByteArray.size_append,aN];omega)),af,List.drop_eq_nil_of_le (by omega),show dx p fuel (0,_)=dx p fuel (((0:Nat):Int),_) from rfl]
    rw [BM g p.Funcs.length 0 fuel _ _ (by omega) (by have:=aM;omega) (by simp only [ByteArray.size_append,aN];omega),List.drop_zero]
    congr 2
    apply bQ
    simp
  | n+1,i,f+1,u,b,hi,hf,hb=>by
    have hm:=iA p.Waits i (by omega)
    have hx:=g.waits.2 _ hm
    have hl:=rp (g.wait _ hm)
    have hws:=g.waits.1
    rw [eN]
    dsimp only
    rw [aU (by omega),cond_true,au (aK ⟨by omega,by omega⟩),Int.toNat_natCast,xn g.decls hx,af,BI,au (cQ (by rw [aN];omega)),af,w64 (by omega),show (i:Int)+1=((i+1:Nat):Int) by omega]
    rw [DF g n (i+1) f true _ (by omega) (by omega) (by rw [ByteArray.size_append,aN];omega),bM p.Waits i (by omega),List.flatMap_cons]
    congr 2
    apply bQ
    simp
theorem xq {p:aa} (h:chkP p=0):nX p=some (bs (putP p),0):=by
  have g:=lN.of h
  have d:=oX g.decls
  have hd:=ra d.1 d.2.2.2
  have hw:=g.waits.1
  have l1:=aL (n:=p.Waits.length) (by omega)
  have h3:(⟨#[76,74,1]⟩:ByteArray)=bs [76,74,1]:=rfl
  unfold nX
  rw [kO,af,bH h,cond_false,wY g.decls,af,h3,au (bX (by simp only [ByteArray.size_append,aN,List.length_cons,List.length_nil];omega)),jv (by omega) (by omega),af,Int.toNat_natCast,au (bX (by simp only [ByteArray.size_append,aN,List.length_cons,List.length_nil];omega)),BI,au (cQ (by simp only [ByteArray.size_append,aN,ByteArray.size_empty,List.length_cons,List.length_nil];omega)),af,show eN p fuel (0,_)=eN p fuel (((0:Nat):Int),_) from rfl]
  rw [DF g p.Waits.length 0 fuel _ _ (by omega) (by have:=aM;omega) (by simp only [ByteArray.size_append,aN,ByteArray.size_empty,List.length_cons,List.length_nil];omega),List.drop_zero]
  congr 2
  apply bQ
  simp [putP,pS]
end LJ
end
section
namespace LJ
open Go Go.RowKit
set_option linter.unusedVariables false
set_option linter.unusedSimpArgs false
def sb {α β:Type} (x:Int ⊕ α) (k:α→Int ⊕ β):Int ⊕ β:=match x with
  | .inl e=> .inl e
  | .inr y=>k y
theorem kY {α β:Type} (e:Int) (k:α→Int ⊕ β):sb (.inl e:Int ⊕ α) k= .inl e:=rfl
theorem dH {α β:Type} (y:α) (k:α→Int ⊕ β):sb (.inr y:Int ⊕ α) k=k y:=rfl
theorem CR {α β γ:Type} (x:Int ⊕ α) (f:α→Int ⊕ β) (g:β→Int ⊕ γ):sb (sb x f) g=sb x fun y=>sb (f y) g:=by cases x <;> rfl
theorem fU {α β:Type} {x:Int ⊕ α} {k:α→Int ⊕ β} {z:β} (h:sb x k= .inr z):∃ y,x= .inr y∧k y= .inr z:=by
  cases x with
  | inl e=>cases h
  | inr y=>exact ⟨y,rfl,h⟩
theorem oq {α β:Type} (e:Int) (k:β→Option (Int ⊕ α)):mE (.inl e:Int ⊕ β) k=some (.inl e):=rfl
theorem eY {α β:Type} (y:β) (k:β→Option (Int ⊕ α)):mE (.inr y:Int ⊕ β) k=k y:=rfl
def two {α:Type} (r:α×Int×List UInt8):Int ⊕ (α×List UInt8):=cond (iEq r.2.1 0) (.inr (r.1,r.2.2)) (.inl r.2.1)
theorem kZ {α:Type} {r:α×Int×List UInt8} (h:r.2.1=0):two r= .inr (r.1,r.2.2):=by unfold two;rw [bd h,cond_true]
theorem iX {α:Type} {r:α×Int×List UInt8} (h:r.2.1≠0):two r= .inl r.2.1:=by unfold two;rw [aP h,cond_false]
theorem gk {α:Type} {r:α×Int×List UInt8} {y:α×List UInt8} (h:two r= .inr y):r.2.1=0∧y=(r.1,r.2.2):=by
  by_cases h0:r.2.1=0
  · rw [kZ h0] at h;exact ⟨h0,(Sum.inr.inj h).symm⟩
  · rw [iX h0] at h;cases h
theorem ua {α:Type} {r:α×Int×List UInt8} {e:Int} (h:two r= .inl e):r.2.1=e∧e≠0:=by
  by_cases h0:r.2.1=0
  · rw [kZ h0] at h;cases h
  · rw [iX h0] at h;have:=Sum.inl.inj h;exact ⟨this,this ▸h0⟩
def numP (l:List UInt8):Int ⊕ (Nat×List UInt8):=two ((rdN l 0).2.1,(rdN l 0).1,(rdN l 0).2.2)
def ot (m:Nat) (l:List UInt8):Int ⊕ (Nat×List UInt8):=sb (numP l) fun r=>cond (iLt (m:Int) (r.1:Int)) (.inl 4) (.inr r)
def gI (l:List UInt8):Int ⊕ (ar×List UInt8):=two (getI l)
def gW (D:List ai) (l:List UInt8):Int ⊕ (List (List ah)×List UInt8):=two (om D l)
def gD (l:List UInt8):Int ⊕ (List ai×List UInt8):=two (ld l)
def repP {α:Type} (g:List UInt8→Int ⊕ (α×List UInt8)):Nat→List UInt8→List α→Int ⊕ (List α×List UInt8)
  | 0,l,acc=> .inr (acc,l)
  | n+1,l,acc=>sb (g l) fun r=>repP g n r.2 (acc++[r.1])
def cap (n:Nat):Int:=((min n 2147483648:Nat):Int)
def fnP (l:List UInt8):Int ⊕ (ax×List UInt8):=sb (numP l) fun a=>sb (numP a.2) fun b=>sb (ot 200 b.2) fun n=>sb (repP gI n.1 n.2 []) fun c=> .inr (⟨cap a.1,cap b.1,c.1⟩,c.2)
def BN {β:Type} (K:aa×List UInt8→Int ⊕ β) (l:List UInt8):Int ⊕ β:=sb (gD l) fun d=>sb (ot 32 d.2) fun n=>sb (repP (gW d.1) n.1 n.2 []) fun w=>sb (ot 16 w.2) fun m=>sb (repP fnP m.1 m.2 []) fun f=>K (⟨d.1,w.1,f.1⟩,f.2)
def xr (l:List UInt8):Int ⊕ (aa×List UInt8):=BN (fun r=> .inr r) l
theorem CS {β:Type} (K:aa×List UInt8→Int ⊕ β) (l:List UInt8):BN K l=sb (xr l) K:=by
  unfold xr BN
  simp only [CR,dH]
def noP:aa:=⟨[],[],[]⟩
def clP (r:aa×List UInt8):Int ⊕ aa:=cond (iEq (r.2.length:Int) 0) (cond (iEq (chkP r.1) 0) (.inr r.1) (.inl (chkP r.1))) (.inl 2)
def outP:Int ⊕ aa→aa×Int
  | .inl e=>(noP,e)
  | .inr p=>(p,0)
def getP (l:List UInt8):aa×Int:=cond (sEq (bs (l.take 3)) (bs pS)) (outP (sb (xr (l.drop 3)) clP)) (noP,2)
def Suf {α:Type} (l:List UInt8) (x:Int ⊕ (α×List UInt8)):Prop:=∀ r,x= .inr r→r.2<:+l
theorem Suf.num (l:List UInt8):Suf l (numP l):=fun r h=>by
  obtain ⟨h1,rfl⟩:=gk h
  dsimp only at h1 ⊢
  have:=(eV h1).1
  exact ⟨_,this.symm⟩
theorem Suf.many (m:Nat) (l:List UInt8):Suf l (ot m l):=fun r h=>by
  obtain ⟨y,h1,h2⟩:=fU h
  cases hc:iLt (m:Int) (y.1:Int) with
  | true=>rw [hc] at h2;cases h2
  | false=>rw [hc] at h2;cases h2;exact Suf.num l _ h1
theorem Suf.ins (l:List UInt8):Suf l (gI l):=fun r h=>by
  obtain ⟨h1,rfl⟩:=gk h
  exact ⟨_,(yI h1).2.symm⟩
theorem Suf.wait {D:List ai} (hD:(chkL D).2=0) (l:List UInt8):Suf l (gW D l):=fun r h=>by
  obtain ⟨h1,rfl⟩:=gk h
  exact ⟨_,(vM hD h1).2.symm⟩
theorem Suf.decl (l:List UInt8):Suf l (gD l):=fun r h=>by
  obtain ⟨h1,rfl⟩:=gk h
  exact ⟨_,(rh h1).2.symm⟩
theorem DG {l:List UInt8} {r:List ai×List UInt8} (h:gD l= .inr r):(chkL r.1).2=0:=by
  obtain ⟨h1,rfl⟩:=gk h
  exact (rh h1).1
theorem Suf.rep {α:Type} {g:List UInt8→Int ⊕ (α×List UInt8)} (hg:∀ l,Suf l (g l)):∀ (n:Nat) (l:List UInt8) (acc:List α),Suf l (repP g n l acc)
  | 0,l,acc=>fun r h=>by cases h;exact List.suffix_refl _
  | n+1,l,acc=>fun r h=>by
    obtain ⟨y,h1,h2⟩:=fU h
    exact (Suf.rep hg n y.2 _ r h2).trans (hg l y h1)
theorem Suf.fn (l:List UInt8):Suf l (fnP l):=fun r h=>by
  obtain ⟨a,h1,h⟩:=fU h
  obtain ⟨b,h2,h⟩:=fU h
  obtain ⟨n,h3,h⟩:=fU h
  obtain ⟨c,h4,h⟩:=fU h
  cases h
  exact (Suf.rep Suf.ins _ _ _ _ h4).trans ((Suf.many _ _ _ h3).trans ((Suf.num _ _ h2).trans (Suf.num _ _ h1)))
theorem kP {m:Nat} {l:List UInt8} {r:Nat×List UInt8} (h:ot m l= .inr r):r.1≤m∧numP l= .inr r:=by
  obtain ⟨y,h1,h2⟩:=fU h
  cases hc:iLt (m:Int) (y.1:Int) with
  | true=>rw [hc] at h2;cases h2
  | false=>rw [hc] at h2;cases h2;rw [bo] at hc;exact ⟨by omega,h1⟩
def lf {α β:Type} (f:α→β):Int ⊕ (α×List UInt8)→Int ⊕ (β×aw)
  | .inl e=> .inl e
  | .inr r=> .inr (f r.1,⟨bs r.2⟩)
theorem ry {α β:Type} (f:α→β) (r:α×List UInt8):lf f (.inr r)= .inr (f r.1,⟨bs r.2⟩):=rfl
theorem ub {l t:List UInt8} (h:t<:+l) {n:Int} (hn:n=(l.length:Int) - t.length) {e:Int} (he:e=0):bI ⟨bs l⟩ n e=some (.inr ⟨bs t⟩):=by
  have hl:=h.length_le
  unfold bI
  rw [bH he,cond_false]
  dsimp only
  rw [au (yr (by rw [aN];omega))]
  congr 3
  apply bQ
  rw [ic,gC,gC,aN,List.take_length,show n.toNat=l.length - t.length by omega]
  obtain ⟨p,rfl⟩:=h
  rw [List.length_append,show p.length+t.length - t.length=p.length by omega,List.drop_left]
theorem qv {r:aw} {n e:Int} (h:e≠0):bI r n e=some (.inl e):=by
  unfold bI
  rw [b8 h,cond_true]
theorem o3 {l:List UInt8} (hl:l.length≤9007199254740992):cv ⟨bs l⟩=some (lf cap (numP l)):=by
  have h0:RdOK (bs l) l 0:=⟨by rw [gC];exact List.suffix_refl _,fun h=>absurd rfl h⟩
  have hs:(bs l).size≤9007199254740992:=by rw [aN];omega
  have hr:=h0.num.suf
  rw [gC] at hr
  have hr':=hr.length_le
  unfold cv
  rw [qX,af,gC,fj hs h0,af]
  dsimp only
  rw [qZ hs h0.num,af,bN,af,aN,w64 (by omega),BA (qY l 0)]
  by_cases he:(rdN l 0).1=0
  · rw [ub hr rfl he,af,eY,numP,kZ he]
    rfl
  · rw [qv he,af,oq,numP,iX he]
    rfl
theorem m7 {m:Nat} (hm:m≤1000) {l:List UInt8} (hl:l.length≤9007199254740992):cb ⟨bs l⟩ (m:Int)=some (lf (fun n:Nat=>(n:Int)) (ot m l)):=by
  unfold cb ot
  rw [o3 hl,af]
  cases hn:numP l with
  | inl e=>rfl
  | inr r=>
    rw [dH,ry,eY]
    dsimp only
    unfold cap
    by_cases h:m<r.1
    · rw [aU (by omega),aU (by omega)];rfl
    · rw [aX (by omega),aX (by omega),show min r.1 2147483648=r.1 by omega];rfl
theorem vO (x1 x2 x3:Int×aw) {N:Nat} (hN:x3.1=(N:Int)) (hN2:N≤200):∀ (n i f:Nat) (l:List UInt8) (acc:List ar),i+n=N→n<f→acc.length=i→l.length≤9007199254740992→
    bO x1 x2 x3 f ((i:Int),bs l,acc)=some (lf (fun c=>⟨x1.1,x2.1,c⟩) (repP gI n l acc))
  | n,i,0,l,acc,hi,hf,ha,hl=>by omega
  | 0,i,f+1,l,acc,hi,hf,ha,hl=>by
    rw [bO]
    dsimp only
    rw [hN,aX (by omega),cond_false]
    rfl
  | n+1,i,f+1,l,acc,hi,hf,ha,hl=>by
    rw [bO]
    dsimp only
    rw [hN,aU (by omega),cond_true,zC (by rw [aN];omega),gC,outI,af]
    dsimp only
    rw [repP]
    by_cases he:(getI l).2.1=0
    · have hg:gI l= .inr ((getI l).1,(getI l).2.2):=kZ he
      have hs:=Suf.ins l _ hg
      have hs':=hs.length_le
      dsimp only at hs hs'
      rw [bd he,cond_true,ub hs (by rw [aN]) he,af,eY,au (cQ (by simp only [List.length_cons,List.length_nil];omega)),w64 (by omega),show (i:Int)+1=((i+1:Nat):Int) by omega,hg,dH]
      exact vO x1 x2 x3 hN hN2 n (i+1) f _ _ (by omega) (by omega) (by simp;omega) (by omega)
    · rw [qv he,af,oq,gI,iX he,kY]
      rfl
theorem BO {l:List UInt8} (hl:l.length≤9007199254740992):bW ⟨bs l⟩=some (lf id (fnP l)):=by
  unfold bW fnP
  rw [o3 hl,af]
  cases h1:numP l with
  | inl e=>rfl
  | inr a=>
    have s1:=(Suf.num l _ h1).length_le
    rw [dH,ry,eY]
    dsimp only
    rw [o3 (by omega),af]
    cases h2:numP a.2 with
    | inl e=>rfl
    | inr b=>
      have s2:=(Suf.num _ _ h2).length_le
      rw [dH,ry,eY]
      dsimp only
      rw [show (200:Int)=((200:Nat):Int) from rfl,m7 (by omega) (by omega),af]
      cases h3:ot 200 b.2 with
      | inl e=>rfl
      | inr n=>
        have s3:=(Suf.many _ _ _ h3).length_le
        have hn:=(kP h3).1
        rw [dH,ry,eY]
        have:=vO (cap a.1,⟨bs a.2⟩) (cap b.1,⟨bs b.2⟩) ((n.1:Int),⟨bs n.2⟩) (N:=n.1) rfl hn n.1 0 fuel n.2 [] (by omega) (by have:=aM;omega) rfl (by omega)
        refine Eq.trans this ?_
        cases repP gI n.1 n.2 [] <;> rfl
def fin (r:aa×List UInt8):Int ⊕ (aa×aw):=cond (iEq (r.2.length:Int) 0) (.inr (r.1,⟨bs r.2⟩)) (.inl 2)
theorem BP (l:List UInt8):sEq (bs l) ByteArray.empty=iEq (l.length:Int) 0:=by
  cases l with
  | nil=>exact (zq rfl).trans (bd rfl).symm
  | cons b t=>
    rw [aP (by simp only [List.length_cons];omega)]
    refine Cu fun h=>?_
    have:=congrArg ByteArray.size h
    rw [aN] at this
    simp at this
theorem sY (x1:(List ai)×Int×Int) (s5:Int×ByteArray×(List (List (List ah)))) (x10:Int×aw) {N:Nat} (hN:x10.1=(N:Int)) (hN2:N≤16):∀ (n i f:Nat) (l:List UInt8) (acc:List ax),i+n=N→n<f→acc.length=i→l.length≤9007199254740992→
    bP x1 s5 x10 f ((i:Int),bs l,acc)=some (sb (repP fnP n l acc) fun r=>fin (⟨x1.1,s5.2.2,r.1⟩,r.2))
  | n,i,0,l,acc,hi,hf,ha,hl=>by omega
  | 0,i,f+1,l,acc,hi,hf,ha,hl=>by
    rw [bP]
    dsimp only
    rw [hN,aX (by omega),cond_false,BP,repP,dH]
    unfold fin
    dsimp only
    cases iEq (l.length:Int) 0 <;> rfl
  | n+1,i,f+1,l,acc,hi,hf,ha,hl=>by
    rw [bP]
    dsimp only
    rw [hN,aU (by omega),cond_true,BO hl,af,repP,CR]
    cases h1:fnP l with
    | inl e=>rfl
    | inr r=>
      have s1:=(Suf.fn l _ h1).length_le
      rw [ry,eY,dH]
      dsimp only
      rw [au (cQ (by simp only [List.length_cons,List.length_nil];omega)),w64 (by omega),show (i:Int)+1=((i+1:Nat):Int) by omega]
      exact sY x1 s5 x10 hN hN2 n (i+1) f _ _ (by omega) (by omega) (by simp;omega) (by omega)
theorem sZ (x1:(List ai)×Int×Int) (hD:(chkL x1.1).2=0) (x3:Int×aw) {N:Nat} (hN:x3.1=(N:Int)) (hN2:N≤32):∀ (n i f:Nat) (l:List UInt8) (acc:List (List (List ah))),i+n=N→n<f→acc.length=i→l.length≤9007199254740992→
    bZ x1 x3 f ((i:Int),bs l,acc)=some (sb (repP (gW x1.1) n l acc) fun w=>sb (ot 16 w.2) fun m=>sb (repP fnP m.1 m.2 []) fun r=>fin (⟨x1.1,w.1,r.1⟩,r.2))
  | n,i,0,l,acc,hi,hf,ha,hl=>by omega
  | 0,i,f+1,l,acc,hi,hf,ha,hl=>by
    rw [bZ]
    dsimp only
    rw [hN,aX (by omega),cond_false,show (16:Int)=((16:Nat):Int) from rfl,m7 (by omega) hl,af,repP,dH]
    dsimp only
    cases h1:ot 16 l with
    | inl e=>rfl
    | inr m=>
      have s1:=(Suf.many _ _ _ h1).length_le
      have hm:=(kP h1).1
      rw [ry,eY,dH]
      exact sY x1 ((i:Int),bs l,acc) ((m.1:Int),⟨bs m.2⟩) (N:=m.1) rfl hm m.1 0 fuel m.2 [] (by omega) (by have:=aM;omega) rfl (by omega)
  | n+1,i,f+1,l,acc,hi,hf,ha,hl=>by
    rw [bZ]
    dsimp only
    rw [hN,aU (by omega),cond_true,xp (oh hD).1 (by rw [aN];omega),af,gC]
    dsimp only
    rw [repP,CR]
    by_cases he:(om x1.1 l).2.1=0
    · have hg:gW x1.1 l= .inr ((om x1.1 l).1,(om x1.1 l).2.2):=kZ he
      have hs:=Suf.wait hD l _ hg
      have hs':=hs.length_le
      dsimp only at hs hs'
      rw [bd he,cond_true,ub hs (by rw [aN]) he,af,eY,au (cQ (by simp only [List.length_cons,List.length_nil];omega)),w64 (by omega),show (i:Int)+1=((i+1:Nat):Int) by omega,hg,dH]
      exact sZ x1 hD x3 hN hN2 n (i+1) f _ _ (by omega) (by omega) (by simp;omega) (by omega)
    · rw [qv he,af,oq,gW,iX he,kY]
theorem sm {l:List UInt8} (hl:l.length≤9007199254740992):b9 ⟨bs l⟩=some (BN fin l):=by
  unfold b9 BN
  dsimp only
  rw [wZ (by rw [aN];omega),af,gC]
  dsimp only
  by_cases he:(ld l).2.1=0
  · have hg:gD l= .inr ((ld l).1,(ld l).2.2):=kZ he
    have hD:=DG hg
    have hs:=Suf.decl l _ hg
    have hs':=hs.length_le
    dsimp only at hs hs' hD
    rw [bd he,cond_true,ub hs (by rw [aN]) he,af,eY,hg,dH,show (32:Int)=((32:Nat):Int) from rfl,m7 (by omega) (by omega),af]
    dsimp only
    cases h1:ot 32 (ld l).2.2 with
    | inl e=>rfl
    | inr n=>
      have s1:=(Suf.many _ _ _ h1).length_le
      have hm:=(kP h1).1
      rw [ry,eY,dH]
      exact sZ ((ld l).1,((bs l).size:Int) - (ld l).2.2.length,(ld l).2.1) hD ((n.1:Int),⟨bs n.2⟩) (N:=n.1) rfl hm n.1 0 fuel n.2 [] (by omega) (by have:=aM;omega) rfl (by omega)
  · rw [qv he,af,oq,gD,iX he,kY]
theorem xt {s:ByteArray} (hs:s.size≤9007199254740992):n3 s=some (getP (bl s)):=by
  have h3:(⟨#[76,74,1]⟩:ByteArray)=bs pS:=rfl
  have h3s:(bs pS).size=3:=rfl
  unfold n3 mm fO cj getP
  rw [h3,h3s]
  by_cases hl:3≤s.size
  · have hx:s.extract 0 ((3:Nat):Int).toNat=bs ((bl s).take 3):=by
      apply bQ
      rw [ic,gC,Int.toNat_natCast,List.drop_zero]
    rw [iU (by omega),yr (by omega)]
    simp only [Bool.not_true,Bool.false_or]
    rw [au rfl,af,af,hx,Bool.true_and]
    cases hc:sEq (bs ((bl s).take 3)) (bs pS) with
    | false=>rfl
    | true=>
      have he:s.extract (3:Int).toNat s.size=bs ((bl s).drop 3):=by
        apply bQ
        rw [ic,gC,←jl,List.take_length]
        rfl
      rw [Bool.not_true,cond_false,cond_true,au (yr (by omega)),he,sm (by rw [List.length_drop,jl];omega),af,CS]
      cases xr ((bl s).drop 3) with
      | inl e=>rfl
      | inr r=>
        rw [dH,dH]
        unfold fin clP
        cases iEq (r.2.length:Int) 0 with
        | false=>rfl
        | true=>
          rw [cond_true,cond_true,eY]
          dsimp only
          rw [kO,af]
          by_cases hk:chkP r.1=0
          · rw [bH hk,bd hk];rfl
          · rw [b8 hk,aP hk];rfl
  · have hc:sEq (bs ((bl s).take 3)) (bs pS)=false:=Cu fun h=>by
      have:=congrArg ByteArray.size h
      rw [aN,h3s,List.length_take,jl] at this
      omega
    rw [j3 (by omega),hc]
    rfl
end LJ
end
section
namespace LJ
open Go Go.RowKit
set_option linter.unusedVariables false
set_option linter.unusedSimpArgs false
def RdS {α β:Type} (s:ByteArray) (f:α→β) (x:Int ⊕ (α×List UInt8)) (z:Option (β×aA×Int)):Prop:=match x with
  | .inl e=>e≠0∧∃ a R,z=some (a,R,e)
  | .inr r=>r.2<:+bl s∧z=some (f r.1,mkR s r.2 0,0)
end LJ
end
section
namespace LJ
open Go Go.RowKit
set_option linter.unusedVariables false
set_option linter.unusedSimpArgs false
def BQ (p:aa):List UInt8:=sc p.Decls++(numL p.Waits.length++(p.Waits.flatMap oi++(numL p.Funcs.length++p.Funcs.flatMap putF)))
theorem Ey (p:aa):putP p=pS++BQ p:=rfl
theorem qw {α:Type} {g:List UInt8→Int ⊕ (α×List UInt8)} {put:α→List UInt8} {P:α→Prop} (hg:∀ l x t,g l= .inr (x,t)→P x→l=put x++t):∀ (n:Nat) (l:List UInt8) (acc r:List α) (t:List UInt8),repP g n l acc= .inr (r,t)→(∀ x∈r,P x)→∃ L,r=acc++L∧L.length=n∧l=L.flatMap put++t
  | 0,l,acc,r,t,h,hP=>by
    cases h
    exact ⟨[],by simp,rfl,rfl⟩
  | n+1,l,acc,r,t,h,hP=>by
    obtain ⟨⟨x,l'⟩,h1,h2⟩:=fU h
    obtain ⟨L,e1,e2,e3⟩:=qw hg n _ _ _ _ h2 hP
    have hx:P x:=hP x (by rw [e1];simp)
    refine ⟨x::L,by rw [e1];simp,by rw [List.length_cons,e2],?_⟩
    rw [hg _ _ _ h1 hx,List.flatMap_cons,List.append_assoc]
    exact congrArg _ e3
theorem iB {l:List UInt8} {r:Nat×List UInt8} (h:numP l= .inr r):l=numL r.1++r.2:=by
  obtain ⟨h1,rfl⟩:=gk h
  exact (eV h1).1
theorem Ez (l:List UInt8) (F:ax) (t:List UInt8) (h:fnP l= .inr (F,t)) (g:sk F):l=putF F++t:=by
  obtain ⟨a,h1,h⟩:=fU h
  obtain ⟨b,h2,h⟩:=fU h
  obtain ⟨n,h3,h⟩:=fU h
  obtain ⟨⟨c,t'⟩,h4,h⟩:=fU h
  cases h
  have ⟨g1,g2,g3,g4⟩:=g
  dsimp only at*
  obtain ⟨L,e1,e2,e3⟩:=qw (g:=gI) (put:=putI) (P:=fun _=>True) (fun l x t hh _=>by
    obtain ⟨k1,k2⟩:=gk hh
    cases k2
    exact (yI k1).2) _ _ _ _ _ h4 (fun _ _=>trivial)
  rw [List.nil_append] at e1
  subst e1
  unfold cap at g1 g2
  unfold putF cap
  dsimp only
  rw [iB h1,iB h2,iB (kP h3).2,e3,←e2,show ((min a.1 2147483648:Nat):Int).toNat=a.1 by omega,show ((min b.1 2147483648:Nat):Int).toNat=b.1 by omega]
  simp only [List.append_assoc]
theorem BR {l:List UInt8} {p:aa} {t:List UInt8} (h:xr l= .inr (p,t)) (g:lN p):l=BQ p++t:=by
  obtain ⟨⟨d,l1⟩,h1,h⟩:=fU h
  obtain ⟨n,h2,h⟩:=fU h
  obtain ⟨⟨w,l3⟩,h3,h⟩:=fU h
  obtain ⟨m,h4,h⟩:=fU h
  obtain ⟨⟨f,l5⟩,h5,h⟩:=fU h
  cases h
  have ⟨g1,g2,g3,g4⟩:=g
  dsimp only at*
  have hD:=DG h1
  obtain ⟨k1,k2⟩:=gk h1
  cases k2
  have e1:=(rh k1).2
  obtain ⟨W,w1,w2,w3⟩:=qw (g:=gW _) (put:=oi) (P:=fun _=>True) (fun l x t hh _=>by
    obtain ⟨k1,k2⟩:=gk hh
    cases k2
    exact (vM hD k1).2) _ _ _ _ _ h3 (fun _ _=>trivial)
  obtain ⟨F,f1,f2,f3⟩:=qw (g:=fnP) (put:=putF) (P:=sk) (fun l x t hh hx=>Ez l x t hh hx) _ _ _ _ _ h5 g4
  rw [List.nil_append] at w1 f1
  subst w1 f1
  unfold BQ
  dsimp only
  rw [w2,f2]
  have e2:=iB (kP h2).2
  have e4:=iB (kP h4).2
  simp only [List.append_assoc]
  rw [←f3,←e4,←w3,←e2]
  exact e1
def NZ {α:Type} (x:Int ⊕ α):Prop:=∀ e,x= .inl e→e≠0
theorem NZ.two {α:Type} (r:α×Int×List UInt8):NZ (two r):=fun e h=>(ua h).2
theorem NZ.inr {α:Type} (y:α):NZ (.inr y:Int ⊕ α):=fun e h=>by cases h
theorem NZ.sb {α β:Type} {x:Int ⊕ α} {k:α→Int ⊕ β} (h:NZ x) (hk:∀ y,NZ (k y)):NZ (sb x k):=by
  cases x with
  | inl e=>exact fun e' h'=>by cases h';exact h _ rfl
  | inr y=>exact hk y
theorem NZ.many (m:Nat) (l:List UInt8):NZ (ot m l):=NZ.sb (NZ.two _) fun y=>by
  cases iLt (m:Int) (y.1:Int) with
  | true=>exact fun e h=>by cases h;decide
  | false=>exact NZ.inr _
theorem NZ.rep {α:Type} {g:List UInt8→Int ⊕ (α×List UInt8)} (hg:∀ l,NZ (g l)):∀ (n:Nat) (l:List UInt8) (acc:List α),NZ (repP g n l acc)
  | 0,l,acc=>NZ.inr _
  | n+1,l,acc=>NZ.sb (hg l) fun r=>NZ.rep hg n _ _
theorem NZ.fn (l:List UInt8):NZ (fnP l):=NZ.sb (NZ.two _) fun _=>NZ.sb (NZ.two _) fun _=>NZ.sb (NZ.many _ _) fun _=>NZ.sb (NZ.rep (fun _=>NZ.two _) _ _ _) fun _=>NZ.inr _
theorem CT (l:List UInt8):NZ (xr l):=NZ.sb (NZ.two _) fun _=>NZ.sb (NZ.many _ _) fun _=>NZ.sb (NZ.rep (fun _=>NZ.two _) _ _ _) fun _=>NZ.sb (NZ.many _ _) fun _=>NZ.sb (NZ.rep NZ.fn _ _ _) fun _=>NZ.inr _
theorem CU {l:List UInt8} (h:(getP l).2=0):chkP (getP l).1=0∧l=putP (getP l).1:=by
  unfold getP at h ⊢
  cases hc:sEq (bs (l.take 3)) (bs pS) with
  | false=>rw [hc] at h;exact absurd h (by decide:(2:Int)≠0)
  | true=>
    rw [hc,cond_true] at h
    rw [cond_true]
    have hh:l.take 3=pS:=by
      have:=congrArg bl (A2.1 hc)
      rwa [gC,gC] at this
    cases hp:xr (l.drop 3) with
    | inl e=>
      rw [hp] at h
      exact absurd h (CT _ _ hp)
    | inr r=>
      rw [hp,dH] at h
      rw [dH]
      unfold clP at h ⊢
      cases h0:iEq (r.2.length:Int) 0 with
      | false=>rw [h0] at h;exact absurd h (by decide:(2:Int)≠0)
      | true=>
        rw [h0,cond_true] at h
        rw [cond_true]
        by_cases hk:chkP r.1=0
        · rw [bd hk,cond_true]
          refine ⟨hk,?_⟩
          have h3:=BR (p:=r.1) (t:=r.2) hp (lN.of hk)
          rw [cy] at h0
          rw [List.length_eq_zero_iff.1 (show r.2.length=0 by omega),List.append_nil] at h3
          show l=putP r.1
          rw [Ey,←h3,←hh,List.take_append_drop]
        · rw [aP hk] at h
          exact absurd h hk
theorem DH (p:aa) (k:Nat) (K:Unit→Option Bool) (hl:(p.Funcs.getD k default).Code.length≤200):∀ (n i f:Nat),i+n=(p.Funcs.getD k default).Code.length→n<f→eg p p (k:Int) K f (i:Int)=K ()
  | n,i,0,hi,hf=>by omega
  | 0,i,f+1,hi,hf=>by rw [eg,Int.toNat_natCast,aX (by omega),cond_false]
  | n+1,i,f+1,hi,hf=>by
    have h2:nIn (i:Int) ((p.Funcs.getD k default).Code.length:Int)=true:=aK ⟨by omega,by omega⟩
    rw [eg,Int.toNat_natCast,aU (by omega),cond_true,au h2,au h2,bd rfl,bd rfl,bd rfl]
    simp only [Bool.and_self,Bool.not_true,cond_false]
    rw [w64 (by omega),show (i:Int)+1=((i+1:Nat):Int) by omega]
    exact DH p k K hl n (i+1) f (by omega) (by omega)
theorem DI (p:aa) (hF:p.Funcs.length≤16) (hc:∀ F∈p.Funcs,F.Code.length≤200):∀ (n i f:Nat),i+n=p.Funcs.length→n<f→dA p p f (i:Int)=some true
  | n,i,0,hi,hf=>by omega
  | 0,i,f+1,hi,hf=>by rw [dA,aX (by omega)];rfl
  | n+1,i,f+1,hi,hf=>by
    have h1:nIn (i:Int) (p.Funcs.length:Int)=true:=aK ⟨by omega,by omega⟩
    have hm:=hc _ (iA p.Funcs i (by omega))
    rw [dA,aU (by omega),cond_true,dc,au h1,au h1,bH rfl,bH rfl,bH rfl]
    simp only [Bool.or_self,cond_false]
    have:=DH p i (fun _=>dA p p f (IntKind.i64.wrap ((i:Int)+1))) hm (p.Funcs.getD i default).Code.length 0 fuel (by omega) (by have:=aM;omega)
    refine Eq.trans this ?_
    rw [w64 (by omega),show (i:Int)+1=((i+1:Nat):Int) by omega]
    exact DI p hF hc n (i+1) f (by omega) (by omega)
theorem Fq (p:aa) (hF:p.Funcs.length≤16) (hc:∀ F∈p.Funcs,F.Code.length≤200) (hW:p.Waits.length≤32) (hw:∀ w∈p.Waits,ji w w=some true):∀ (n i f:Nat),i+n=p.Waits.length→n<f→eR p p f (i:Int)=some true
  | n,i,0,hi,hf=>by omega
  | 0,i,f+1,hi,hf=>by
    rw [eR,aX (by omega),cond_false]
    exact DI p hF hc p.Funcs.length 0 fuel (by omega) (by have:=aM;omega)
  | n+1,i,f+1,hi,hf=>by
    have h1:nIn (i:Int) (p.Waits.length:Int)=true:=aK ⟨by omega,by omega⟩
    rw [eR,aU (by omega),cond_true,au h1,au h1,Int.toNat_natCast,hw _ (iA p.Waits i (by omega)),af,Bool.not_true,cond_false,w64 (by omega),show (i:Int)+1=((i+1:Nat):Int) by omega]
    exact Fq p hF hc hW hw n (i+1) f (by omega) (by omega)
theorem Fs (p:aa) (hF:p.Funcs.length≤16) (hc:∀ F∈p.Funcs,F.Code.length≤200) (hW:p.Waits.length≤32) (hw:∀ w∈p.Waits,ji w w=some true) (hD:p.Decls.length≤32):∀ (n i f:Nat),i+n=p.Decls.length→n<f→eS p p f (i:Int)=some true
  | n,i,0,hi,hf=>by omega
  | 0,i,f+1,hi,hf=>by
    rw [eS,aX (by omega),cond_false]
    exact Fq p hF hc hW hw p.Waits.length 0 fuel (by omega) (by have:=aM;omega)
  | n+1,i,f+1,hi,hf=>by
    have h1:nIn (i:Int) (p.Decls.length:Int)=true:=aK ⟨by omega,by omega⟩
    rw [eS,aU (by omega),cond_true,au h1,au h1,bd rfl,bd rfl,bd rfl]
    simp only [Bool.and_self,Bool.not_true,cond_false]
    rw [w64 (by omega),show (i:Int)+1=((i+1:Nat):Int) by omega]
    exact Fs p hF hc hW hw hD n (i+1) f (by omega) (by omega)
theorem F6 {p:aa} (hF:p.Funcs.length≤16) (hc:∀ F∈p.Funcs,F.Code.length≤200) (hW:p.Waits.length≤32) (hw:∀ w∈p.Waits,ji w w=some true) (hD:p.Decls.length≤32):iq p p=some true:=by
  unfold iq
  rw [bH rfl,bH rfl,bH rfl]
  simp only [Bool.or_self,cond_false]
  exact Fs p hF hc hW hw hD p.Decls.length 0 fuel (by omega) (by have:=aM;omega)
theorem CV:iq noP noP=some true:=F6 (by simp [noP]) (by simp [noP]) (by simp [noP]) (by simp [noP]) (by simp [noP])
end LJ
end
