/- Several texts of plain Lean, one behind the other. No condition. -/
import Derived.Test.YtpnnkehkjfciiaaGreatDoorQA
import Derived.Test.YtpnnkehkjfciiaaGreatDoorCF
section
namespace LJ
end LJ
end
section
namespace LJ
open Go Go.RowKit
set_option linter.unusedVariables false
set_option linter.unusedSimpArgs false
def tI (k:Int):Int:=cond (iEq k 1) 1 (cond (iEq k 2||iEq k 3) 2 (cond (iEq k 4) 3 6))
def badN (L:List af) (x:aa):Int:=
  cond (iLt x.Kind 1||iLt 5 x.Kind) 6 (cond (iLt x.Obj 0||iLe (L.length:Int) x.Obj) 1 (cond (iEq (L.getD x.Obj.toNat default).Kind (tI x.Kind))
    (cond (iEq x.Kind 4) (cond (iLt x.N 1||iLt (L.getD x.Obj.toNat default).B x.N) 1 0) (cond (iEq x.Kind 5) (cond (iLt x.N 1||iLt (L.getD x.Obj.toNat default).A x.N) 1 0) (cond (iLt x.N 0||iLt 0 x.N) 1 0))) 1))
theorem vG (a b:Int):iNe a b= !iEq a b:=by unfold iNe iEq;simp
theorem u4 {k:Int} (h:1≤k∧k≤5):([0,1,2,2,3,6]:List Int).getD k.toNat default=tI k:=by
  have h5:k=1∨k=2∨k=3∨k=4∨k=5:=by omega
  rcases h5 with rfl | rfl | rfl | rfl | rfl <;> decide
theorem o7 (L:List af) (x:aa):gG L x=some (badN L x):=by
  unfold gG badN
  cases h1:(iLt x.Kind 1||iLt 5 x.Kind) with
  | true=>rfl
  | false=>
    simp only [Bool.or_eq_false_iff,bc] at h1
    rw [cond_false,cond_false]
    cases h2:(iLt x.Obj 0||iLe (L.length:Int) x.Obj) with
    | true=>rfl
    | false=>
      simp only [Bool.or_eq_false_iff,bc,fi] at h2
      have hn:nIn x.Obj (L.length:Int)=true:=aH h2
      have hk:nIn x.Kind (([0,1,2,2,3,6]:List Int).length:Int)=true:=aH ⟨by omega,by simp only [List.length_cons,List.length_nil];omega⟩
      rw [hn,hk,Bool.or_true,an rfl,an rfl,Bool.false_or,cond_false,u4 (by omega),vG,hI]
      simp only [an,aP]
      by_cases k4:x.Kind=4
      · rw [cW k4,cy (show x.Kind≠5 by omega)]
        simp only [cond_true,cond_false]
      · rw [cy k4]
        simp only [cond_true,cond_false]
theorem qq (L:List af) (x:aa):ja L x=some (badN L x):=by
  unfold ja badN aK
  simp only [j7,ah]
  by_cases h:x.Kind<1∨5<x.Kind
  · rw [show (iLt x.Kind 1||iLt 5 x.Kind)=true by simp only [Bool.or_eq_true,dx];exact h,cond_true]
    rw [cy (show x.Kind≠1 by omega),cy (show x.Kind≠2 by omega),cy (show x.Kind≠3 by omega),cy (show x.Kind≠4 by omega),cy (show x.Kind≠5 by omega)]
    rfl
  · rw [show (iLt x.Kind 1||iLt 5 x.Kind)=false by simp only [Bool.or_eq_false_iff,bc];omega,cond_false]
    have h5:x.Kind=1∨x.Kind=2∨x.Kind=3∨x.Kind=4∨x.Kind=5:=by omega
    unfold fitD fitK tI
    cases h2:(iLt x.Obj 0||iLe (L.length:Int) x.Obj) with
    | true=>
      rcases h5 with e | e | e | e | e <;> rw [e] <;> rfl
    | false=>
      simp only [Bool.or_eq_false_iff,bc,fi] at h2
      have hn:nIn x.Obj (L.length:Int)=true:=aH h2
      have lt:iLt x.N 1=true→iLt x.N 0=true∨iLt x.N 0=false:=fun _=>by cases iLt x.N 0 <;> simp
      have l01:(iLt x.N 1||iLt x.N 0)=iLt x.N 1:=by
        rw [Bool.eq_iff_iff];simp only [Bool.or_eq_true,dx];omega
      rcases h5 with e | e | e | e | e <;> rw [e] <;> simp only [show iEq 1 1=true from rfl,show iEq 1 2=false from rfl,show iEq 1 3=false from rfl,show iEq 1 4=false from rfl,show iEq 1 5=false from rfl,show iEq 2 1=false from rfl,show iEq 2 2=true from rfl,show iEq 2 3=false from rfl,show iEq 2 4=false from rfl,show iEq 2 5=false from rfl,show iEq 3 1=false from rfl,show iEq 3 2=false from rfl,show iEq 3 3=true from rfl,show iEq 3 4=false from rfl,show iEq 3 5=false from rfl,show iEq 4 1=false from rfl,show iEq 4 2=false from rfl,show iEq 4 3=false from rfl,show iEq 4 4=true from rfl,show iEq 4 5=false from rfl,show iEq 5 1=false from rfl,show iEq 5 2=false from rfl,show iEq 5 3=false from rfl,show iEq 5 4=false from rfl,show iEq 5 5=true from rfl,show iEq 109 117=false from rfl,show iEq 109 115=false from rfl,show iEq 109 112=false from rfl,show iEq 109 99=false from rfl,show iEq 109 109=true from rfl,show iEq 117 117=true from rfl,show iEq 115 117=false from rfl,show iEq 115 115=true from rfl,show iEq 112 117=false from rfl,show iEq 112 115=false from rfl,show iEq 112 112=true from rfl,hn,Bool.or_true,an,cond_true,cond_false,Bool.false_or,Bool.or_false,Bool.true_or,Bool.false_and,Bool.true_and,Bool.not_not,Bool.and_true,Bool.and_false,vG,aP,l01]
      all_goals
        generalize hK:(L.getD x.Obj.toNat default).Kind=K
        first
          | (cases iEq K 1 <;> rfl)
          | (cases iEq K 3 <;> rfl)
          | (cases iEq K 6 <;> rfl)
          | (by_cases hK1:K=1
             · subst hK1;rfl
             · rw [cy hK1];cases iEq K 2 <;> rfl)
def eL (L:List af):List aa→Int
  | []=>0
  | x::t=>cond (iNe (badN L x) 0) (badN L x) (eL L t)
def o8 (l:List aa) (j k:Nat):Bool:=(iEq (l.getD j default).Obj (l.getD k default).Obj||iEq (l.getD j default).Kind 4)||iEq (l.getD k default).Kind 4
def hit (l:List aa) (k:Nat):Nat→Nat→Bool
  | 0,_=>false
  | n+1,i=>o8 l i k||hit l k n (i+1)
def hits (l:List aa):Nat→Nat→Bool
  | 0,_=>false
  | n+1,k=>hit l k k 0||hits l n (k+1)
def badW (L:List af) (l:List aa):Int:=
  cond (iEq (l.length:Int) 0) 2 (cond (iLt 4 (l.length:Int)) 4 (cond (iNe (eL L l) 0) (eL L l) (cond (hits l l.length 0) 2 0)))
def ka (L:List af):List (List aa)→Int
  | []=>0
  | l::t=>cond (iNe (badW L l) 0) (badW L l) (ka L t)
def chkW (L:List af) (W:List (List aa)):Int:=cond (iEq (W.length:Int) 0) 2 (cond (iLt 4 (W.length:Int)) 4 (ka L W))
theorem dP {α β γ:Type} (K:α→β) (f:(α→β)→γ):hO K f=f K:=rfl
theorem tJ {α:Type} (a b:Bool) (x y:α):cond (a||b) x y=cond a x (cond b x y):=by cases a <;> rfl
theorem xo {W:List (List aa)} {s:Int} {j:Nat} {K:Unit→Option Int} (hj:j<(W.getD s.toNat default).length) (h4:(W.getD s.toNat default).length≤4):∀ (n i f:Nat),i+n=j→n<f→b9 W s (j:Int) K f (i:Int)=cond (hit (W.getD s.toNat default) j n i) (some 2) (K ())
  | n,i,0,hi,hf=>by omega
  | 0,i,f+1,hi,hf=>by
    rw [b9,bk (by omega),cond_false];rfl
  | n+1,i,f+1,hi,hf=>by
    have e1:nIn (i:Int) ((W.getD s.toNat default).length:Int)=true:=aH ⟨by omega,by omega⟩
    have e2:nIn (j:Int) ((W.getD s.toNat default).length:Int)=true:=aH ⟨by omega,by omega⟩
    rw [b9,aY (by omega),cond_true,e1,e2,Bool.or_true,Bool.or_true,w64 (by omega),show (i:Int)+1=((i+1:Nat):Int) by omega,an rfl,an rfl,an rfl,an rfl,xo hj h4 n (i+1) f (by omega) (by omega),Int.toNat_natCast,Int.toNat_natCast,hit]
    exact (tJ (o8 _ i j) _ _ _).symm
theorem xp {W:List (List aa)} {s:Int} {K:Unit→Option Int} (h4:(W.getD s.toNat default).length≤4):∀ (n i f:Nat),i+n=(W.getD s.toNat default).length→n<f→bK W s K f (i:Int)=cond (hits (W.getD s.toNat default) n i) (some 2) (K ())
  | n,i,0,hi,hf=>by omega
  | 0,i,f+1,hi,hf=>by
    rw [bK,bk (by omega),cond_false];rfl
  | n+1,i,f+1,hi,hf=>by
    rw [bK,aY (by omega),cond_true,dP,w64 (by omega),show (i:Int)+1=((i+1:Nat):Int) by omega]
    have ih:=xp (K:=K) h4 n (i+1) f (by omega) (by omega)
    have:=xo (W:=W) (s:=s) (j:=i) (K:=fun _=>bK W s K f ((i+1:Nat):Int)) (by omega) h4 i 0 fuel (by omega) (by have:=aJ;omega)
    rw [hits,tJ,←ih]
    exact this
theorem xq {L:List af} {W:List (List aa)} {s:Int} {K:Unit→Option Int} (h4:(W.getD s.toNat default).length≤4):∀ (n i f:Nat),i+n=(W.getD s.toNat default).length→n<f→ca L W s K f (i:Int)=cond (iNe (eL L ((W.getD s.toNat default).drop i)) 0) (some (eL L ((W.getD s.toNat default).drop i))) (cond (hits (W.getD s.toNat default) (W.getD s.toNat default).length 0) (some 2) (K ()))
  | n,i,0,hi,hf=>by omega
  | 0,i,f+1,hi,hf=>by
    rw [ca,bk (by omega),cond_false,List.drop_eq_nil_of_le (by omega),eL,df rfl,cond_false]
    exact xp h4 (W.getD s.toNat default).length 0 fuel (by omega) (by have:=aJ;omega)
  | n+1,i,f+1,hi,hf=>by
    rw [ca,aY (by omega),cond_true,an (aH ⟨by omega,by omega⟩),w64 (by omega),show (i:Int)+1=((i+1:Nat):Int) by omega,o7,ah,xq h4 n (i+1) f (by omega) (by omega),aV _ i (by omega),eL,Int.toNat_natCast]
    by_cases hb:badN L ((W.getD s.toNat default).getD i default)=0
    · rw [df hb,cond_false,cond_false]
    · rw [eu hb,cond_true,cond_true,eu hb,cond_true]
theorem w_l4 {L:List af} {W:List (List aa)} (hW:W.length≤4):∀ (n i f:Nat),i+n=W.length→n<f→bU L W f (i:Int)=some (ka L (W.drop i))
  | n,i,0,hi,hf=>by omega
  | 0,i,f+1,hi,hf=>by
    rw [bU,bk (by omega),cond_false,List.drop_eq_nil_of_le (by omega)]
    rfl
  | n+1,i,f+1,hi,hf=>by
    rw [bU,aY (by omega),cond_true,dP,w64 (by omega),show (i:Int)+1=((i+1:Nat):Int) by omega,an (aH ⟨by omega,by omega⟩),aV W i (by omega),ka,badW]
    have ih:=w_l4 (L:=L) hW n (i+1) f (by omega) (by omega)
    rw [Int.toNat_natCast]
    by_cases h0:((W.getD i default).length:Int)=0
    · rw [cW h0,cond_true,cond_true,eu (by decide),cond_true]
    · rw [cy h0,cond_false,cond_false]
      by_cases h4:4<((W.getD i default).length:Int)
      · rw [aY h4,cond_true,cond_true,eu (by decide),cond_true]
      · rw [bk (by omega),cond_false,cond_false]
        have:=xq (L:=L) (W:=W) (s:=(i:Int)) (K:=fun _=>bU L W f ((i+1:Nat):Int)) (by rw [Int.toNat_natCast];omega) ((W.getD (i:Int).toNat default).length) 0 fuel (by omega) (by have:=aJ;rw [Int.toNat_natCast];omega)
        rw [Int.toNat_natCast,List.drop_zero] at this
        refine Eq.trans this ?_
        rw [ih]
        by_cases hb:eL L (W.getD i default)=0
        · rw [df hb,cond_false,cond_false]
          cases hits (W.getD i default) (W.getD i default).length 0 with
          | true=>rfl
          | false=>rfl
        · rw [eu hb,cond_true,cond_true,eu hb,cond_true]
theorem mj (L:List af) (W:List (List aa)):e8 L W=some (chkW L W):=by
  unfold e8 chkW
  by_cases h0:(W.length:Int)=0
  · rw [cW h0];rfl
  · rw [cy h0,cond_false,cond_false]
    by_cases h4:4<(W.length:Int)
    · rw [aY h4];rfl
    · rw [bk (by omega),cond_false,cond_false]
      exact w_l4 (by omega) W.length 0 fuel (by omega) (by have:=aJ;omega)
theorem qt {L:List af} {x:aa} (h:badN L x=0):(1≤x.Kind∧x.Kind≤5)∧(0≤x.Obj∧x.Obj<L.length)∧(L.getD x.Obj.toNat default).Kind=tI x.Kind∧0≤x.N∧(x.Kind=4→x.N≤(L.getD x.Obj.toNat default).B)∧(x.Kind=5→x.N≤(L.getD x.Obj.toNat default).A)∧(x.Kind≤3→x.N=0):=by
  unfold badN at h
  cases h1:(iLt x.Kind 1||iLt 5 x.Kind) with
  | true=>rw [h1,cond_true] at h;cases h
  | false=>
    rw [h1,cond_false] at h
    simp only [Bool.or_eq_false_iff,bc] at h1
    cases h2:(iLt x.Obj 0||iLe (L.length:Int) x.Obj) with
    | true=>rw [h2,cond_true] at h;cases h
    | false=>
      rw [h2,cond_false] at h
      simp only [Bool.or_eq_false_iff,bc,fi] at h2
      cases h3:iEq (L.getD x.Obj.toNat default).Kind (tI x.Kind) with
      | false=>rw [h3,cond_false] at h;cases h
      | true=>
        rw [h3,cond_true] at h
        rw [fS] at h3
        refine ⟨by omega,by omega,h3,?_⟩
        by_cases k4:x.Kind=4
        · rw [cW k4,cond_true] at h
          cases h4:(iLt x.N 1||iLt (L.getD x.Obj.toNat default).B x.N) with
          | true=>rw [h4] at h;cases h
          | false=>simp only [Bool.or_eq_false_iff,bc] at h4;omega
        · rw [cy k4,cond_false] at h
          by_cases k5:x.Kind=5
          · rw [cW k5,cond_true] at h
            cases h4:(iLt x.N 1||iLt (L.getD x.Obj.toNat default).A x.N) with
            | true=>rw [h4] at h;cases h
            | false=>simp only [Bool.or_eq_false_iff,bc] at h4;omega
          · rw [cy k5,cond_false] at h
            cases h4:(iLt x.N 0||iLt 0 x.N) with
            | true=>rw [h4] at h;cases h
            | false=>simp only [Bool.or_eq_false_iff,bc] at h4;omega
theorem lC {L:List af} :∀ {l:List aa},eL L l=0→∀ x∈l,badN L x=0
  | [],h=>fun x hx=>by cases hx
  | y::t,h=>by
    unfold eL at h
    by_cases hy:badN L y=0
    · rw [df hy,cond_false] at h
      intro x hx
      rcases List.mem_cons.1 hx with rfl | hx
      · exact hy
      · exact lC h x hx
    · rw [eu hy,cond_true] at h;exact absurd h hy
def nW (s:Nat):List aa→Nat
  | []=>s
  | x::t=>nW (s|||2 ^x.Obj.toNat) t
theorem vH:∀ (i k x:Nat),i<k→x.testBit i=false→pc k (x+2 ^i)=pc k x+1
  | 0,k+1,x,hi,h=>by
    rw [Nat.testBit_zero] at h
    simp only [decide_eq_false_iff_not] at h
    rw [pc,pc,Nat.pow_zero,show (x+1) /2=x /2 by omega]
    omega
  | i+1,k+1,x,hi,h=>by
    rw [Nat.testBit_succ] at h
    have e1:(x+2 ^(i+1)) %2=x %2:=by rw [Nat.pow_succ];omega
    have e2:(x+2 ^(i+1)) /2=x /2+2 ^i:=by rw [Nat.pow_succ];omega
    rw [pc,pc,e1,e2,vH i k (x /2) (by omega) h]
    omega
theorem xU {s i:Nat} (hs:s<2 ^64) (hi:i<64):s|||2 ^i<2 ^64:=Nat.or_lt_two_pow hs (Nat.pow_lt_pow_right (by decide) hi)
theorem rb:∀ (l:List aa) (s:Nat),(∀ x∈l,x.Obj.toNat<64)→pc 64 (nW s l)≤pc 64 s+l.length∧(pc 64 (nW s l)=pc 64 s+l.length↔(∀ x∈l,s.testBit x.Obj.toNat=false)∧l.Pairwise fun x y=>x.Obj.toNat≠y.Obj.toNat)
  | [],s,h=>by simp [nW]
  | x::t,s,h=>by
    obtain ⟨h1,h2⟩:=rb t (s|||2 ^x.Obj.toNat) fun y hy=>h y (List.mem_cons_of_mem _ hy)
    have hx:=h x (List.mem_cons_self ..)
    rw [nW,List.length_cons]
    have ho:=vF x.Obj.toNat s
    cases hb:s.testBit x.Obj.toNat with
    | true=>
      rw [hb,if_pos rfl] at ho
      rw [ho] at h1 ⊢
      refine ⟨by omega,⟨fun h=>by omega,fun h=>?_⟩⟩
      have:=h.1 x (List.mem_cons_self ..)
      rw [hb] at this;cases this
    | false=>
      rw [hb,if_neg Bool.false_ne_true] at ho
      have hp:=vH x.Obj.toNat 64 s hx hb
      rw [←ho] at hp
      rw [hp] at h1 h2
      refine ⟨by omega,?_⟩
      rw [show pc 64 s+(t.length+1)=pc 64 s+1+t.length by omega,h2,List.pairwise_cons]
      constructor
      · rintro ⟨a,b⟩
        refine ⟨fun y hy=>?_,fun y hy he=>?_,b⟩
        · rcases List.mem_cons.1 hy with rfl | hy
          · exact hb
          · have:=a y hy
            rw [Nat.testBit_or,Bool.or_eq_false_iff] at this
            exact this.1
        · have:=a y hy
          rw [←he,Nat.testBit_or,Nat.testBit_two_pow] at this
          simp at this
      · rintro ⟨a,b,c⟩
        refine ⟨fun y hy=>?_,c⟩
        rw [Nat.testBit_or,a y (List.mem_cons_of_mem _ hy),Nat.testBit_two_pow,Bool.false_or]
        exact decide_eq_false (b y hy)
theorem tK (l:List aa) (k:Nat):∀ n i,hit l k n i=true↔∃ j,i≤j∧j<i+n∧o8 l j k=true
  | 0,i=>by simp [hit];intro j h1 h2;omega
  | n+1,i=>by
    rw [hit,Bool.or_eq_true,tK l k n (i+1)]
    constructor
    · rintro (h | ⟨j,h1,h2,h3⟩)
      · exact ⟨i,by omega,by omega,h⟩
      · exact ⟨j,by omega,by omega,h3⟩
    · rintro ⟨j,h1,h2,h3⟩
      rcases Nat.eq_or_lt_of_le h1 with rfl | h1
      · exact .inl h3
      · exact .inr ⟨j,h1,by omega,h3⟩
theorem re (l:List aa):∀ n i,hits l n i=true↔∃ j k,i≤k∧k<i+n∧j<k∧o8 l j k=true
  | 0,i=>by simp [hits];intro j k h1 h2;omega
  | n+1,i=>by
    rw [hits,Bool.or_eq_true,re l n (i+1),tK]
    constructor
    · rintro (⟨j,h1,h2,h3⟩ | ⟨j,k,h1,h2,h3,h4⟩)
      · exact ⟨j,i,by omega,by omega,by omega,h3⟩
      · exact ⟨j,k,by omega,by omega,h3,h4⟩
    · rintro ⟨j,k,h1,h2,h3,h4⟩
      rcases Nat.eq_or_lt_of_le h1 with rfl | h1
      · exact .inl ⟨j,by omega,by omega,h4⟩
      · exact .inr ⟨j,k,h1,by omega,h3,h4⟩
theorem wM {l:List aa} (h64:∀ x∈l,0≤x.Obj∧x.Obj<64):(iLt ((pc 64 (nW 0 l):Nat):Int) (l.length:Int)||(l.any (fun x=>iEq x.Kind 4)&&iLt 1 (l.length:Int)))=hits l l.length 0:=by
  obtain ⟨h1,h2⟩:=rb l 0 fun x hx=>by have:=h64 x hx;omega
  rw [tG,Nat.zero_add] at h1 h2
  have hmem:∀ j,j<l.length→l.getD j default∈l:=fun j hj=>by
    rw [List.getD_eq_getElem?_getD,List.getElem?_eq_getElem hj];exact List.getElem_mem hj
  have hpw:(l.Pairwise fun x y=>x.Obj.toNat≠y.Obj.toNat)↔∀ j k,j<k→k<l.length→(l.getD j default).Obj≠(l.getD k default).Obj:=by
    rw [List.pairwise_iff_getElem]
    constructor
    · intro h j k hjk hk he
      have:=h j k (by omega) hk hjk
      simp only [List.getD_eq_getElem?_getD,List.getElem?_eq_getElem hk,List.getElem?_eq_getElem (show j<l.length by omega),Option.getD_some] at he
      exact this (by rw [he])
    · intro h j k hj hk hjk he
      have e:=h j k hjk hk
      have a:=h64 _ (hmem j hj)
      have b:=h64 _ (hmem k hk)
      simp only [List.getD_eq_getElem?_getD,List.getElem?_eq_getElem hk,List.getElem?_eq_getElem hj,Option.getD_some] at e a b
      exact e (by omega)
  rw [Bool.eq_iff_iff,Bool.or_eq_true,Bool.and_eq_true,dx,dx,re,List.any_eq_true]
  constructor
  · rintro (h | ⟨⟨x,hx,hk⟩,hl⟩)
    · have hn:¬(l.Pairwise fun x y=>x.Obj.toNat≠y.Obj.toNat):=fun hp=>by
        have:=h2.2 ⟨fun x _=>by simp,hp⟩
        omega
      rw [hpw] at hn
      simp only [Classical.not_forall,not_imp,Decidable.not_not] at hn
      obtain ⟨j,k,a,b,c⟩:=hn
      exact ⟨j,k,by omega,by omega,a,by unfold o8;rw [cW c];rfl⟩
    · obtain ⟨m,hm,rfl⟩:=List.mem_iff_getElem.1 hx
      have e:l.getD m default=l[m]:=by simp [List.getD_eq_getElem?_getD,hm]
      by_cases h0:m=0
      · subst h0
        exact ⟨0,1,by omega,by omega,by omega,by unfold o8;rw [e,hk];simp⟩
      · exact ⟨0,m,by omega,by omega,by omega,by unfold o8;rw [e,hk];simp⟩
  · rintro ⟨j,k, -,hk,hjk,hp⟩
    rw [Nat.zero_add] at hk
    unfold o8 at hp
    rw [Bool.or_eq_true,Bool.or_eq_true,fS] at hp
    rcases hp with (hp | hp) | hp
    · left
      rcases Nat.eq_or_lt_of_le h1 with he | hlt
      · exact absurd hp (hpw.1 (h2.1 he).2 j k hjk hk)
      · omega
    · exact .inr ⟨⟨_,hmem j (by omega),hp⟩,by omega⟩
    · exact .inr ⟨⟨_,hmem k hk,hp⟩,by omega⟩
theorem wN {s:Nat} {o:Int} (hs:s<18446744073709551616) (ho:0≤o∧o<64):dL (s:Int) o=some ((s|||2 ^o.toNat:Nat):Int):=by
  unfold dL kQ
  rw [show (iLt o 0||iLt 63 o)=false by simp only [Bool.or_eq_false_iff,bc];omega,cond_false,an (vD ho.1),ah]
  have hp:2 ^o.toNat<2 ^64:=Nat.pow_lt_pow_right (by decide) (by omega)
  have hm:min o.toNat IntKind.u64.bits=o.toNat:=Nat.min_eq_left (by show o.toNat≤64;omega)
  rw [hm,Int.one_mul,show ((2:Int) ^o.toNat)=((2 ^o.toNat:Nat):Int) by simp,wu hp,bits_or_u64_nat _ _ hs hp]
theorem vI {L:List af} (hL:L.length≤32) {l:List aa} (h4:l.length≤4):∀ (n i f s:Nat) (d:Bool),i+n=l.length→n<f→s<18446744073709551616→
    dy L l f ((s:Int),d,(i:Int))=cond (iNe (eL L (l.drop i)) 0) (some (eL L (l.drop i))) (cond (iLt ((pc 64 (nW s (l.drop i)):Nat):Int) (l.length:Int)||((d||(l.drop i).any (fun x=>iEq x.Kind 4))&&iLt 1 (l.length:Int))) (some 2) (some 0))
  | n,i,0,s,d,hi,hf,hs=>by omega
  | 0,i,f+1,s,d,hi,hf,hs=>by
    rw [dy]
    dsimp only
    rw [bk (by omega),cond_false,List.drop_eq_nil_of_le (by omega),eL,df rfl,cond_false,eo,wI hs,ah,ah,xl,nW,List.any_nil,Bool.or_false]
  | n+1,i,f+1,s,d,hi,hf,hs=>by
    rw [dy]
    dsimp only
    rw [aY (by omega),cond_true,an (aH ⟨by omega,by omega⟩),qq,ah,aV l i (by omega),eL,Int.toNat_natCast]
    by_cases hb:badN L (l.getD i default)=0
    · obtain ⟨_,ho,_⟩:=qt hb
      rw [df hb,cond_false,cond_false,wN hs (by omega),ah,w64 (by omega),show (i:Int)+1=((i+1:Nat):Int) by omega,vI hL h4 n (i+1) f _ _ (by omega) (by omega) (xU hs (by omega)),nW,List.any_cons,Bool.or_assoc]
    · rw [eu hb,cond_true,cond_true,eu hb,cond_true]
theorem qu {L:List af} (hL:L.length≤32) (l:List aa):jb L l=some (badW L l):=by
  unfold jb badW
  by_cases h0:(l.length:Int)=0
  · rw [cW h0];rfl
  · rw [cy h0,cond_false,cond_false]
    by_cases h4:4<(l.length:Int)
    · rw [aY h4];rfl
    · rw [bk (by omega),cond_false,cond_false]
      have:=vI hL (l:=l) (by omega) l.length 0 fuel 0 false (by omega) (by have:=aJ;omega) (by decide)
      refine Eq.trans this ?_
      rw [List.drop_zero]
      by_cases hb:eL L l=0
      · rw [df hb,cond_false,cond_false,Bool.false_or,wM (fun x hx=>by obtain ⟨_,h,_⟩:=qt (lC hb x hx);omega),aP]
      · rw [eu hb,cond_true,cond_true]
theorem rf {L:List af} (hL:L.length≤32) {W:List (List aa)} (hW:W.length≤4):∀ (n i f:Nat),i+n=W.length→n<f→cQ L W f (i:Int)=some (ka L (W.drop i))
  | n,i,0,hi,hf=>by omega
  | 0,i,f+1,hi,hf=>by
    rw [cQ,bk (by omega),cond_false,List.drop_eq_nil_of_le (by omega)]
    rfl
  | n+1,i,f+1,hi,hf=>by
    rw [cQ,aY (by omega),cond_true,an (aH ⟨by omega,by omega⟩),qu hL,ah,w64 (by omega),show (i:Int)+1=((i+1:Nat):Int) by omega,rf hL hW n (i+1) f (by omega) (by omega),aV W i (by omega),ka,aP,Int.toNat_natCast]
theorem nX {L:List af} (hL:L.length≤32) (W:List (List aa)):fA L W=some (chkW L W):=by
  unfold fA chkW
  by_cases h0:(W.length:Int)=0
  · rw [cW h0];rfl
  · rw [cy h0,cond_false,cond_false]
    by_cases h4:4<(W.length:Int)
    · rw [aY h4];rfl
    · rw [bk (by omega),cond_false,cond_false]
      exact rf hL (by omega) W.length 0 fuel (by omega) (by have:=aJ;omega)
end LJ
end
section
namespace LJ
open Go Go.RowKit
set_option linter.unusedVariables false
set_option linter.unusedSimpArgs false
structure RngN (x:aa):Prop where
  k:1≤x.Kind∧x.Kind≤5
  o:0≤x.Obj∧x.Obj<2147483648
  n:0≤x.N∧x.N<2147483648
  nz:x.Kind≤3→x.N=0
structure jk (W:List (List aa)):Prop where
  len:1≤W.length∧W.length≤4
  ways:∀ l∈W,(1≤l.length∧l.length≤4)∧∀ x∈l,RngN x
theorem tL {L:List af} {d:af} (h:badD L d=0):(d.Kind=3→d.B≤1000)∧(d.Kind=6→d.A≤1000):=by
  unfold badD at h
  constructor
  · intro k
    rw [cW k,cond_true] at h
    cases hb:(iLe 1 d.B&&iLe d.B 1000&&iLe 0 d.A&&iLe d.A d.B) with
    | false=>rw [hb] at h;cases h
    | true=>simp only [Bool.and_eq_true,dW] at hb;omega
  · intro k
    rw [cy (show d.Kind≠3 by omega),cond_false,cW k,cond_true] at h
    cases hb:(iLe 1 d.A&&iLe d.A 1000) with
    | false=>rw [hb] at h;cases h
    | true=>simp only [Bool.and_eq_true,dW] at hb;omega
theorem kT {L:List af} (h:(chkL L).2=0):L.length≤32∧∀ d∈L,badD L d=0:=by
  unfold chkL at h
  by_cases hl:32<(L.length:Int)
  · rw [aY hl,cond_true] at h;cases h
  · rw [bk (by omega),cond_false] at h
    exact ⟨by omega,qf h⟩
theorem RngN.of {L:List af} (hL:(chkL L).2=0) {x:aa} (h:badN L x=0):RngN x:=by
  obtain ⟨h1,h2⟩:=kT hL
  obtain ⟨a,b,c,d,e,f,g⟩:=qt h
  have hm:L.getD x.Obj.toNat default∈L:=by
    rw [List.getD_eq_getElem?_getD,List.getElem?_eq_getElem (by omega)]
    exact List.getElem_mem _
  obtain ⟨i,j⟩:=tL (h2 _ hm)
  rw [c] at i j
  refine ⟨a,by omega,⟨d,?_⟩,g⟩
  by_cases k4:x.Kind=4
  · have:=i (by rw [k4];rfl)
    have:=e k4
    omega
  · by_cases k5:x.Kind=5
    · have:=j (by rw [k5];rfl)
      have:=f k5
      omega
    · have:=g (by omega)
      omega
theorem wO {L:List af} {l:List aa} (h:badW L l=0):(1≤l.length∧l.length≤4)∧∀ x∈l,badN L x=0:=by
  unfold badW at h
  by_cases h0:(l.length:Int)=0
  · rw [cW h0,cond_true] at h;cases h
  · rw [cy h0,cond_false] at h
    by_cases h4:4<(l.length:Int)
    · rw [aY h4,cond_true] at h;cases h
    · rw [bk (by omega),cond_false] at h
      by_cases hb:eL L l=0
      · exact ⟨by omega,lC hb⟩
      · rw [eu hb,cond_true] at h;exact absurd h hb
theorem o9 {L:List af} :∀ {W:List (List aa)},ka L W=0→∀ l∈W,badW L l=0
  | [],h=>fun x hx=>by cases hx
  | y::t,h=>by
    unfold ka at h
    by_cases hy:badW L y=0
    · rw [df hy,cond_false] at h
      intro x hx
      rcases List.mem_cons.1 hx with rfl | hx
      · exact hy
      · exact o9 h x hx
    · rw [eu hy,cond_true] at h;exact absurd h hy
theorem jk.of {L:List af} (hL:(chkL L).2=0) {W:List (List aa)} (h:chkW L W=0):jk W:=by
  unfold chkW at h
  by_cases h0:(W.length:Int)=0
  · rw [cW h0,cond_true] at h;cases h
  · rw [cy h0,cond_false] at h
    by_cases h4:4<(W.length:Int)
    · rw [aY h4,cond_true] at h;cases h
    · rw [bk (by omega),cond_false] at h
      refine ⟨by omega,fun l hl=>?_⟩
      obtain ⟨a,b⟩:=wO (o9 h l hl)
      exact ⟨a,fun x hx=>RngN.of hL (b x hx)⟩
def putN (x:aa):List UInt8:=UInt8.ofNat x.Kind.toNat::(numL x.Obj.toNat++if 3<x.Kind then numL x.N.toNat else [])
def putW (l:List aa):List UInt8:=numL l.length++l.flatMap putN
def yk (W:List (List aa)):List UInt8:=numL W.length++W.flatMap putW
end LJ
end
section
namespace LJ
open Go Go.RowKit
set_option linter.unusedVariables false
set_option linter.unusedSimpArgs false
def wP (b:UInt8) (t:List UInt8):aa×Int×List UInt8:=
  cond (iLt (b.toNat:Int) 1||iLt 5 (b.toNat:Int)) (⟨b.toNat,0,0⟩,6,t)
    (cond (iLt 3 (b.toNat:Int)) (⟨b.toNat,capN (rdN t 0),capN (rdN (rdN t 0).2.2 (rdN t 0).1)⟩,(rdN (rdN t 0).2.2 (rdN t 0).1).1,(rdN (rdN t 0).2.2 (rdN t 0).1).2.2)
    (⟨b.toNat,capN (rdN t 0),0⟩,(rdN t 0).1,(rdN t 0).2.2))
def rh:List UInt8→aa×Int×List UInt8
  | []=>(⟨0,0,0⟩,3,[])
  | b::t=>wP b t
def rdM (l:List UInt8):Nat×Int×List UInt8:=cond (iLt 4 ((rdN l 0).2.1:Int)) (0,4,[]) ((rdN l 0).2.1,(rdN l 0).1,(rdN l 0).2.2)
def tM:Nat→List UInt8→List aa→List aa×Int×List UInt8
  | 0,l,acc=>(acc,0,l)
  | n+1,l,acc=>cond (iEq (rh l).2.1 0) (tM n (rh l).2.2 (acc++[(rh l).1])) ([],(rh l).2.1,[])
def u6 (l:List UInt8):List aa×Int×List UInt8:=cond (iEq (rdM l).2.1 0) (tM (rdM l).1 (rdM l).2.2 []) ([],(rdM l).2.1,[])
def lD:Nat→List UInt8→List (List aa)→List (List aa)×Int×List UInt8
  | 0,l,acc=>(acc,0,l)
  | n+1,l,acc=>cond (iEq (u6 l).2.1 0) (lD n (u6 l).2.2 (acc++[(u6 l).1])) ([],(u6 l).2.1,[])
def yl (L:List af) (l:List UInt8):List (List aa)×Int×List UInt8:=
  cond (iEq (rdM l).2.1 0)
    (cond (iEq (lD (rdM l).1 (rdM l).2.2 []).2.1 0)
      (cond (iEq (chkW L (lD (rdM l).1 (rdM l).2.2 []).1) 0) ((lD (rdM l).1 (rdM l).2.2 []).1,0,(lD (rdM l).1 (rdM l).2.2 []).2.2) ([],chkW L (lD (rdM l).1 (rdM l).2.2 []).1,[]))
      ([],(lD (rdM l).1 (rdM l).2.2 []).2.1,[]))
    ([],(rdM l).2.1,[])
end LJ
end
section
namespace LJ
open Go Go.RowKit
set_option linter.unusedVariables false
set_option linter.unusedSimpArgs false
def first {α:Type} (f:α→Int):List α→Int
  | []=>0
  | x::t=>cond (iNe (f x) 0) (f x) (first f t)
theorem kU {α:Type} {f:α→Int} :∀ {l:List α},first f l=0→∀ x∈l,f x=0
  | [],h=>fun x hx=>by cases hx
  | y::t,h=>by
    unfold first at h
    by_cases hy:f y=0
    · rw [df hy,cond_false] at h
      intro x hx
      rcases List.mem_cons.1 hx with rfl | hx
      · exact hy
      · exact kU h x hx
    · rw [eu hy,cond_true] at h;exact absurd h hy
def ml (F:al):Int:=cond ((iLt F.Args 0||iLt F.Locals F.Args)||iLt 8 F.Locals) 1 (cond (iEq (F.Code.length:Int) 0) 2 (cond (iLt 200 (F.Code.length:Int)) 4 (first chkI F.Code)))
def chkP (p:ab):Int:=
  cond (iNe (chkL p.Decls).2 0) (chkL p.Decls).2 (cond (iLt 32 (p.Waits.length:Int)) 4 (cond (iNe (first (chkW p.Decls) p.Waits) 0) (first (chkW p.Decls) p.Waits)
    (cond (iEq (p.Funcs.length:Int) 0) 2 (cond (iLt 16 (p.Funcs.length:Int)) 4 (first ml p.Funcs)))))
theorem vJ (F:al) (hF:F.Code.length≤200):∀ (n i f:Nat),i+n=F.Code.length→n<f→bB F f (i:Int)=some (first chkI (F.Code.drop i))
  | n,i,0,hi,hf=>by omega
  | 0,i,f+1,hi,hf=>by rw [bB,bk (by omega),cond_false,List.drop_eq_nil_of_le (by omega)];rfl
  | n+1,i,f+1,hi,hf=>by
    rw [bB,aY (by omega),cond_true,an (aH ⟨by omega,by omega⟩),Int.toNat_natCast,o5,ah,w64 (by omega),show (i:Int)+1=((i+1:Nat):Int) by omega,vJ F hF n (i+1) f (by omega) (by omega),aV _ i (by omega),first,aP]
theorem vK (F:al) (hF:F.Code.length≤200):∀ (n i f:Nat),i+n=F.Code.length→n<f→bp F f (i:Int)=some (first chkI (F.Code.drop i))
  | n,i,0,hi,hf=>by omega
  | 0,i,f+1,hi,hf=>by rw [bp,bk (by omega),cond_false,List.drop_eq_nil_of_le (by omega)];rfl
  | n+1,i,f+1,hi,hf=>by
    rw [bp,aY (by omega),cond_true,an (aH ⟨by omega,by omega⟩),Int.toNat_natCast,mh,ah,w64 (by omega),show (i:Int)+1=((i+1:Nat):Int) by omega,vK F hF n (i+1) f (by omega) (by omega),aV _ i (by omega),first,aP]
theorem kz (F:al):dM F=some (ml F):=by
  unfold dM ml
  by_cases h:200<(F.Code.length:Int)
  · rw [aY h,cond_true,cond_true,aP,aP]
  · have h':iLt 200 (F.Code.length:Int)=false:=bk (by omega)
    have hl:=vJ F (by omega) F.Code.length 0 fuel (by omega) (by have:=aJ;omega)
    rw [List.drop_zero] at hl
    have hl':bB F fuel 0=some (first chkI F.Code):=hl
    rw [h',cond_false,cond_false,hl',aP,aP]
theorem jM (F:al):dr F=some (ml F):=by
  unfold dr ml
  by_cases h:200<(F.Code.length:Int)
  · rw [aY h,cond_true,cond_true,aP,aP]
  · have h':iLt 200 (F.Code.length:Int)=false:=bk (by omega)
    have hl:=vK F (by omega) F.Code.length 0 fuel (by omega) (by have:=aJ;omega)
    rw [List.drop_zero] at hl
    have hl':bp F fuel 0=some (first chkI F.Code):=hl
    rw [h',cond_false,cond_false,hl',aP,aP]
theorem tN (p:ab) (hF:p.Funcs.length≤16):∀ (n i f:Nat),i+n=p.Funcs.length→n<f→cC p f (i:Int)=some (first ml (p.Funcs.drop i))
  | n,i,0,hi,hf=>by omega
  | 0,i,f+1,hi,hf=>by rw [cC,bk (by omega),cond_false,List.drop_eq_nil_of_le (by omega)];rfl
  | n+1,i,f+1,hi,hf=>by
    rw [cC,aY (by omega),cond_true,an (aH ⟨by omega,by omega⟩),Int.toNat_natCast,kz,ah,w64 (by omega),show (i:Int)+1=((i+1:Nat):Int) by omega,tN p hF n (i+1) f (by omega) (by omega),aV _ i (by omega),first,aP]
theorem tO (p:ab) (hF:p.Funcs.length≤16):∀ (n i f:Nat),i+n=p.Funcs.length→n<f→cb p f (i:Int)=some (first ml (p.Funcs.drop i))
  | n,i,0,hi,hf=>by omega
  | 0,i,f+1,hi,hf=>by rw [cb,bk (by omega),cond_false,List.drop_eq_nil_of_le (by omega)];rfl
  | n+1,i,f+1,hi,hf=>by
    rw [cb,aY (by omega),cond_true,an (aH ⟨by omega,by omega⟩),Int.toNat_natCast,jM,ah,w64 (by omega),show (i:Int)+1=((i+1:Nat):Int) by omega,tO p hF n (i+1) f (by omega) (by omega),aV _ i (by omega),first,aP]
def u7 (p:ab):Int:=cond (iEq (p.Funcs.length:Int) 0) 2 (cond (iLt 16 (p.Funcs.length:Int)) 4 (first ml p.Funcs))
theorem vL (p:ab) (hD:p.Decls.length≤32) (hW:p.Waits.length≤32):∀ (n i f:Nat),i+n=p.Waits.length→n<f→cR p f (i:Int)=some (cond (iNe (first (chkW p.Decls) (p.Waits.drop i)) 0) (first (chkW p.Decls) (p.Waits.drop i)) (u7 p))
  | n,i,0,hi,hf=>by omega
  | 0,i,f+1,hi,hf=>by
    rw [cR,bk (by omega),cond_false,List.drop_eq_nil_of_le (by omega),first,df rfl,cond_false]
    unfold u7
    by_cases h:16<(p.Funcs.length:Int)
    · rw [aY h,cond_true,cond_true,aP]
    · have:=tN p (by omega) p.Funcs.length 0 fuel (by omega) (by have:=aJ;omega)
      rw [List.drop_zero] at this
      rw [bk (by omega),cond_false,cond_false,show (0:Int)=((0:Nat):Int) from rfl,this,aP]
  | n+1,i,f+1,hi,hf=>by
    rw [cR,aY (by omega),cond_true,an (aH ⟨by omega,by omega⟩),Int.toNat_natCast,nX hD,ah,w64 (by omega),show (i:Int)+1=((i+1:Nat):Int) by omega,vL p hD hW n (i+1) f (by omega) (by omega),aV _ i (by omega),first]
    by_cases h:chkW p.Decls (p.Waits.getD i default)=0
    · rw [df h,cond_false,cond_false]
    · rw [eu h,cond_true,cond_true,eu h,cond_true]
theorem vM (p:ab) (hW:p.Waits.length≤32):∀ (n i f:Nat),i+n=p.Waits.length→n<f→cA p f (i:Int)=some (cond (iNe (first (chkW p.Decls) (p.Waits.drop i)) 0) (first (chkW p.Decls) (p.Waits.drop i)) (u7 p))
  | n,i,0,hi,hf=>by omega
  | 0,i,f+1,hi,hf=>by
    rw [cA,bk (by omega),cond_false,List.drop_eq_nil_of_le (by omega),first,df rfl,cond_false]
    unfold u7
    by_cases h:16<(p.Funcs.length:Int)
    · rw [aY h,cond_true,cond_true,aP]
    · have:=tO p (by omega) p.Funcs.length 0 fuel (by omega) (by have:=aJ;omega)
      rw [List.drop_zero] at this
      rw [bk (by omega),cond_false,cond_false,show (0:Int)=((0:Nat):Int) from rfl,this,aP]
  | n+1,i,f+1,hi,hf=>by
    rw [cA,aY (by omega),cond_true,an (aH ⟨by omega,by omega⟩),Int.toNat_natCast,mj,ah,w64 (by omega),show (i:Int)+1=((i+1:Nat):Int) by omega,vM p hW n (i+1) f (by omega) (by omega),aV _ i (by omega),first]
    by_cases h:chkW p.Decls (p.Waits.getD i default)=0
    · rw [df h,cond_false,cond_false]
    · rw [eu h,cond_true,cond_true,eu h,cond_true]
theorem fY (p:ab):dD p=some (chkP p):=by
  unfold dD chkP
  rw [nM,ah]
  by_cases hd:(chkL p.Decls).2=0
  · rw [df hd,cond_false,cond_false]
    by_cases h:32<(p.Waits.length:Int)
    · rw [aY h];rfl
    · rw [bk (by omega),cond_false,cond_false,show (0:Int)=((0:Nat):Int) from rfl,vL p (kT hd).1 (by omega) p.Waits.length 0 fuel (by omega) (by have:=aJ;omega),List.drop_zero]
      rfl
  · rw [eu hd];rfl
theorem mm (p:ab):ea p=some (chkP p):=by
  unfold ea chkP
  rw [me,ah]
  by_cases hd:(chkL p.Decls).2=0
  · rw [df hd,cond_false,cond_false]
    by_cases h:32<(p.Waits.length:Int)
    · rw [aY h];rfl
    · rw [bk (by omega),cond_false,cond_false,show (0:Int)=((0:Nat):Int) from rfl,vM p (by omega) p.Waits.length 0 fuel (by omega) (by have:=aJ;omega),List.drop_zero]
      rfl
  · rw [eu hd];rfl
structure qv (F:al):Prop where
  args:0≤F.Args∧F.Args≤8
  locals:0≤F.Locals∧F.Locals≤8
  code:1≤F.Code.length∧F.Code.length≤200
  ins:∀ x∈F.Code,chkI x=0
theorem qv.of {F:al} (h:ml F=0):qv F:=by
  unfold ml at h
  cases h1:((iLt F.Args 0||iLt F.Locals F.Args)||iLt 8 F.Locals) with
  | true=>rw [h1,cond_true] at h;cases h
  | false=>
    rw [h1,cond_false] at h
    simp only [Bool.or_eq_false_iff,bc] at h1
    by_cases h2:(F.Code.length:Int)=0
    · rw [cW h2,cond_true] at h;cases h
    · rw [cy h2,cond_false] at h
      by_cases h3:200<(F.Code.length:Int)
      · rw [aY h3,cond_true] at h;cases h
      · rw [bk (by omega),cond_false] at h
        exact ⟨by omega,by omega,by omega,kU h⟩
structure jN (p:ab):Prop where
  decls:(chkL p.Decls).2=0
  waits:p.Waits.length≤32∧∀ w∈p.Waits,chkW p.Decls w=0
  funcs:1≤p.Funcs.length∧p.Funcs.length≤16
  fns:∀ F∈p.Funcs,qv F
theorem jN.of {p:ab} (h:chkP p=0):jN p:=by
  unfold chkP at h
  by_cases hd:(chkL p.Decls).2=0
  · rw [df hd,cond_false] at h
    by_cases h1:32<(p.Waits.length:Int)
    · rw [aY h1,cond_true] at h;cases h
    · rw [bk (by omega),cond_false] at h
      by_cases h2:first (chkW p.Decls) p.Waits=0
      · rw [df h2,cond_false] at h
        by_cases h3:(p.Funcs.length:Int)=0
        · rw [cW h3,cond_true] at h;cases h
        · rw [cy h3,cond_false] at h
          by_cases h4:16<(p.Funcs.length:Int)
          · rw [aY h4,cond_true] at h;cases h
          · rw [bk (by omega),cond_false] at h
            exact ⟨hd,⟨by omega,kU h2⟩,by omega,fun F hF=>qv.of (kU h F hF)⟩
      · rw [eu h2,cond_true] at h;exact absurd h h2
  · rw [eu hd,cond_true] at h;exact absurd h hd
def ownW (W:List (List aa)):List (List aa):=(W.take 6).map fun l=>l.take 6
theorem tP (W:List (List aa)):∀ (n i f:Nat) (acc:List (List aa)),i+n=min W.length 6→n<f→acc.length=i→cL W f ((i:Int),acc)=some (acc++((W.take 6).drop i).map fun l=>l.take 6)
  | n,i,0,acc,hi,hf,ha=>by omega
  | 0,i,f+1,acc,hi,hf,ha=>by
    rw [cL]
    dsimp only
    have:(iLt (i:Int) (W.length:Int)&&iLt (i:Int) 6)=false:=by
      rw [Bool.and_eq_false_iff,bc,bc];omega
    rw [this,cond_false,List.drop_eq_nil_of_le (by simp;omega),List.map_nil,List.append_nil]
  | n+1,i,f+1,acc,hi,hf,ha=>by
    rw [cL]
    dsimp only
    have hl:(W.take 6).drop i=W.getD i default::(W.take 6).drop (i+1):=by
      rw [aV (W.take 6) i (by simp;omega)]
      congr 1
      rw [List.getD_eq_getElem?_getD,List.getD_eq_getElem?_getD,List.getElem?_take_of_lt (by omega)]
    rw [aY (by omega),aY (by omega),Bool.and_self,cond_true,an (aH ⟨by omega,by omega⟩),w64 (by omega),show (i:Int)+1=((i+1:Nat):Int) by omega,Int.toNat_natCast,hl,List.map_cons]
    cases h6:iLt 6 ((W.getD i default).length:Int) with
    | true=>
      rw [dx] at h6
      rw [cond_true,an (j2 ⟨by omega,by omega,by omega⟩),an (bg (by simp;omega)),an (bg (by simp;omega)),tP W n (i+1) f _ (by omega) (by omega) (by simp [ha])]
      simp
    | false=>
      rw [bc] at h6
      rw [cond_false,an (bg (by rw [List.length_nil];omega)),an (bg (by simp;omega)),tP W n (i+1) f _ (by omega) (by omega) (by simp [ha])]
      rw [List.take_of_length_le (l:=W.getD i default) (by omega)]
      simp
theorem xV (W:List (List aa)):gC W=some (ownW W):=by
  unfold gC
  have:=tP W (min W.length 6) 0 fuel [] (by omega) (by have:=aJ;omega) rfl
  rw [show (0:Int)=((0:Nat):Int) from rfl,this]
  rfl
theorem va {W:List (List aa)} (g:jk W):ownW W=W:=by
  unfold ownW
  rw [List.take_of_length_le (by have:=g.len;omega)]
  refine Eq.trans (List.map_congr_left (g:=id) fun l hl=>?_) (List.map_id W)
  exact List.take_of_length_le (by have:=(g.ways l hl).1;omega)
def ownF (F:al):al:=⟨F.Args,F.Locals,F.Code.take 250⟩
def ownP (p:ab):ab:=⟨p.Decls.take 40,(p.Waits.take 40).map ownW,(p.Funcs.take 20).map ownF⟩
theorem jl {α:Type} [Inhabited α] (L:List α) (m i:Nat) (h:i<L.length) (hm:i<m):(L.take m).drop i=L.getD i default::(L.take m).drop (i+1):=by
  rw [aV (L.take m) i (by simp;omega)]
  congr 1
  rw [List.getD_eq_getElem?_getD,List.getD_eq_getElem?_getD,List.getElem?_take_of_lt hm]
theorem vN {p:ab} {k:Nat} {G:List al} {K:List al→Option ab} (hk:k<p.Funcs.length) (hG:G.length≤20):∀ (n i f:Nat) (acc:List ao),i+n=min (p.Funcs.getD k default).Code.length 250→n<f→acc.length=i→
    cO p ((k:Int),G) K f ((i:Int),acc)=K (G++[⟨(p.Funcs.getD k default).Args,(p.Funcs.getD k default).Locals,acc++((p.Funcs.getD k default).Code.take 250).drop i⟩])
  | n,i,0,acc,hi,hf,ha=>by omega
  | 0,i,f+1,acc,hi,hf,ha=>by
    rw [cO]
    dsimp only
    rw [an (aH ⟨by omega,by omega⟩),Int.toNat_natCast]
    have:(iLt (i:Int) ((p.Funcs.getD k default).Code.length:Int)&&iLt (i:Int) 250)=false:=by
      rw [Bool.and_eq_false_iff,bc,bc];omega
    rw [this,cond_false,an (bg (by simp only [List.length_append,List.length_cons,List.length_nil];omega)),List.drop_eq_nil_of_le (by rw [List.length_take];omega),List.append_nil]
  | n+1,i,f+1,acc,hi,hf,ha=>by
    rw [cO]
    dsimp only
    rw [an (aH ⟨by omega,by omega⟩),Int.toNat_natCast,aY (by omega),aY (by omega),Bool.and_self,cond_true,an (aH ⟨by omega,by omega⟩),an (aH ⟨by omega,by omega⟩),an (bg (by simp only [List.length_append,List.length_cons,List.length_nil];omega)),w64 (by omega),show (i:Int)+1=((i+1:Nat):Int) by omega,vN hk hG n (i+1) f _ (by omega) (by omega) (by simp;omega),jl _ 250 i (by omega) (by omega),Int.toNat_natCast]
    simp
theorem vO (p:ab) (D:List af) (W:List (List (List aa))) (x y:Int):∀ (n i f:Nat) (acc:List al),i+n=min p.Funcs.length 20→n<f→acc.length=i→
    ct p (x,D) (y,W) f ((i:Int),acc)=some ⟨D,W,acc++((p.Funcs.take 20).drop i).map ownF⟩
  | n,i,0,acc,hi,hf,ha=>by omega
  | 0,i,f+1,acc,hi,hf,ha=>by
    rw [ct]
    dsimp only
    have:(iLt (i:Int) (p.Funcs.length:Int)&&iLt (i:Int) 20)=false:=by
      rw [Bool.and_eq_false_iff,bc,bc];omega
    rw [this,cond_false,List.drop_eq_nil_of_le (by rw [List.length_take];omega),List.map_nil,List.append_nil]
  | n+1,i,f+1,acc,hi,hf,ha=>by
    rw [ct]
    dsimp only
    have hN:nIn (i:Int) (p.Funcs.length:Int)=true:=aH ⟨by omega,by omega⟩
    rw [aY (by omega),aY (by omega),Bool.and_self,cond_true,dP,an hN,an hN,jl _ 20 i (by omega) (by omega),List.map_cons]
    have:=vN (p:=p) (k:=i) (G:=acc) (K:=fun s14=>ct p (x,D) (y,W) f (IntKind.i64.wrap ((i:Int)+1),s14)) (by omega) (by omega) (min (p.Funcs.getD i default).Code.length 250) 0 fuel [] (by omega) (by have:=aJ;omega) rfl
    refine Eq.trans this ?_
    rw [w64 (by omega),show (i:Int)+1=((i+1:Nat):Int) by omega,vO p D W x y n (i+1) f _ (by omega) (by omega) (by simp;omega)]
    simp [ownF]
theorem xr (p:ab) (D:List af) (x:Int):∀ (n i f:Nat) (acc:List (List (List aa))),i+n=min p.Waits.length 40→n<f→acc.length=i→
    dg p (x,D) f ((i:Int),acc)=some ⟨D,acc++((p.Waits.take 40).drop i).map ownW,(p.Funcs.take 20).map ownF⟩
  | n,i,0,acc,hi,hf,ha=>by omega
  | 0,i,f+1,acc,hi,hf,ha=>by
    rw [dg]
    dsimp only
    have:(iLt (i:Int) (p.Waits.length:Int)&&iLt (i:Int) 40)=false:=by
      rw [Bool.and_eq_false_iff,bc,bc];omega
    rw [this,cond_false,List.drop_eq_nil_of_le (by rw [List.length_take];omega),List.map_nil,List.append_nil]
    have h:=vO p D acc x (i:Int) (min p.Funcs.length 20) 0 fuel [] (by omega) (by have:=aJ;omega) rfl
    rw [List.drop_zero,List.nil_append] at h
    exact h
  | n+1,i,f+1,acc,hi,hf,ha=>by
    rw [dg]
    dsimp only
    rw [aY (by omega),aY (by omega),Bool.and_self,cond_true,an (aH ⟨by omega,by omega⟩),Int.toNat_natCast,xV,ah,an (bg (by simp only [List.length_append,List.length_cons,List.length_nil];omega)),w64 (by omega),show (i:Int)+1=((i+1:Nat):Int) by omega,xr p D x n (i+1) f _ (by omega) (by omega) (by simp;omega),jl _ 40 i (by omega) (by omega),List.map_cons]
    simp
theorem xt (p:ab):∀ (n i f:Nat) (acc:List af),i+n=min p.Decls.length 40→n<f→acc.length=i→
    dh p f ((i:Int),acc)=some ⟨acc++(p.Decls.take 40).drop i,(p.Waits.take 40).map ownW,(p.Funcs.take 20).map ownF⟩
  | n,i,0,acc,hi,hf,ha=>by omega
  | 0,i,f+1,acc,hi,hf,ha=>by
    rw [dh]
    dsimp only
    have:(iLt (i:Int) (p.Decls.length:Int)&&iLt (i:Int) 40)=false:=by
      rw [Bool.and_eq_false_iff,bc,bc];omega
    rw [this,cond_false,List.drop_eq_nil_of_le (by rw [List.length_take];omega),List.append_nil]
    have h:=xr p acc (i:Int) (min p.Waits.length 40) 0 fuel [] (by omega) (by have:=aJ;omega) rfl
    rw [List.drop_zero,List.nil_append] at h
    exact h
  | n+1,i,f+1,acc,hi,hf,ha=>by
    rw [dh]
    dsimp only
    rw [aY (by omega),aY (by omega),Bool.and_self,cond_true,an (aH ⟨by omega,by omega⟩),Int.toNat_natCast,an (bg (by simp only [List.length_append,List.length_cons,List.length_nil];omega)),w64 (by omega),show (i:Int)+1=((i+1:Nat):Int) by omega,xt p n (i+1) f _ (by omega) (by omega) (by simp;omega),jl _ 40 i (by omega) (by omega)]
    simp
theorem xW (p:ab):eY p=some (ownP p):=by
  unfold eY
  have h:=xt p (min p.Decls.length 40) 0 fuel [] (by omega) (by have:=aJ;omega) rfl
  rw [List.drop_zero,List.nil_append] at h
  exact h
theorem tQ {p:ab} (g:jN p):ownP p=p:=by
  obtain ⟨D,W,F⟩:=p
  have g1:=(kT g.decls).1
  have g2:=g.waits
  have g3:=g.funcs
  have g4:=g.fns
  have g0:=g.decls
  dsimp only at*
  unfold ownP
  dsimp only
  congr 1
  · exact List.take_of_length_le (by omega)
  · rw [List.take_of_length_le (by omega)]
    refine Eq.trans (List.map_congr_left (g:=id) fun w hw=>?_) (List.map_id W)
    exact va (jk.of g0 (g2.2 w hw))
  · rw [List.take_of_length_le (by omega)]
    refine Eq.trans (List.map_congr_left (g:=id) fun f hf=>?_) (List.map_id F)
    have:=(g4 f hf).code
    unfold ownF
    rw [List.take_of_length_le (by omega)]
    rfl
end LJ
end
section
namespace LJ
open Go Go.RowKit
set_option linter.unusedVariables false
set_option linter.unusedSimpArgs false
structure I64N (x:aa):Prop where
  o: -9223372036854775808≤x.Obj∧x.Obj≤9223372036854775807
  n: -9223372036854775808≤x.N∧x.N≤9223372036854775807
theorem kV:∀ f u,(decF f u).length≤f
  | 0,u=>Nat.le_refl _
  | f+1,u=>by
    rw [decF];split
    · simp
    · rw [List.length_append];have:=kV f (u /10);simp;omega
theorem cK (n:Int):(aW n).length≤21:=by
  unfold aW;split
  · rw [List.length_cons];have:=kV 20 n.natAbs;omega
  · have:=kV 20 n.toNat;omega
theorem vb:∀ (f g u:Nat),u<10 ^f→0<f→f≤g→decF g u=decF f u:=fun f g u h h0 hg=>by
  rw [lx f u h h0,lx g u (Nat.lt_of_lt_of_le h (Nat.pow_le_pow_right (by decide) hg)) (by omega)]
theorem iB {n:Int} (h: -9223372036854775808≤n∧n≤9223372036854775807):strconv_Itoa n=some (bs (aW n)):=by
  unfold strconv_Itoa
  rw [an (wz h)];rfl
def cH (k:Int):List UInt8:=cond (iEq k 1) [108,111,99,107] (cond (iEq k 2) [114,101,97,100] (cond (iEq k 3) [119,114,105,116,101] (cond (iEq k 4) [100,111,119,110] (cond (iEq k 5) [116,97,107,101] [110,111,110,101]))))
theorem tR (k:Int):ey k=some (bs (cH k)):=by
  unfold ey cH
  cases iEq k 1 <;> cases iEq k 2 <;> cases iEq k 3 <;> cases iEq k 4 <;> cases iEq k 5 <;> rfl
theorem gJ (k:Int):(cH k).length≤5:=by
  unfold cH
  cases iEq k 1 <;> cases iEq k 2 <;> cases iEq k 3 <;> cases iEq k 4 <;> cases iEq k 5 <;> decide
def ym:List ByteArray:=[(⟨#[110,111,110,101]⟩:ByteArray),(⟨#[108,111,99,107]⟩:ByteArray),(⟨#[114,101,97,100]⟩:ByteArray),(⟨#[119,114,105,116,101]⟩:ByteArray),(⟨#[100,111,119,110]⟩:ByteArray),(⟨#[116,97,107,101]⟩:ByteArray)]
def eA (x:aa):List UInt8:=cH x.Kind++[32]++aW x.Obj++cond (iEq x.Kind 4||iEq x.Kind 5) ([58]++aW x.N) []
theorem lF (x:aa):(eA x).length≤49:=by
  have h1:=gJ x.Kind
  have h2:=cK x.Obj
  have h3:=cK x.N
  unfold eA
  cases iEq x.Kind 4||iEq x.Kind 5 with
  | true=>simp;omega
  | false=>simp;omega
def dq:Bool→List aa→List UInt8
  | _,[]=>[]
  | z,x::t=>cond z [] [32,43,32]++eA x++dq false t
def dQ:Bool→List (List aa)→List UInt8
  | _,[]=>[]
  | z,l::t=>cond z [] [32,124,32]++dq true l++dQ false t
theorem jO (u:Bool) (b s:ByteArray):ax ⟨u,b⟩ s=need (nCap (b.size+s.size)) (some ((s.size:Int),(),(⟨true,b++s⟩:au))):=by
  unfold ax bo
  cases u <;> rfl
theorem lits:(⟨#[32,43,32]⟩:ByteArray)=bs [32,43,32]∧(⟨#[32]⟩:ByteArray)=bs [32]∧(⟨#[58]⟩:ByteArray)=bs [58]∧(⟨#[32,124,32]⟩:ByteArray)=bs [32,124,32]:=⟨rfl,rfl,rfl,rfl⟩
theorem xu {W:List (List aa)} {s1:Int×Bool×ByteArray} {K:(Bool×ByteArray)→Option ByteArray} {l:List aa} (hl:W.getD s1.1.toNat default=l) (h6:l.length≤6) (hr:∀ x∈l,I64N x):∀ (n i f:Nat) (u:Bool) (b:ByteArray),i+n=l.length→n<f→b.size+60*n≤100000→
    ∃ u',bu W s1 K f ((i:Int),u,b)=K (u',b++bs (dq (Nat.beq i 0) (l.drop i)))
  | n,i,0,u,b,hi,hf,hb=>by omega
  | 0,i,f+1,u,b,hi,hf,hb=>by
    refine ⟨u,?_⟩
    rw [bu]
    dsimp only
    rw [hl,bk (by omega),cond_false,List.drop_eq_nil_of_le (by omega)]
    congr 2
    apply bS
    simp [dq]
  | n+1,i,f+1,u,b,hi,hf,hb=>by
    rw [bu]
    dsimp only
    have hm:l.getD i default∈l:=by
      rw [List.getD_eq_getElem?_getD,List.getElem?_eq_getElem (by omega)]
      exact List.getElem_mem _
    have hx:=hr _ hm
    rw [hl,aY (by omega),cond_true,an (aH ⟨by omega,by omega⟩),Int.toNat_natCast,aV l i (by omega)]
    generalize l.getD i default=x at*
    have g1:=gJ x.Kind
    have g2:=cK x.Obj
    have g3:=cK x.N
    have g4:=lF x
    have w:IntKind.i64.wrap ((i:Int)+1)=((i+1:Nat):Int):=by rw [w64 (by omega)];omega
    obtain ⟨l1,l2,l3,_⟩:=lits
    have ih:∀ b':ByteArray,b'.size+60*n≤100000→∃ u',bu W s1 K f (((i+1:Nat):Int),true,b')=K (u',b'++bs (dq false (l.drop (i+1)))):=fun b' hb'=>xu hl h6 hr n (i+1) f true b' (by omega) (by omega) hb'
    unfold aK
    rw [l1,l2,l3,iB hx.o,iB hx.n,tR]
    simp only [ah,jO]
    rw [dq]
    by_cases h0:i=0
    · subst h0
      rw [bk (by decide),cond_false,an (bQ (by simp only [aD,ByteArray.size_append,List.length_cons,List.length_nil];omega)),an (bQ (by simp only [aD,ByteArray.size_append,List.length_cons,List.length_nil];omega)),an (bg (by simp only [aD,ByteArray.size_append,List.length_cons,List.length_nil];omega)),ah]
      dsimp only
      unfold eA at*
      cases hc:(iEq x.Kind 4||iEq x.Kind 5) with
      | true=>
        rw [hc] at g4
        rw [cond_true,jO,an (bQ (by simp only [aD,ByteArray.size_append,List.length_cons,List.length_nil];omega)),an (bg (by simp only [aD,ByteArray.size_append,List.length_cons,List.length_nil];omega)),ah]
        dsimp only
        rw [w]
        obtain ⟨u',hu⟩:=ih (b++(bs (cH x.Kind)++bs [32]++bs (aW x.Obj))++(bs [58]++bs (aW x.N))) (by simp only [aD,ByteArray.size_append,List.length_cons,List.length_nil];omega)
        refine ⟨u',Eq.trans hu ?_⟩
        congr 2
        apply bS
        simp [Nat.beq]
      | false=>
        rw [cond_false,w]
        obtain ⟨u',hu⟩:=ih (b++(bs (cH x.Kind)++bs [32]++bs (aW x.Obj))) (by simp only [aD,ByteArray.size_append,List.length_cons,List.length_nil];omega)
        refine ⟨u',Eq.trans hu ?_⟩
        congr 2
        apply bS
        simp [Nat.beq]
    · have hbq:Nat.beq i 0=false:=by cases i with
        | zero=>exact absurd rfl h0
        | succ i=>rfl
      rw [aY (by omega),cond_true,an (bg (by simp only [aD,ByteArray.size_append,List.length_cons,List.length_nil];omega)),ah]
      dsimp only
      rw [jO,an (bQ (by simp only [aD,ByteArray.size_append,List.length_cons,List.length_nil];omega)),an (bQ (by simp only [aD,ByteArray.size_append,List.length_cons,List.length_nil];omega)),an (bg (by simp only [aD,ByteArray.size_append,List.length_cons,List.length_nil];omega)),ah]
      dsimp only
      unfold eA at*
      cases hc:(iEq x.Kind 4||iEq x.Kind 5) with
      | true=>
        rw [hc] at g4
        rw [cond_true,jO,an (bQ (by simp only [aD,ByteArray.size_append,List.length_cons,List.length_nil];omega)),an (bg (by simp only [aD,ByteArray.size_append,List.length_cons,List.length_nil];omega)),ah]
        dsimp only
        rw [w]
        obtain ⟨u',hu⟩:=ih (b++bs [32,43,32]++(bs (cH x.Kind)++bs [32]++bs (aW x.Obj))++(bs [58]++bs (aW x.N))) (by simp only [aD,ByteArray.size_append,List.length_cons,List.length_nil];omega)
        refine ⟨u',Eq.trans hu ?_⟩
        congr 2
        apply bS
        simp [hbq]
      | false=>
        rw [cond_false,w]
        obtain ⟨u',hu⟩:=ih (b++bs [32,43,32]++(bs (cH x.Kind)++bs [32]++bs (aW x.Obj))) (by simp only [aD,ByteArray.size_append,List.length_cons,List.length_nil];omega)
        refine ⟨u',Eq.trans hu ?_⟩
        congr 2
        apply bS
        simp [hbq]
theorem xv {W:List (List aa)} {s1:Int×Bool×ByteArray} {K:(Bool×ByteArray)→Option ByteArray} {l:List aa} (hl:W.getD s1.1.toNat default=l) (h6:l.length≤6) (hr:∀ x∈l,I64N x):∀ (n i f:Nat) (u:Bool) (b:ByteArray),i+n=l.length→n<f→b.size+60*n≤100000→
    ∃ u',bw W s1 K f ((i:Int),u,b)=K (u',b++bs (dq (Nat.beq i 0) (l.drop i)))
  | n,i,0,u,b,hi,hf,hb=>by omega
  | 0,i,f+1,u,b,hi,hf,hb=>by
    refine ⟨u,?_⟩
    rw [bw]
    dsimp only
    rw [hl,bk (by omega),cond_false,List.drop_eq_nil_of_le (by omega)]
    congr 2
    apply bS
    simp [dq]
  | n+1,i,f+1,u,b,hi,hf,hb=>by
    rw [bw]
    dsimp only
    have hm:l.getD i default∈l:=by
      rw [List.getD_eq_getElem?_getD,List.getElem?_eq_getElem (by omega)]
      exact List.getElem_mem _
    have hx:=hr _ hm
    rw [hl,aY (by omega),cond_true,an (aH ⟨by omega,by omega⟩),Int.toNat_natCast,aV l i (by omega)]
    generalize l.getD i default=x at*
    have g1:=gJ x.Kind
    have g2:=cK x.Obj
    have g3:=cK x.N
    have g4:=lF x
    have w:IntKind.i64.wrap ((i:Int)+1)=((i+1:Nat):Int):=by rw [w64 (by omega)];omega
    obtain ⟨l1,l2,l3,_⟩:=lits
    have ih:∀ b':ByteArray,b'.size+60*n≤100000→∃ u',bw W s1 K f (((i+1:Nat):Int),true,b')=K (u',b'++bs (dq false (l.drop (i+1)))):=fun b' hb'=>xv hl h6 hr n (i+1) f true b' (by omega) (by omega) hb'
    unfold aK
    rw [l1,l2,l3,iB hx.o,iB hx.n,tR]
    simp only [ah,jO]
    rw [dq]
    by_cases h0:i=0
    · subst h0
      rw [bk (by decide),cond_false,an (bQ (by simp only [aD,ByteArray.size_append,List.length_cons,List.length_nil];omega)),an (bQ (by simp only [aD,ByteArray.size_append,List.length_cons,List.length_nil];omega)),an (bg (by simp only [aD,ByteArray.size_append,List.length_cons,List.length_nil];omega)),ah]
      dsimp only
      unfold eA at*
      cases hc:(iEq x.Kind 4||iEq x.Kind 5) with
      | true=>
        rw [hc] at g4
        rw [cond_true,jO,an (bQ (by simp only [aD,ByteArray.size_append,List.length_cons,List.length_nil];omega)),an (bg (by simp only [aD,ByteArray.size_append,List.length_cons,List.length_nil];omega)),ah]
        dsimp only
        rw [w]
        obtain ⟨u',hu⟩:=ih (b++(bs (cH x.Kind)++bs [32]++bs (aW x.Obj))++(bs [58]++bs (aW x.N))) (by simp only [aD,ByteArray.size_append,List.length_cons,List.length_nil];omega)
        refine ⟨u',Eq.trans hu ?_⟩
        congr 2
        apply bS
        simp [Nat.beq]
      | false=>
        rw [cond_false,w]
        obtain ⟨u',hu⟩:=ih (b++(bs (cH x.Kind)++bs [32]++bs (aW x.Obj))) (by simp only [aD,ByteArray.size_append,List.length_cons,List.length_nil];omega)
        refine ⟨u',Eq.trans hu ?_⟩
        congr 2
        apply bS
        simp [Nat.beq]
    · have hbq:Nat.beq i 0=false:=by cases i with
        | zero=>exact absurd rfl h0
        | succ i=>rfl
      rw [aY (by omega),cond_true,an (bg (by simp only [aD,ByteArray.size_append,List.length_cons,List.length_nil];omega)),ah]
      dsimp only
      rw [jO,an (bQ (by simp only [aD,ByteArray.size_append,List.length_cons,List.length_nil];omega)),an (bQ (by simp only [aD,ByteArray.size_append,List.length_cons,List.length_nil];omega)),an (bg (by simp only [aD,ByteArray.size_append,List.length_cons,List.length_nil];omega)),ah]
      dsimp only
      unfold eA at*
      cases hc:(iEq x.Kind 4||iEq x.Kind 5) with
      | true=>
        rw [hc] at g4
        rw [cond_true,jO,an (bQ (by simp only [aD,ByteArray.size_append,List.length_cons,List.length_nil];omega)),an (bg (by simp only [aD,ByteArray.size_append,List.length_cons,List.length_nil];omega)),ah]
        dsimp only
        rw [w]
        obtain ⟨u',hu⟩:=ih (b++bs [32,43,32]++(bs (cH x.Kind)++bs [32]++bs (aW x.Obj))++(bs [58]++bs (aW x.N))) (by simp only [aD,ByteArray.size_append,List.length_cons,List.length_nil];omega)
        refine ⟨u',Eq.trans hu ?_⟩
        congr 2
        apply bS
        simp [hbq]
      | false=>
        rw [cond_false,w]
        obtain ⟨u',hu⟩:=ih (b++bs [32,43,32]++(bs (cH x.Kind)++bs [32]++bs (aW x.Obj))) (by simp only [aD,ByteArray.size_append,List.length_cons,List.length_nil];omega)
        refine ⟨u',Eq.trans hu ?_⟩
        congr 2
        apply bS
        simp [hbq]
theorem jm:∀ (l:List aa) (z:Bool),(dq z l).length≤52*l.length
  | [],z=>by simp [dq]
  | x::t,z=>by
    have:=jm t false
    have:=lF x
    rw [dq,List.length_cons]
    cases z <;> simp <;> omega
theorem T_l2 {W:List (List aa)} (h6:W.length≤6) (hw:∀ l∈W,l.length≤6∧∀ x∈l,I64N x):∀ (n i f:Nat) (u:Bool) (b:ByteArray),i+n=W.length→n<f→b.size+500*n≤50000→
    cw W f ((i:Int),u,b)=some (b++bs (dQ (Nat.beq i 0) (W.drop i)))
  | n,i,0,u,b,hi,hf,hb=>by omega
  | 0,i,f+1,u,b,hi,hf,hb=>by
    rw [cw]
    dsimp only
    rw [bk (by omega),cond_false,List.drop_eq_nil_of_le (by omega)]
    unfold bb
    rw [ah]
    exact congrArg some (bS (by simp [dQ]))
  | n+1,i,f+1,u,b,hi,hf,hb=>by
    have hm:W.getD i default∈W:=by
      rw [List.getD_eq_getElem?_getD,List.getElem?_eq_getElem (by omega)]
      exact List.getElem_mem _
    obtain ⟨h1,h2⟩:=hw _ hm
    obtain ⟨_,_,_,l4⟩:=lits
    have hj:=jm (W.getD i default) true
    rw [cw]
    dsimp only
    rw [aY (by omega),cond_true,dP,an (aH ⟨by omega,by omega⟩),aV W i (by omega),dQ]
    have w:IntKind.i64.wrap ((i:Int)+1)=((i+1:Nat):Int):=by rw [w64 (by omega)];omega
    by_cases h0:i=0
    · subst h0
      rw [bk (by decide),cond_false]
      obtain ⟨u',hu⟩:=xv (W:=W) (s1:=(((0:Nat):Int),u,b)) (K:=fun s5:Bool×ByteArray=>cw W f (IntKind.i64.wrap (((0:Nat):Int)+1),s5.1,s5.2)) (l:=W.getD 0 default) rfl h1 h2 (W.getD 0 default).length 0 fuel u b (by omega) (by have:=aJ;omega) (by omega)
      refine Eq.trans hu ?_
      dsimp only
      rw [w,T_l2 h6 hw n (0+1) f u' _ (by omega) (by omega) (by simp only [aD,ByteArray.size_append,List.drop_zero,Nat.beq];omega)]
      exact congrArg some (bS (by simp [Nat.beq]))
    · have hbq:Nat.beq i 0=false:=by cases i with
        | zero=>exact absurd rfl h0
        | succ i=>rfl
      rw [aY (by omega),cond_true,l4,jO,an (bg (by simp only [aD,List.length_cons,List.length_nil];omega)),ah]
      dsimp only
      obtain ⟨u',hu⟩:=xu (W:=W) (s1:=((i:Int),u,b)) (K:=fun s5:Bool×ByteArray=>cw W f (IntKind.i64.wrap ((i:Int)+1),s5.1,s5.2)) (l:=W.getD i default) (by rw [Int.toNat_natCast]) h1 h2 (W.getD i default).length 0 fuel true (b++bs [32,124,32]) (by omega) (by have:=aJ;omega) (by simp only [aD,ByteArray.size_append,List.length_cons,List.length_nil];omega)
      refine Eq.trans hu ?_
      dsimp only
      rw [w,T_l2 h6 hw n (i+1) f u' _ (by omega) (by omega) (by simp only [aD,ByteArray.size_append,List.length_cons,List.length_nil,List.drop_zero,Nat.beq];omega)]
      exact congrArg some (bS (by simp [Nat.beq,hbq]))
theorem tS {W:List (List aa)} (h6:W.length≤6) (hw:∀ l∈W,l.length≤6∧∀ x∈l,I64N x):e9 W=some (bs (dQ true W)):=by
  unfold e9
  rw [show (0:Int)=((0:Nat):Int) from rfl,T_l2 h6 hw W.length 0 fuel false _ (by omega) (by have:=aJ;omega) (by show 0+_≤_;omega)]
  exact congrArg some (bS (by simp [Nat.beq]))
end LJ
end
section
namespace LJ
open Go Go.RowKit
set_option linter.unusedVariables false
set_option linter.unusedSimpArgs false
def pa (s:ByteArray):List ByteArray→Int→Int
  | [],_=> -1
  | x::l,i=>cond (sEq x s) i (pa s l (i+1))
def fm (s:ByteArray):Int:=pa s ed 0
theorem tT:∀ k:Fin 52,fm (ed.getD k default)=(k:Nat):=by decide+kernel
theorem tU:∀ k:Fin 52,(bl (ed.getD k default)).all (fun b=>decide (97≤b.toNat∧b.toNat≤122))=true∧0<(ed.getD k default).size∧(ed.getD k default).size≤1000:=by decide+kernel
end LJ
end
section
namespace LJ
open Go Go.RowKit
set_option linter.unusedVariables false
set_option linter.unusedSimpArgs false
end LJ
end
section
namespace LJ
open Go Go.RowKit
set_option linter.unusedVariables false
set_option linter.unusedSimpArgs false
theorem lG:cT=some true:=by decide+kernel
theorem dv {α:Type} [Inhabited α] (L:List α) (i:Nat) (h:i<L.length):L.getD i default∈L:=by
  rw [List.getD_eq_getElem?_getD,List.getElem?_eq_getElem h]
  exact List.getElem_mem _
theorem jN.wait {p:ab} (h:jN p):∀ w∈p.Waits,jk w:=fun w hw=>jk.of h.decls (h.waits.2 w hw)
def iC (n:Int):Prop:= -9223372036854775808≤n∧n≤9223372036854775807
def aZ (l:List Int):List UInt8:=l.flatMap fun n=>32::aW n
theorem cN:∀ l:List Int,(aZ l).length≤22*l.length
  | []=>Nat.le_refl _
  | n::l=>by
    have h1:=cN l
    have h2:=cK n
    show ((32::aW n)++aZ l).length≤_
    rw [List.length_append,List.length_cons,List.length_cons]
    omega
theorem mT {L:List Int} (hL:L.length≤2) (hi:∀ n∈L,iC n):∀ (n i f:Nat) (b:ByteArray),i+n=L.length→n<f→b.size+22*n≤1000000→cD L f (b,(i:Int))=some (b++bs (aZ (L.drop i)))
  | n,i,0,b,h,hf,hb=>by omega
  | 0,i,f+1,b,h,hf,hb=>by
    rw [cD]
    dsimp only
    rw [bk (by omega),cond_false,List.drop_eq_nil_of_le (by omega)]
    congr 1
    apply bS
    simp [aZ]
  | n+1,i,f+1,b,h,hf,hb=>by
    have hm:=hi _ (dv L i (by omega))
    have h2:=cK (L.getD i default)
    rw [cD]
    dsimp only
    rw [aY (by omega),cond_true,an (aH ⟨by omega,by omega⟩),Int.toNat_natCast,iB hm,ah,lits.2.1,an (bQ (by simp only [aD,List.length_cons,List.length_nil];omega)),an (bQ (by simp only [ByteArray.size_append,aD,List.length_cons,List.length_nil];omega)),w64 (by omega),show (i:Int)+1=((i+1:Nat):Int) by omega,mT hL hi n (i+1) f _ (by omega) (by omega) (by simp only [ByteArray.size_append,aD,List.length_cons,List.length_nil];omega),aV L i (by omega)]
    congr 1
    apply bS
    simp [aZ]
theorem jP {L:List Int} (hL:L.length≤2) (hi:∀ n∈L,iC n):dz L=some (bs (aZ L)):=by
  unfold dz
  rw [show (0:Int)=((0:Nat):Int) from rfl,mT hL hi L.length 0 fuel _ (by omega) (by have:=aJ;omega) (by show 0+_≤_;omega),List.drop_zero]
  exact congrArg some (bS (by simp))
theorem qw {a b:Int} (ha:iC a) (hb:iC b) (k:Nat):∀ n∈[a,b].take k,iC n:=fun n hn=>by
  have:=List.mem_of_mem_take hn
  simp only [List.mem_cons,List.not_mem_nil,or_false] at this
  rcases this with rfl | rfl
  · exact ha
  · exact hb
theorem mU (l:List Int) (k:Nat):(l.take (k:Int).toNat).drop (0:Int).toNat=l.take k:=by rw [Int.toNat_natCast];rfl
theorem jn (a b:Int) (k:Nat):([a,b].take k).length≤2:=by rw [List.length_take];exact Nat.min_le_right _ _
theorem rP:∀ k:Fin 52,(ed.getD k default).size≤20:=by decide+kernel
theorem mV (k:Int):(iy k).size≤20:=by
  unfold iy
  cases h:opK k with
  | false=>exact Nat.zero_le _
  | true=>
    have hk:=eH.1 h
    exact rP ⟨k.toNat,by omega⟩
def gK (x:ao):List UInt8:=bl (iy x.Op)++aZ ([x.A,x.B].take (dk x.Op).size)
theorem jo (x:ao):(gK x).length≤100:=by
  have h1:=mV x.Op
  have h2:=cN ([x.A,x.B].take (dk x.Op).size)
  have h3:=jn x.A x.B (dk x.Op).size
  unfold gK
  rw [List.length_append,qU]
  omega
theorem qx {x:ao} (ha:iC x.A) (hb:iC x.B):gZ x=some (bs (gK x)):=by
  have hf:=fF x.Op
  have h1:=mV x.Op
  have h2:=cN ([x.A,x.B].take (dk x.Op).size)
  have h3:=jn x.A x.B (dk x.Op).size
  unfold gZ
  rw [mQ,ah,hJ,ah,an (j2 ⟨by decide,by omega,by simp only [List.length_cons,List.length_nil];omega⟩),mU,jP h3 (qw ha hb _),ah,an (bQ (by rw [aD];omega))]
  exact congrArg some (bS (by simp [gK]))
end LJ
end
section
namespace LJ
open Go Go.RowKit
set_option linter.unusedVariables false
set_option linter.unusedSimpArgs false
theorem ri (W:List (List aa)) (i:Nat) (hi:i<W.length) (K:Unit→Option Bool) (hl:(W.getD i default).length≤1000):∀ (n j f:Nat),j+n=(W.getD i default).length→n<f→cF W W (i:Int) K f (j:Int)=K ()
  | n,j,0,h,hf=>by omega
  | 0,j,f+1,h,hf=>by
    rw [cF,an (aH ⟨by omega,by omega⟩),Int.toNat_natCast,bk (by omega),cond_false]
  | n+1,j,f+1,h,hf=>by
    have h1:nIn (i:Int) (W.length:Int)=true:=aH ⟨by omega,by omega⟩
    have h2:nIn (j:Int) ((W.getD i default).length:Int)=true:=aH ⟨by omega,by omega⟩
    rw [cF,Int.toNat_natCast,an h1,aY (by omega),cond_true,an h1,an h2,an h1,an h2,cW rfl,cW rfl,cW rfl]
    simp only [Bool.and_self,Bool.not_true,cond_false]
    rw [w64 (by omega),show (j:Int)+1=((j+1:Nat):Int) by omega]
    exact ri W i hi K hl n (j+1) f (by omega) (by omega)
theorem tV (W:List (List aa)) (hW:W.length≤1000) (hl:∀ l∈W,l.length≤1000):∀ (n i f:Nat),i+n=W.length→n<f→cx W W f (i:Int)=some true
  | n,i,0,hi,hf=>by omega
  | 0,i,f+1,hi,hf=>by rw [cx,bk (by omega)];rfl
  | n+1,i,f+1,hi,hf=>by
    have h1:nIn (i:Int) (W.length:Int)=true:=aH ⟨by omega,by omega⟩
    have hm:=dv W i (by omega)
    rw [cx,aY (by omega),cond_true,dP,an h1,an h1,df rfl,cond_false]
    have:=ri W i (by omega) (fun _=>cx W W f (IntKind.i64.wrap ((i:Int)+1))) (hl _ hm) (W.getD i default).length 0 fuel (by omega) (by have:=aJ;have:=hl _ hm;omega)
    refine Eq.trans this ?_
    rw [w64 (by omega),show (i:Int)+1=((i+1:Nat):Int) by omega]
    exact tV W hW hl n (i+1) f (by omega) (by omega)
theorem tW {W:List (List aa)} (hW:W.length≤1000) (hl:∀ l∈W,l.length≤1000):dp W W=some true:=by
  unfold dp
  rw [df rfl,cond_false]
  exact tV W hW hl W.length 0 fuel (by omega) (by have:=aJ;omega)
theorem tX {W:List (List aa)} (g:jk W):dp W W=some true:=
  tW (by have:=g.len;omega) fun l hl=>by have:=(g.ways l hl).1;omega
theorem vP (p:ab) (k:Nat) (K:Unit→Option Bool) (hl:(p.Funcs.getD k default).Code.length≤200):∀ (n i f:Nat),i+n=(p.Funcs.getD k default).Code.length→n<f→cG p p (k:Int) K f (i:Int)=K ()
  | n,i,0,hi,hf=>by omega
  | 0,i,f+1,hi,hf=>by rw [cG,Int.toNat_natCast,bk (by omega),cond_false]
  | n+1,i,f+1,hi,hf=>by
    have h2:nIn (i:Int) ((p.Funcs.getD k default).Code.length:Int)=true:=aH ⟨by omega,by omega⟩
    rw [cG,Int.toNat_natCast,aY (by omega),cond_true,an h2,an h2,cW rfl,cW rfl,cW rfl]
    simp only [Bool.and_self,Bool.not_true,cond_false]
    rw [w64 (by omega),show (i:Int)+1=((i+1:Nat):Int) by omega]
    exact vP p k K hl n (i+1) f (by omega) (by omega)
theorem vQ (p:ab) (hF:p.Funcs.length≤16) (hc:∀ F∈p.Funcs,F.Code.length≤200):∀ (n i f:Nat),i+n=p.Funcs.length→n<f→bW p p f (i:Int)=some true
  | n,i,0,hi,hf=>by omega
  | 0,i,f+1,hi,hf=>by rw [bW,bk (by omega)];rfl
  | n+1,i,f+1,hi,hf=>by
    have h1:nIn (i:Int) (p.Funcs.length:Int)=true:=aH ⟨by omega,by omega⟩
    have hm:=hc _ (dv p.Funcs i (by omega))
    rw [bW,aY (by omega),cond_true,dP,an h1,an h1,df rfl,df rfl,df rfl]
    simp only [Bool.or_self,cond_false]
    have:=vP p i (fun _=>bW p p f (IntKind.i64.wrap ((i:Int)+1))) hm (p.Funcs.getD i default).Code.length 0 fuel (by omega) (by have:=aJ;omega)
    refine Eq.trans this ?_
    rw [w64 (by omega),show (i:Int)+1=((i+1:Nat):Int) by omega]
    exact vQ p hF hc n (i+1) f (by omega) (by omega)
theorem xw (p:ab) (hF:p.Funcs.length≤16) (hc:∀ F∈p.Funcs,F.Code.length≤200) (hW:p.Waits.length≤32) (hw:∀ w∈p.Waits,dp w w=some true):∀ (n i f:Nat),i+n=p.Waits.length→n<f→cU p p f (i:Int)=some true
  | n,i,0,hi,hf=>by omega
  | 0,i,f+1,hi,hf=>by
    rw [cU,bk (by omega),cond_false]
    exact vQ p hF hc p.Funcs.length 0 fuel (by omega) (by have:=aJ;omega)
  | n+1,i,f+1,hi,hf=>by
    have h1:nIn (i:Int) (p.Waits.length:Int)=true:=aH ⟨by omega,by omega⟩
    rw [cU,aY (by omega),cond_true,an h1,an h1,Int.toNat_natCast,hw _ (dv p.Waits i (by omega)),ah,Bool.not_true,cond_false,w64 (by omega),show (i:Int)+1=((i+1:Nat):Int) by omega]
    exact xw p hF hc hW hw n (i+1) f (by omega) (by omega)
theorem xx (p:ab) (hF:p.Funcs.length≤16) (hc:∀ F∈p.Funcs,F.Code.length≤200) (hW:p.Waits.length≤32) (hw:∀ w∈p.Waits,dp w w=some true) (hD:p.Decls.length≤32):∀ (n i f:Nat),i+n=p.Decls.length→n<f→cV p p f (i:Int)=some true
  | n,i,0,hi,hf=>by omega
  | 0,i,f+1,hi,hf=>by
    rw [cV,bk (by omega),cond_false]
    exact xw p hF hc hW hw p.Waits.length 0 fuel (by omega) (by have:=aJ;omega)
  | n+1,i,f+1,hi,hf=>by
    have h1:nIn (i:Int) (p.Decls.length:Int)=true:=aH ⟨by omega,by omega⟩
    rw [cV,aY (by omega),cond_true,an h1,an h1,cW rfl,cW rfl,cW rfl]
    simp only [Bool.and_self,Bool.not_true,cond_false]
    rw [w64 (by omega),show (i:Int)+1=((i+1:Nat):Int) by omega]
    exact xx p hF hc hW hw hD n (i+1) f (by omega) (by omega)
theorem xy {p:ab} (hF:p.Funcs.length≤16) (hc:∀ F∈p.Funcs,F.Code.length≤200) (hW:p.Waits.length≤32) (hw:∀ w∈p.Waits,dp w w=some true) (hD:p.Decls.length≤32):ec p p=some true:=by
  unfold ec
  rw [df rfl,df rfl,df rfl]
  simp only [Bool.or_self,cond_false]
  exact xx p hF hc hW hw hD p.Decls.length 0 fuel (by omega) (by have:=aJ;omega)
theorem rQ {p:ab} (g:jN p):ec p p=some true:=
  xy g.funcs.2 (fun F hF=>(g.fns F hF).code.2) g.waits.1 (fun w hw=>tX (g.wait w hw)) (kT g.decls).1
end LJ
end
section
namespace LJ
open Go Go.RowKit
set_option linter.unusedVariables false
set_option linter.unusedSimpArgs false
theorem xX:(⟨#[32,32]⟩:ByteArray)=bs [32,32]:=rfl
theorem b_nl:(⟨#[10]⟩:ByteArray)=bs [10]:=rfl
theorem xz:(⟨#[102,117,110,99]⟩:ByteArray)=bs [102,117,110,99]:=rfl
theorem xA:(⟨#[119,97,105,116,32]⟩:ByteArray)=bs [119,97,105,116,32]:=rfl
theorem xY:(⟨#[111,98,106,101,99,116,32]⟩:ByteArray)=bs [111,98,106,101,99,116,32]:=rfl
def gL (k:Int):ByteArray:=(dN k).getD ByteArray.empty
theorem kb (k:Int):dN k=some (gL k):=by
  unfold gL dN
  cases iEq k 1 <;> cases iEq k 2 <;> cases iEq k 3 <;> cases iEq k 4 <;> cases iEq k 5 <;> cases iEq k 6 <;> cases iEq k 7 <;> rfl
theorem mW (k:Int):(gL k).size≤5:=by
  unfold gL dN
  cases iEq k 1 <;> cases iEq k 2 <;> cases iEq k 3 <;> cases iEq k 4 <;> cases iEq k 5 <;> cases iEq k 6 <;> cases iEq k 7 <;> decide
def iE (k:Int):Nat:=cond (iEq k 3) 2 (cond (iEq k 7) 2 (cond (iEq k 6) 1 0))
theorem nY (k:Int):iE k≤2:=by
  unfold iE
  cases iEq k 3 <;> cases iEq k 7 <;> cases iEq k 6 <;> decide
theorem nZ (k:Int):fC k=some (iE k:Int):=by
  unfold fC iE
  cases iEq k 3 <;> cases iEq k 7 <;> cases iEq k 6 <;> rfl
def objL (d:af):List UInt8:=[111,98,106,101,99,116,32]++bl (gL d.Kind)++aZ ([d.A,d.B].take (iE d.Kind))
theorem rj (d:af):(objL d).length≤100:=by
  have h1:=mW d.Kind
  have h2:=cN ([d.A,d.B].take (iE d.Kind))
  have h3:=jn d.A d.B (iE d.Kind)
  unfold objL
  rw [List.length_append,List.length_append,qU]
  simp only [List.length_cons,List.length_nil]
  omega
theorem tY {d:af} (ha:iC d.A) (hb:iC d.B):fD d=some (bs (objL d)):=by
  have h1:=mW d.Kind
  have h2:=cN ([d.A,d.B].take (iE d.Kind))
  have h3:=jn d.A d.B (iE d.Kind)
  have h4:=nY d.Kind
  unfold fD
  rw [kb,ah,xY,an (bQ (by simp only [aD,List.length_cons,List.length_nil];omega)),nZ,ah,an (j2 ⟨by decide,by omega,by simp only [List.length_cons,List.length_nil];omega⟩),mU,jP h3 (qw ha hb _),ah,an (bQ (by simp only [ByteArray.size_append,aD,List.length_cons,List.length_nil];omega))]
  exact congrArg some (bS (by simp [objL]))
def insL (x:ao):List UInt8:=[32,32]++gK x++[10]
def mn (F:al):List UInt8:=[102,117,110,99]++aZ [F.Args,F.Locals]++[10]
def fZ (F:al):List UInt8:=mn F++F.Code.flatMap insL
def hX (w:List (List aa)):List UInt8:=[119,97,105,116,32]++dQ true w++[10]
def jq (d:af):List UInt8:=objL d++[10]
def gM (p:ab):List UInt8:=p.Decls.flatMap jq++p.Waits.flatMap hX++p.Funcs.flatMap fZ
theorem tZ {α:Type} {f:α→List UInt8} {m:Nat} :∀ {l:List α},(∀ x∈l,(f x).length≤m)→(l.flatMap f).length≤m*l.length
  | [],h=>Nat.zero_le _
  | x::l,h=>by
    have h1:=h x (List.mem_cons_self ..)
    have h2:=tZ (l:=l) (m:=m) (fun y hy=>h y (List.mem_cons_of_mem _ hy))
    rw [List.flatMap_cons,List.length_append,List.length_cons,Nat.mul_succ]
    omega
theorem vc (x:ao):(insL x).length≤103:=by
  have:=jo x
  unfold insL
  simp only [List.length_append,List.length_cons,List.length_nil]
  omega
theorem pb (F:al):(mn F).length≤49:=by
  have:=cN [F.Args,F.Locals]
  unfold mn
  simp only [List.length_append,List.length_cons,List.length_nil] at*
  omega
theorem ua {F:al} (g:qv F):(fZ F).length≤21000:=by
  have h1:=pb F
  have h2:=tZ (f:=insL) (m:=103) (l:=F.Code) (fun x _=>vc x)
  have h3:=g.code
  unfold fZ
  rw [List.length_append]
  omega
theorem jr:∀ {W:List (List aa)} {z:Bool},(∀ l∈W,l.length≤4)→(dQ z W).length≤220*W.length
  | [],z,h=>Nat.zero_le _
  | l::W,z,h=>by
    have h1:=h l (List.mem_cons_self ..)
    have h2:=jr (W:=W) (z:=false) (fun y hy=>h y (List.mem_cons_of_mem _ hy))
    have h3:=jm l true
    have h4:(cond z ([]:List UInt8) [32,124,32]).length≤3:=by cases z <;> decide
    rw [dQ,List.length_append,List.length_append,List.length_cons]
    omega
theorem ub {w:List (List aa)} (g:jk w):(hX w).length≤900:=by
  have h1:=jr (W:=w) (z:=true) (fun l hl=>(g.ways l hl).1.2)
  have h2:=g.len
  unfold hX
  simp only [List.length_append,List.length_cons,List.length_nil]
  omega
theorem uc (d:af):(jq d).length≤101:=by
  have:=rj d
  unfold jq
  simp only [List.length_append,List.length_cons,List.length_nil]
  omega
theorem OkI.rng {x:ao} (h:OkI x):iC x.A∧iC x.B:=by
  constructor
  · by_cases c:(dk x.Op).size=0
    · rw [h.a0 c];exact ⟨by decide,by decide⟩
    · have:=nO (h.a1 (by omega))
      exact ⟨by omega,by omega⟩
  · by_cases c:(dk x.Op).size≤1
    · rw [h.b0 c];exact ⟨by decide,by decide⟩
    · have:=nO (h.b1 (by omega))
      exact ⟨by omega,by omega⟩
theorem RngD.rng {d:af} (h:RngD d):iC d.A∧iC d.B:=⟨⟨by have:=h.a;omega,by have:=h.a;omega⟩,⟨by have:=h.b;omega,by have:=h.b;omega⟩⟩
theorem jk.text {w:List (List aa)} (g:jk w):w.length≤6∧∀ l∈w,l.length≤6∧∀ x∈l,I64N x:=
  ⟨by have:=g.len;omega,fun l hl=>⟨by have:=(g.ways l hl).1;omega,fun x hx=>by
    have:=(g.ways l hl).2 x hx
    exact ⟨by have:=this.o;omega,by have:=this.n;omega⟩⟩⟩
theorem vR {p:ab} {s:Int×Bool×ByteArray} {K:(Bool×ByteArray)→Option (ByteArray×Int)} {F:al} (hF:p.Funcs.getD s.1.toNat default=F) (g:qv F):∀ (n i f:Nat) (u:Bool) (b:ByteArray),i+n=F.Code.length→n<f→b.size+103*n≤10000000→
    ∃ u',di p s K f ((i:Int),u,b)=K (u',b++bs ((F.Code.drop i).flatMap insL))
  | n,i,0,u,b,hi,hf,hb=>by omega
  | 0,i,f+1,u,b,hi,hf,hb=>by
    refine ⟨u,?_⟩
    rw [di]
    dsimp only
    rw [hF,bk (by omega),cond_false,List.drop_eq_nil_of_le (by omega)]
    congr 2
    apply bS
    simp
  | n+1,i,f+1,u,b,hi,hf,hb=>by
    have hx:=tC (g.ins _ (dv F.Code i (by omega)))
    have hl:=jo (F.Code.getD i default)
    have hc:=g.code
    rw [di]
    dsimp only
    rw [hF,aY (by omega),cond_true,an (aH ⟨by omega,by omega⟩),Int.toNat_natCast,qx hx.rng.1 hx.rng.2,ah,xX,b_nl,an (bQ (by simp only [aD,List.length_cons,List.length_nil];omega)),an (bQ (by simp only [ByteArray.size_append,aD,List.length_cons,List.length_nil];omega)),jO,an (bg (by simp only [ByteArray.size_append,aD,List.length_cons,List.length_nil];omega)),ah,w64 (by omega),show (i:Int)+1=((i+1:Nat):Int) by omega]
    obtain ⟨u',hu⟩:=vR (p:=p) (s:=s) (K:=K) hF g n (i+1) f true (b++(bs [32,32]++bs (gK (F.Code.getD i default))++bs [10])) (by omega) (by omega) (by simp only [ByteArray.size_append,aD,List.length_cons,List.length_nil];omega)
    refine ⟨u',Eq.trans hu ?_⟩
    rw [aV F.Code i (by omega),List.flatMap_cons]
    congr 2
    apply bS
    simp [insL]
theorem vS {p:ab} (g:jN p):∀ (n i f:Nat) (u:Bool) (b:ByteArray),i+n=p.Funcs.length→n<f→b.size+21000*n≤5000000→
    cM p f ((i:Int),u,b)=some (b++bs ((p.Funcs.drop i).flatMap fZ),0)
  | n,i,0,u,b,hi,hf,hb=>by omega
  | 0,i,f+1,u,b,hi,hf,hb=>by
    rw [cM]
    unfold bb
    dsimp only
    rw [bk (by omega),cond_false,List.drop_eq_nil_of_le (by omega),ah]
    congr 2
    apply bS
    simp
  | n+1,i,f+1,u,b,hi,hf,hb=>by
    have gF:=g.fns _ (dv p.Funcs i (by omega))
    have hl:=ua gF
    have hh:=pb (p.Funcs.getD i default)
    have hfs:=g.funcs
    have hN:nIn (i:Int) (p.Funcs.length:Int)=true:=aH ⟨by omega,by omega⟩
    have ⟨h1,h2,h3,_⟩:=gF
    have hn:=cN [(p.Funcs.getD i default).Args,(p.Funcs.getD i default).Locals]
    simp only [List.length_cons,List.length_nil] at hn
    rw [cM]
    dsimp only
    rw [aY (by omega),cond_true,dP,an hN,Int.toNat_natCast,jP (L:=[(p.Funcs.getD i default).Args,(p.Funcs.getD i default).Locals]) (Nat.le_refl 2) (qw (a:=(p.Funcs.getD i default).Args) (b:=(p.Funcs.getD i default).Locals) ⟨by omega,by omega⟩ ⟨by omega,by omega⟩ 2),ah,xz,b_nl,an (bQ (by simp only [aD,List.length_cons,List.length_nil];omega)),an (bQ (by simp only [ByteArray.size_append,aD,List.length_cons,List.length_nil];omega)),jO,an (bg (by simp only [ByteArray.size_append,aD,List.length_cons,List.length_nil];omega)),ah]
    obtain ⟨u',hu⟩:=vR (p:=p) (s:=((i:Int),u,b)) (K:=fun s20=>cM p f (IntKind.i64.wrap ((i:Int)+1),s20.1,s20.2)) (F:=p.Funcs.getD i default) (by rw [Int.toNat_natCast]) gF (p.Funcs.getD i default).Code.length 0 fuel true (b++(bs [102,117,110,99]++bs (aZ [(p.Funcs.getD i default).Args,(p.Funcs.getD i default).Locals])++bs [10])) (by omega) (by have:=aJ;omega) (by simp only [ByteArray.size_append,aD,List.length_cons,List.length_nil];omega)
    refine Eq.trans hu ?_
    have hl2:(fZ (p.Funcs.getD i default)).length=(mn (p.Funcs.getD i default)).length+((p.Funcs.getD i default).Code.flatMap insL).length:=List.length_append
    have hh2:(mn (p.Funcs.getD i default)).length=4+(aZ [(p.Funcs.getD i default).Args,(p.Funcs.getD i default).Locals]).length+1:=by unfold mn;simp only [List.length_append,List.length_cons,List.length_nil]
    rw [List.drop_zero]
    dsimp only
    rw [w64 (by omega),show (i:Int)+1=((i+1:Nat):Int) by omega,vS g n (i+1) f u' _ (by omega) (by omega) (by simp only [ByteArray.size_append,aD,List.length_cons,List.length_nil];omega),aV p.Funcs i (by omega),List.flatMap_cons]
    congr 2
    apply bS
    simp [fZ,mn]
theorem vT {p:ab} (g:jN p):∀ (n i f:Nat) (u:Bool) (b:ByteArray),i+n=p.Waits.length→n<f→b.size+900*n≤1000000→
    dj p f ((i:Int),u,b)=some (b++bs ((p.Waits.drop i).flatMap hX++p.Funcs.flatMap fZ),0)
  | n,i,0,u,b,hi,hf,hb=>by omega
  | 0,i,f+1,u,b,hi,hf,hb=>by
    have hfs:=g.funcs
    rw [dj]
    dsimp only
    rw [bk (by omega),cond_false,List.drop_eq_nil_of_le (by omega),show (0:Int)=((0:Nat):Int) from rfl,vS g p.Funcs.length 0 fuel u b (by omega) (by have:=aJ;omega) (by omega),List.drop_zero,List.flatMap_nil,List.nil_append]
    rfl
  | n+1,i,f+1,u,b,hi,hf,hb=>by
    have gw:=g.wait _ (dv p.Waits i (by omega))
    have hl:=ub gw
    have hws:=g.waits.1
    have hl2:(hX (p.Waits.getD i default)).length=5+(dQ true (p.Waits.getD i default)).length+1:=by unfold hX;simp only [List.length_append,List.length_cons,List.length_nil]
    rw [dj]
    dsimp only
    rw [aY (by omega),cond_true,an (aH ⟨by omega,by omega⟩),Int.toNat_natCast,tS gw.text.1 gw.text.2,ah,xA,b_nl,an (bQ (by simp only [aD,List.length_cons,List.length_nil];omega)),an (bQ (by simp only [ByteArray.size_append,aD,List.length_cons,List.length_nil];omega)),jO,an (bg (by simp only [ByteArray.size_append,aD,List.length_cons,List.length_nil];omega)),ah]
    dsimp only
    rw [w64 (by omega),show (i:Int)+1=((i+1:Nat):Int) by omega,vT g n (i+1) f true _ (by omega) (by omega) (by simp only [ByteArray.size_append,aD,List.length_cons,List.length_nil];omega),aV p.Waits i (by omega),List.flatMap_cons]
    congr 2
    apply bS
    simp [hX]
theorem xB {p:ab} (g:jN p):∀ (n i f:Nat) (u:Bool) (b:ByteArray),i+n=p.Decls.length→n<f→b.size+101*n≤100000→
    dA p f ((i:Int),u,b)=some (b++bs ((p.Decls.drop i).flatMap jq++(p.Waits.flatMap hX++p.Funcs.flatMap fZ)),0)
  | n,i,0,u,b,hi,hf,hb=>by omega
  | 0,i,f+1,u,b,hi,hf,hb=>by
    have hws:=g.waits.1
    rw [dA]
    dsimp only
    rw [bk (by omega),cond_false,List.drop_eq_nil_of_le (by omega),show (0:Int)=((0:Nat):Int) from rfl,vT g p.Waits.length 0 fuel u b (by omega) (by have:=aJ;omega) (by omega),List.drop_zero,List.flatMap_nil,List.nil_append]
    rfl
  | n+1,i,f+1,u,b,hi,hf,hb=>by
    have hd:=(qg g.decls)
    have hR:=hd.2.2.2 _ (dv p.Decls i (by omega))
    have hl:=uc (p.Decls.getD i default)
    have hl2:(jq (p.Decls.getD i default)).length=(objL (p.Decls.getD i default)).length+1:=by unfold jq;simp only [List.length_append,List.length_cons,List.length_nil]
    rw [dA]
    dsimp only
    rw [aY (by omega),cond_true,an (aH ⟨by omega,by omega⟩),Int.toNat_natCast,tY hR.rng.1 hR.rng.2,ah,b_nl,an (bQ (by simp only [aD,List.length_cons,List.length_nil];omega)),jO,an (bg (by simp only [ByteArray.size_append,aD,List.length_cons,List.length_nil];omega)),ah]
    dsimp only
    rw [w64 (by omega),show (i:Int)+1=((i+1:Nat):Int) by omega,xB g n (i+1) f true _ (by omega) (by omega) (by simp only [ByteArray.size_append,aD,List.length_cons,List.length_nil];omega),aV p.Decls i (by omega),List.flatMap_cons]
    congr 2
    apply bS
    simp [jq]
theorem lH {p:ab} (h:chkP p=0):fj p=some (bs (gM p),0):=by
  have g:=jN.of h
  have hd:=(qg g.decls).1
  unfold fj
  rw [fY,ah,df h,cond_false,show (0:Int)=((0:Nat):Int) from rfl,xB g p.Decls.length 0 fuel false ByteArray.empty (by omega) (by have:=aJ;omega) (by show 0+_≤_;omega),List.drop_zero]
  congr 2
  apply bS
  simp [gM]
end LJ
end
