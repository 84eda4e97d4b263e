/- Several texts of plain Lean, one behind the other. No condition. -/
import Derived.Test.YtdebndfaknfefaaGreatDoorQA
section
namespace LJ
end LJ
end
section
namespace LJ
open Go Go.RowKit
set_option linter.unusedVariables false
set_option linter.unusedSimpArgs false
def Am (k:Int):Int:=cond (iEq k 1) 1 (cond (iEq k 2||iEq k 3) 2 (cond (iEq k 4) 3 6))
def badN (L:List ai) (x:af):Int:=
  cond (iLt x.Kind 1||iLt 5 x.Kind) 6 (cond (iLt x.Obj 0||iLe (L.length:Int) x.Obj) 1 (cond (iEq (L.getD x.Obj.toNat default).Kind (Am x.Kind))
    (cond (iEq x.Kind 4) (cond (iLt x.N 1||iLt (L.getD x.Obj.toNat default).B x.N) 1 0) (cond (iEq x.Kind 5) (cond (iLt x.N 1||iLt (L.getD x.Obj.toNat default).A x.N) 1 0) (cond (iLt x.N 0||iLt 0 x.N) 1 0))) 1))
theorem CA (a b:Int):iNe a b= !iEq a b:=by unfold iNe iEq;simp
theorem BP {k:Int} (h:1≤k∧k≤5):([0,1,2,2,3,6]:List Int).getD k.toNat default=Am k:=by
  have h5:k=1∨k=2∨k=3∨k=4∨k=5:=by omega
  rcases h5 with rfl | rfl | rfl | rfl | rfl <;> decide
theorem uF (L:List ai) (x:af):iM L x=some (badN L x):=by
  unfold iM badN
  cases h1:(iLt x.Kind 1||iLt 5 x.Kind) with
  | true=>rfl
  | false=>
    simp only [Bool.or_eq_false_iff,bd] at h1
    rw [cond_false,cond_false]
    cases h2:(iLt x.Obj 0||iLe (L.length:Int) x.Obj) with
    | true=>rfl
    | false=>
      simp only [Bool.or_eq_false_iff,bd,ik] at h2
      have hn:nIn x.Obj (L.length:Int)=true:=aI h2
      have hk:nIn x.Kind (([0,1,2,2,3,6]:List Int).length:Int)=true:=aI ⟨by omega,by simp only [List.length_cons,List.length_nil];omega⟩
      rw [hn,hk,Bool.or_true,au rfl,au rfl,Bool.false_or,cond_false,BP (by omega),CA,la]
      simp only [au,aZ]
      by_cases k4:x.Kind=4
      · rw [aO k4,aK (show x.Kind≠5 by omega)]
        simp only [cond_true,cond_false]
      · rw [aK k4]
        simp only [cond_true,cond_false]
theorem v8 (L:List ai) (x:af):mQ L x=some (badN L x):=by
  unfold mQ badN bj
  simp only [kE,ae]
  by_cases h:x.Kind<1∨5<x.Kind
  · rw [show (iLt x.Kind 1||iLt 5 x.Kind)=true by simp only [Bool.or_eq_true,cG];exact h,cond_true]
    rw [aK (show x.Kind≠1 by omega),aK (show x.Kind≠2 by omega),aK (show x.Kind≠3 by omega),aK (show x.Kind≠4 by omega),aK (show x.Kind≠5 by omega)]
    rfl
  · rw [show (iLt x.Kind 1||iLt 5 x.Kind)=false by simp only [Bool.or_eq_false_iff,bd];omega,cond_false]
    have h5:x.Kind=1∨x.Kind=2∨x.Kind=3∨x.Kind=4∨x.Kind=5:=by omega
    unfold fitD fitK Am
    cases h2:(iLt x.Obj 0||iLe (L.length:Int) x.Obj) with
    | true=>
      rcases h5 with e | e | e | e | e <;> rw [e] <;> rfl
    | false=>
      simp only [Bool.or_eq_false_iff,bd,ik] at h2
      have hn:nIn x.Obj (L.length:Int)=true:=aI h2
      have lt:iLt x.N 1=true→iLt x.N 0=true∨iLt x.N 0=false:=fun _=>by cases iLt x.N 0 <;> simp
      have l01:(iLt x.N 1||iLt x.N 0)=iLt x.N 1:=by
        rw [Bool.eq_iff_iff];simp only [Bool.or_eq_true,cG];omega
      rcases h5 with e | e | e | e | e <;> rw [e] <;> simp only [show iEq 1 1=true from rfl,show iEq 1 2=false from rfl,show iEq 1 3=false from rfl,show iEq 1 4=false from rfl,show iEq 1 5=false from rfl,show iEq 2 1=false from rfl,show iEq 2 2=true from rfl,show iEq 2 3=false from rfl,show iEq 2 4=false from rfl,show iEq 2 5=false from rfl,show iEq 3 1=false from rfl,show iEq 3 2=false from rfl,show iEq 3 3=true from rfl,show iEq 3 4=false from rfl,show iEq 3 5=false from rfl,show iEq 4 1=false from rfl,show iEq 4 2=false from rfl,show iEq 4 3=false from rfl,show iEq 4 4=true from rfl,show iEq 4 5=false from rfl,show iEq 5 1=false from rfl,show iEq 5 2=false from rfl,show iEq 5 3=false from rfl,show iEq 5 4=false from rfl,show iEq 5 5=true from rfl,show iEq 109 117=false from rfl,show iEq 109 115=false from rfl,show iEq 109 112=false from rfl,show iEq 109 99=false from rfl,show iEq 109 109=true from rfl,show iEq 117 117=true from rfl,show iEq 115 117=false from rfl,show iEq 115 115=true from rfl,show iEq 112 117=false from rfl,show iEq 112 115=false from rfl,show iEq 112 112=true from rfl,hn,Bool.or_true,au,cond_true,cond_false,Bool.false_or,Bool.or_false,Bool.true_or,Bool.false_and,Bool.true_and,Bool.not_not,Bool.and_true,Bool.and_false,CA,aZ,l01]
      all_goals
        generalize hK:(L.getD x.Obj.toNat default).Kind=K
        first
          | (cases iEq K 1 <;> rfl)
          | (cases iEq K 3 <;> rfl)
          | (cases iEq K 6 <;> rfl)
          | (by_cases hK1:K=1
             · subst hK1;rfl
             · rw [aK hK1];cases iEq K 2 <;> rfl)
def ie (L:List ai):List af→Int
  | []=>0
  | x::t=>cond (iNe (badN L x) 0) (badN L x) (ie L t)
def uG (l:List af) (j k:Nat):Bool:=(iEq (l.getD j default).Obj (l.getD k default).Obj||iEq (l.getD j default).Kind 4)||iEq (l.getD k default).Kind 4
def hit (l:List af) (k:Nat):Nat→Nat→Bool
  | 0,_=>false
  | n+1,i=>uG l i k||hit l k n (i+1)
def hits (l:List af):Nat→Nat→Bool
  | 0,_=>false
  | n+1,k=>hit l k k 0||hits l n (k+1)
def badW (L:List ai) (l:List af):Int:=
  cond (iEq (l.length:Int) 0) 2 (cond (iLt 4 (l.length:Int)) 4 (cond (iNe (ie L l) 0) (ie L l) (cond (hits l l.length 0) 2 0)))
def oa (L:List ai):List (List af)→Int
  | []=>0
  | l::t=>cond (iNe (badW L l) 0) (badW L l) (oa L t)
def chkW (L:List ai) (W:List (List af)):Int:=cond (iEq (W.length:Int) 0) 2 (cond (iLt 4 (W.length:Int)) 4 (oa L W))
theorem dN {α β γ:Type} (K:α→β) (f:(α→β)→γ):iJ K f=f K:=rfl
theorem An {α:Type} (a b:Bool) (x y:α):cond (a||b) x y=cond a x (cond b x y):=by cases a <;> rfl
theorem D9 {W:List (List af)} {s:Int} {j:Nat} {K:Unit→Option Int} (hj:j<(W.getD s.toNat default).length) (h4:(W.getD s.toNat default).length≤4):∀ (n i f:Nat),i+n=j→n<f→b8 W s (j:Int) K f (i:Int)=cond (hit (W.getD s.toNat default) j n i) (some 2) (K ())
  | n,i,0,hi,hf=>by omega
  | 0,i,f+1,hi,hf=>by
    rw [b8,aW (by omega),cond_false];rfl
  | n+1,i,f+1,hi,hf=>by
    have e1:nIn (i:Int) ((W.getD s.toNat default).length:Int)=true:=aI ⟨by omega,by omega⟩
    have e2:nIn (j:Int) ((W.getD s.toNat default).length:Int)=true:=aI ⟨by omega,by omega⟩
    rw [b8,aV (by omega),cond_true,e1,e2,Bool.or_true,Bool.or_true,w64 (by omega),show (i:Int)+1=((i+1:Nat):Int) by omega,au rfl,au rfl,au rfl,au rfl,D9 hj h4 n (i+1) f (by omega) (by omega),Int.toNat_natCast,Int.toNat_natCast,hit]
    exact (An (uG _ i j) _ _ _).symm
theorem Eb {W:List (List af)} {s:Int} {K:Unit→Option Int} (h4:(W.getD s.toNat default).length≤4):∀ (n i f:Nat),i+n=(W.getD s.toNat default).length→n<f→bK W s K f (i:Int)=cond (hits (W.getD s.toNat default) n i) (some 2) (K ())
  | n,i,0,hi,hf=>by omega
  | 0,i,f+1,hi,hf=>by
    rw [bK,aW (by omega),cond_false];rfl
  | n+1,i,f+1,hi,hf=>by
    rw [bK,aV (by omega),cond_true,dN,w64 (by omega),show (i:Int)+1=((i+1:Nat):Int) by omega]
    have ih:=Eb (K:=K) h4 n (i+1) f (by omega) (by omega)
    have:=D9 (W:=W) (s:=s) (j:=i) (K:=fun _=>bK W s K f ((i+1:Nat):Int)) (by omega) h4 i 0 fuel (by omega) (by have:=aJ;omega)
    rw [hits,An,←ih]
    exact this
theorem Ec {L:List ai} {W:List (List af)} {s:Int} {K:Unit→Option Int} (h4:(W.getD s.toNat default).length≤4):∀ (n i f:Nat),i+n=(W.getD s.toNat default).length→n<f→b9 L W s K f (i:Int)=cond (iNe (ie L ((W.getD s.toNat default).drop i)) 0) (some (ie L ((W.getD s.toNat default).drop i))) (cond (hits (W.getD s.toNat default) (W.getD s.toNat default).length 0) (some 2) (K ()))
  | n,i,0,hi,hf=>by omega
  | 0,i,f+1,hi,hf=>by
    rw [b9,aW (by omega),cond_false,List.drop_eq_nil_of_le (by omega),ie,bG rfl,cond_false]
    exact Eb h4 (W.getD s.toNat default).length 0 fuel (by omega) (by have:=aJ;omega)
  | n+1,i,f+1,hi,hf=>by
    rw [b9,aV (by omega),cond_true,au (aI ⟨by omega,by omega⟩),w64 (by omega),show (i:Int)+1=((i+1:Nat):Int) by omega,uF,ae,Ec h4 n (i+1) f (by omega) (by omega),cr _ i (by omega),ie,Int.toNat_natCast]
    by_cases hb:badN L ((W.getD s.toNat default).getD i default)=0
    · rw [bG hb,cond_false,cond_false]
    · rw [cm hb,cond_true,cond_true,cm hb,cond_true]
theorem w_l4 {L:List ai} {W:List (List af)} (hW:W.length≤4):∀ (n i f:Nat),i+n=W.length→n<f→bS L W f (i:Int)=some (oa L (W.drop i))
  | n,i,0,hi,hf=>by omega
  | 0,i,f+1,hi,hf=>by
    rw [bS,aW (by omega),cond_false,List.drop_eq_nil_of_le (by omega)]
    rfl
  | n+1,i,f+1,hi,hf=>by
    rw [bS,aV (by omega),cond_true,dN,w64 (by omega),show (i:Int)+1=((i+1:Nat):Int) by omega,au (aI ⟨by omega,by omega⟩),cr W i (by omega),oa,badW]
    have ih:=w_l4 (L:=L) hW n (i+1) f (by omega) (by omega)
    rw [Int.toNat_natCast]
    by_cases h0:((W.getD i default).length:Int)=0
    · rw [aO h0,cond_true,cond_true,cm (by decide),cond_true]
    · rw [aK h0,cond_false,cond_false]
      by_cases h4:4<((W.getD i default).length:Int)
      · rw [aV h4,cond_true,cond_true,cm (by decide),cond_true]
      · rw [aW (by omega),cond_false,cond_false]
        have:=Ec (L:=L) (W:=W) (s:=(i:Int)) (K:=fun _=>bS L W f ((i+1:Nat):Int)) (by rw [Int.toNat_natCast];omega) ((W.getD (i:Int).toNat default).length) 0 fuel (by omega) (by have:=aJ;rw [Int.toNat_natCast];omega)
        rw [Int.toNat_natCast,List.drop_zero] at this
        refine Eq.trans this ?_
        rw [ih]
        by_cases hb:ie L (W.getD i default)=0
        · rw [bG hb,cond_false,cond_false]
          cases hits (W.getD i default) (W.getD i default).length 0 with
          | true=>rfl
          | false=>rfl
        · rw [cm hb,cond_true,cond_true,cm hb,cond_true]
theorem qR (L:List ai) (W:List (List af)):fF L W=some (chkW L W):=by
  unfold fF chkW
  by_cases h0:(W.length:Int)=0
  · rw [aO h0];rfl
  · rw [aK h0,cond_false,cond_false]
    by_cases h4:4<(W.length:Int)
    · rw [aV h4];rfl
    · rw [aW (by omega),cond_false,cond_false]
      exact w_l4 (by omega) W.length 0 fuel (by omega) (by have:=aJ;omega)
theorem wa {L:List ai} {x:af} (h:badN L x=0):(1≤x.Kind∧x.Kind≤5)∧(0≤x.Obj∧x.Obj<L.length)∧(L.getD x.Obj.toNat default).Kind=Am x.Kind∧0≤x.N∧(x.Kind=4→x.N≤(L.getD x.Obj.toNat default).B)∧(x.Kind=5→x.N≤(L.getD x.Obj.toNat default).A)∧(x.Kind≤3→x.N=0):=by
  unfold badN at h
  cases h1:(iLt x.Kind 1||iLt 5 x.Kind) with
  | true=>rw [h1,cond_true] at h;cases h
  | false=>
    rw [h1,cond_false] at h
    simp only [Bool.or_eq_false_iff,bd] at h1
    cases h2:(iLt x.Obj 0||iLe (L.length:Int) x.Obj) with
    | true=>rw [h2,cond_true] at h;cases h
    | false=>
      rw [h2,cond_false] at h
      simp only [Bool.or_eq_false_iff,bd,ik] at h2
      cases h3:iEq (L.getD x.Obj.toNat default).Kind (Am x.Kind) with
      | false=>rw [h3,cond_false] at h;cases h
      | true=>
        rw [h3,cond_true] at h
        rw [cn] at h3
        refine ⟨by omega,by omega,h3,?_⟩
        by_cases k4:x.Kind=4
        · rw [aO k4,cond_true] at h
          cases h4:(iLt x.N 1||iLt (L.getD x.Obj.toNat default).B x.N) with
          | true=>rw [h4] at h;cases h
          | false=>simp only [Bool.or_eq_false_iff,bd] at h4;omega
        · rw [aK k4,cond_false] at h
          by_cases k5:x.Kind=5
          · rw [aO k5,cond_true] at h
            cases h4:(iLt x.N 1||iLt (L.getD x.Obj.toNat default).A x.N) with
            | true=>rw [h4] at h;cases h
            | false=>simp only [Bool.or_eq_false_iff,bd] at h4;omega
          · rw [aK k5,cond_false] at h
            cases h4:(iLt x.N 0||iLt 0 x.N) with
            | true=>rw [h4] at h;cases h
            | false=>simp only [Bool.or_eq_false_iff,bd] at h4;omega
theorem pX {L:List ai} :∀ {l:List af},ie L l=0→∀ x∈l,badN L x=0
  | [],h=>fun x hx=>by cases hx
  | y::t,h=>by
    unfold ie at h
    by_cases hy:badN L y=0
    · rw [bG hy,cond_false] at h
      intro x hx
      rcases List.mem_cons.1 hx with rfl | hx
      · exact hy
      · exact pX h x hx
    · rw [cm hy,cond_true] at h;exact absurd h hy
def sM (s:Nat):List af→Nat
  | []=>s
  | x::t=>sM (s|||2 ^x.Obj.toNat) t
theorem CB:∀ (i k x:Nat),i<k→x.testBit i=false→pc k (x+2 ^i)=pc k x+1
  | 0,k+1,x,hi,h=>by
    rw [Nat.testBit_zero] at h
    simp only [decide_eq_false_iff_not] at h
    rw [pc,pc,Nat.pow_zero,show (x+1) /2=x /2 by omega]
    omega
  | i+1,k+1,x,hi,h=>by
    rw [Nat.testBit_succ] at h
    have e1:(x+2 ^(i+1)) %2=x %2:=by rw [Nat.pow_succ];omega
    have e2:(x+2 ^(i+1)) /2=x /2+2 ^i:=by rw [Nat.pow_succ];omega
    rw [pc,pc,e1,e2,CB i k (x /2) (by omega) h]
    omega
theorem ET {s i:Nat} (hs:s<2 ^64) (hi:i<64):s|||2 ^i<2 ^64:=Nat.or_lt_two_pow hs (Nat.pow_lt_pow_right (by decide) hi)
theorem xw:∀ (l:List af) (s:Nat),(∀ x∈l,x.Obj.toNat<64)→pc 64 (sM s l)≤pc 64 s+l.length∧(pc 64 (sM s l)=pc 64 s+l.length↔(∀ x∈l,s.testBit x.Obj.toNat=false)∧l.Pairwise fun x y=>x.Obj.toNat≠y.Obj.toNat)
  | [],s,h=>by simp [sM]
  | x::t,s,h=>by
    obtain ⟨h1,h2⟩:=xw t (s|||2 ^x.Obj.toNat) fun y hy=>h y (List.mem_cons_of_mem _ hy)
    have hx:=h x (List.mem_cons_self ..)
    rw [sM,List.length_cons]
    have ho:=Cz x.Obj.toNat s
    cases hb:s.testBit x.Obj.toNat with
    | true=>
      rw [hb,if_pos rfl] at ho
      rw [ho] at h1 ⊢
      refine ⟨by omega,⟨fun h=>by omega,fun h=>?_⟩⟩
      have:=h.1 x (List.mem_cons_self ..)
      rw [hb] at this;cases this
    | false=>
      rw [hb,if_neg Bool.false_ne_true] at ho
      have hp:=CB x.Obj.toNat 64 s hx hb
      rw [←ho] at hp
      rw [hp] at h1 h2
      refine ⟨by omega,?_⟩
      rw [show pc 64 s+(t.length+1)=pc 64 s+1+t.length by omega,h2,List.pairwise_cons]
      constructor
      · rintro ⟨a,b⟩
        refine ⟨fun y hy=>?_,fun y hy he=>?_,b⟩
        · rcases List.mem_cons.1 hy with rfl | hy
          · exact hb
          · have:=a y hy
            rw [Nat.testBit_or,Bool.or_eq_false_iff] at this
            exact this.1
        · have:=a y hy
          rw [←he,Nat.testBit_or,Nat.testBit_two_pow] at this
          simp at this
      · rintro ⟨a,b,c⟩
        refine ⟨fun y hy=>?_,c⟩
        rw [Nat.testBit_or,a y (List.mem_cons_of_mem _ hy),Nat.testBit_two_pow,Bool.false_or]
        exact decide_eq_false (b y hy)
theorem Ap (l:List af) (k:Nat):∀ n i,hit l k n i=true↔∃ j,i≤j∧j<i+n∧uG l j k=true
  | 0,i=>by simp [hit];intro j h1 h2;omega
  | n+1,i=>by
    rw [hit,Bool.or_eq_true,Ap l k n (i+1)]
    constructor
    · rintro (h | ⟨j,h1,h2,h3⟩)
      · exact ⟨i,by omega,by omega,h⟩
      · exact ⟨j,by omega,by omega,h3⟩
    · rintro ⟨j,h1,h2,h3⟩
      rcases Nat.eq_or_lt_of_le h1 with rfl | h1
      · exact .inl h3
      · exact .inr ⟨j,h1,by omega,h3⟩
theorem xx (l:List af):∀ n i,hits l n i=true↔∃ j k,i≤k∧k<i+n∧j<k∧uG l j k=true
  | 0,i=>by simp [hits];intro j k h1 h2;omega
  | n+1,i=>by
    rw [hits,Bool.or_eq_true,xx l n (i+1),Ap]
    constructor
    · rintro (⟨j,h1,h2,h3⟩ | ⟨j,k,h1,h2,h3,h4⟩)
      · exact ⟨j,i,by omega,by omega,by omega,h3⟩
      · exact ⟨j,k,by omega,by omega,h3,h4⟩
    · rintro ⟨j,k,h1,h2,h3,h4⟩
      rcases Nat.eq_or_lt_of_le h1 with rfl | h1
      · exact .inl ⟨j,by omega,by omega,h4⟩
      · exact .inr ⟨j,k,h1,by omega,h3,h4⟩
theorem Dr {l:List af} (h64:∀ x∈l,0≤x.Obj∧x.Obj<64):(iLt ((pc 64 (sM 0 l):Nat):Int) (l.length:Int)||(l.any (fun x=>iEq x.Kind 4)&&iLt 1 (l.length:Int)))=hits l l.length 0:=by
  obtain ⟨h1,h2⟩:=xw l 0 fun x hx=>by have:=h64 x hx;omega
  rw [Ak,Nat.zero_add] at h1 h2
  have hmem:∀ j,j<l.length→l.getD j default∈l:=fun j hj=>by
    rw [List.getD_eq_getElem?_getD,List.getElem?_eq_getElem hj];exact List.getElem_mem hj
  have hpw:(l.Pairwise fun x y=>x.Obj.toNat≠y.Obj.toNat)↔∀ j k,j<k→k<l.length→(l.getD j default).Obj≠(l.getD k default).Obj:=by
    rw [List.pairwise_iff_getElem]
    constructor
    · intro h j k hjk hk he
      have:=h j k (by omega) hk hjk
      simp only [List.getD_eq_getElem?_getD,List.getElem?_eq_getElem hk,List.getElem?_eq_getElem (show j<l.length by omega),Option.getD_some] at he
      exact this (by rw [he])
    · intro h j k hj hk hjk he
      have e:=h j k hjk hk
      have a:=h64 _ (hmem j hj)
      have b:=h64 _ (hmem k hk)
      simp only [List.getD_eq_getElem?_getD,List.getElem?_eq_getElem hk,List.getElem?_eq_getElem hj,Option.getD_some] at e a b
      exact e (by omega)
  rw [Bool.eq_iff_iff,Bool.or_eq_true,Bool.and_eq_true,cG,cG,xx,List.any_eq_true]
  constructor
  · rintro (h | ⟨⟨x,hx,hk⟩,hl⟩)
    · have hn:¬(l.Pairwise fun x y=>x.Obj.toNat≠y.Obj.toNat):=fun hp=>by
        have:=h2.2 ⟨fun x _=>by simp,hp⟩
        omega
      rw [hpw] at hn
      simp only [Classical.not_forall,not_imp,Decidable.not_not] at hn
      obtain ⟨j,k,a,b,c⟩:=hn
      exact ⟨j,k,by omega,by omega,a,by unfold uG;rw [aO c];rfl⟩
    · obtain ⟨m,hm,rfl⟩:=List.mem_iff_getElem.1 hx
      have e:l.getD m default=l[m]:=by simp [List.getD_eq_getElem?_getD,hm]
      by_cases h0:m=0
      · subst h0
        exact ⟨0,1,by omega,by omega,by omega,by unfold uG;rw [e,hk];simp⟩
      · exact ⟨0,m,by omega,by omega,by omega,by unfold uG;rw [e,hk];simp⟩
  · rintro ⟨j,k, -,hk,hjk,hp⟩
    rw [Nat.zero_add] at hk
    unfold uG at hp
    rw [Bool.or_eq_true,Bool.or_eq_true,cn] at hp
    rcases hp with (hp | hp) | hp
    · left
      rcases Nat.eq_or_lt_of_le h1 with he | hlt
      · exact absurd hp (hpw.1 (h2.1 he).2 j k hjk hk)
      · omega
    · exact .inr ⟨⟨_,hmem j (by omega),hp⟩,by omega⟩
    · exact .inr ⟨⟨_,hmem k hk,hp⟩,by omega⟩
theorem Ds {s:Nat} {o:Int} (hs:s<18446744073709551616) (ho:0≤o∧o<64):fY (s:Int) o=some ((s|||2 ^o.toNat:Nat):Int):=by
  unfold fY o3
  rw [show (iLt o 0||iLt 63 o)=false by simp only [Bool.or_eq_false_iff,bd];omega,cond_false,au (zR ho.1),ae]
  have hp:2 ^o.toNat<2 ^64:=Nat.pow_lt_pow_right (by decide) (by omega)
  have hm:min o.toNat IntKind.u64.bits=o.toNat:=Nat.min_eq_left (by show o.toNat≤64;omega)
  rw [hm,Int.one_mul,show ((2:Int) ^o.toNat)=((2 ^o.toNat:Nat):Int) by simp,wu hp,bits_or_u64_nat _ _ hs hp]
theorem CC {L:List ai} (hL:L.length≤32) {l:List af} (h4:l.length≤4):∀ (n i f s:Nat) (d:Bool),i+n=l.length→n<f→s<18446744073709551616→
    fH L l f ((s:Int),d,(i:Int))=cond (iNe (ie L (l.drop i)) 0) (some (ie L (l.drop i))) (cond (iLt ((pc 64 (sM s (l.drop i)):Nat):Int) (l.length:Int)||((d||(l.drop i).any (fun x=>iEq x.Kind 4))&&iLt 1 (l.length:Int))) (some 2) (some 0))
  | n,i,0,s,d,hi,hf,hs=>by omega
  | 0,i,f+1,s,d,hi,hf,hs=>by
    rw [fH]
    dsimp only
    rw [aW (by omega),cond_false,List.drop_eq_nil_of_le (by omega),ie,bG rfl,cond_false,gK,Dp hs,ae,ae,D8,sM,List.any_nil,Bool.or_false]
  | n+1,i,f+1,s,d,hi,hf,hs=>by
    rw [fH]
    dsimp only
    rw [aV (by omega),cond_true,au (aI ⟨by omega,by omega⟩),v8,ae,cr l i (by omega),ie,Int.toNat_natCast]
    by_cases hb:badN L (l.getD i default)=0
    · obtain ⟨_,ho,_⟩:=wa hb
      rw [bG hb,cond_false,cond_false,Ds hs (by omega),ae,w64 (by omega),show (i:Int)+1=((i+1:Nat):Int) by omega,CC hL h4 n (i+1) f _ _ (by omega) (by omega) (ET hs (by omega)),sM,List.any_cons,Bool.or_assoc]
    · rw [cm hb,cond_true,cond_true,cm hb,cond_true]
theorem wb {L:List ai} (hL:L.length≤32) (l:List af):mR L l=some (badW L l):=by
  unfold mR badW
  by_cases h0:(l.length:Int)=0
  · rw [aO h0];rfl
  · rw [aK h0,cond_false,cond_false]
    by_cases h4:4<(l.length:Int)
    · rw [aV h4];rfl
    · rw [aW (by omega),cond_false,cond_false]
      have:=CC hL (l:=l) (by omega) l.length 0 fuel 0 false (by omega) (by have:=aJ;omega) (by decide)
      refine Eq.trans this ?_
      rw [List.drop_zero]
      by_cases hb:ie L l=0
      · rw [bG hb,cond_false,cond_false,Bool.false_or,Dr (fun x hx=>by obtain ⟨_,h,_⟩:=wa (pX hb x hx);omega),aZ]
      · rw [cm hb,cond_true,cond_true]
theorem xy {L:List ai} (hL:L.length≤32) {W:List (List af)} (hW:W.length≤4):∀ (n i f:Nat),i+n=W.length→n<f→ej L W f (i:Int)=some (oa L (W.drop i))
  | n,i,0,hi,hf=>by omega
  | 0,i,f+1,hi,hf=>by
    rw [ej,aW (by omega),cond_false,List.drop_eq_nil_of_le (by omega)]
    rfl
  | n+1,i,f+1,hi,hf=>by
    rw [ej,aV (by omega),cond_true,au (aI ⟨by omega,by omega⟩),wb hL,ae,w64 (by omega),show (i:Int)+1=((i+1:Nat):Int) by omega,xy hL hW n (i+1) f (by omega) (by omega),cr W i (by omega),oa,aZ,Int.toNat_natCast]
theorem j6 {L:List ai} (hL:L.length≤32) (W:List (List af)):gA L W=some (chkW L W):=by
  unfold gA chkW
  by_cases h0:(W.length:Int)=0
  · rw [aO h0];rfl
  · rw [aK h0,cond_false,cond_false]
    by_cases h4:4<(W.length:Int)
    · rw [aV h4];rfl
    · rw [aW (by omega),cond_false,cond_false]
      exact xy hL (by omega) W.length 0 fuel (by omega) (by have:=aJ;omega)
end LJ
end
section
namespace LJ
open Go Go.RowKit
set_option linter.unusedVariables false
set_option linter.unusedSimpArgs false
structure RngN (x:af):Prop where
  k:1≤x.Kind∧x.Kind≤5
  o:0≤x.Obj∧x.Obj<2147483648
  n:0≤x.N∧x.N<2147483648
  nz:x.Kind≤3→x.N=0
structure sN (W:List (List af)):Prop where
  len:1≤W.length∧W.length≤4
  ways:∀ l∈W,(1≤l.length∧l.length≤4)∧∀ x∈l,RngN x
theorem Aq {L:List ai} {d:ai} (h:badD L d=0):(d.Kind=3→d.B≤1000)∧(d.Kind=6→d.A≤1000):=by
  unfold badD at h
  constructor
  · intro k
    rw [aO k,cond_true] at h
    cases hb:(iLe 1 d.B&&iLe d.B 1000&&iLe 0 d.A&&iLe d.A d.B) with
    | false=>rw [hb] at h;cases h
    | true=>simp only [Bool.and_eq_true,dB] at hb;omega
  · intro k
    rw [aK (show d.Kind≠3 by omega),cond_false,aO k,cond_true] at h
    cases hb:(iLe 1 d.A&&iLe d.A 1000) with
    | false=>rw [hb] at h;cases h
    | true=>simp only [Bool.and_eq_true,dB] at hb;omega
theorem m7 {L:List ai} (h:(chkL L).2=0):L.length≤32∧∀ d∈L,badD L d=0:=by
  unfold chkL at h
  by_cases hl:32<(L.length:Int)
  · rw [aV hl,cond_true] at h;cases h
  · rw [aW (by omega),cond_false] at h
    exact ⟨by omega,vJ h⟩
theorem RngN.of {L:List ai} (hL:(chkL L).2=0) {x:af} (h:badN L x=0):RngN x:=by
  obtain ⟨h1,h2⟩:=m7 hL
  obtain ⟨a,b,c,d,e,f,g⟩:=wa h
  have hm:L.getD x.Obj.toNat default∈L:=by
    rw [List.getD_eq_getElem?_getD,List.getElem?_eq_getElem (by omega)]
    exact List.getElem_mem _
  obtain ⟨i,j⟩:=Aq (h2 _ hm)
  rw [c] at i j
  refine ⟨a,by omega,⟨d,?_⟩,g⟩
  by_cases k4:x.Kind=4
  · have:=i (by rw [k4];rfl)
    have:=e k4
    omega
  · by_cases k5:x.Kind=5
    · have:=j (by rw [k5];rfl)
      have:=f k5
      omega
    · have:=g (by omega)
      omega
theorem Dt {L:List ai} {l:List af} (h:badW L l=0):(1≤l.length∧l.length≤4)∧∀ x∈l,badN L x=0:=by
  unfold badW at h
  by_cases h0:(l.length:Int)=0
  · rw [aO h0,cond_true] at h;cases h
  · rw [aK h0,cond_false] at h
    by_cases h4:4<(l.length:Int)
    · rw [aV h4,cond_true] at h;cases h
    · rw [aW (by omega),cond_false] at h
      by_cases hb:ie L l=0
      · exact ⟨by omega,pX hb⟩
      · rw [cm hb,cond_true] at h;exact absurd h hb
theorem uH {L:List ai} :∀ {W:List (List af)},oa L W=0→∀ l∈W,badW L l=0
  | [],h=>fun x hx=>by cases hx
  | y::t,h=>by
    unfold oa at h
    by_cases hy:badW L y=0
    · rw [bG hy,cond_false] at h
      intro x hx
      rcases List.mem_cons.1 hx with rfl | hx
      · exact hy
      · exact uH h x hx
    · rw [cm hy,cond_true] at h;exact absurd h hy
theorem sN.of {L:List ai} (hL:(chkL L).2=0) {W:List (List af)} (h:chkW L W=0):sN W:=by
  unfold chkW at h
  by_cases h0:(W.length:Int)=0
  · rw [aO h0,cond_true] at h;cases h
  · rw [aK h0,cond_false] at h
    by_cases h4:4<(W.length:Int)
    · rw [aV h4,cond_true] at h;cases h
    · rw [aW (by omega),cond_false] at h
      refine ⟨by omega,fun l hl=>?_⟩
      obtain ⟨a,b⟩:=Dt (uH h l hl)
      exact ⟨a,fun x hx=>RngN.of hL (b x hx)⟩
def putN (x:af):List UInt8:=UInt8.ofNat x.Kind.toNat::(numL x.Obj.toNat++if 3<x.Kind then numL x.N.toNat else [])
def putW (l:List af):List UInt8:=numL l.length++l.flatMap putN
def nO (W:List (List af)):List UInt8:=numL W.length++W.flatMap putW
theorem sO {x:af} (h:RngN x):(putN x).length≤21:=by
  have ⟨_,ha,hb,_⟩:=h
  have h1:=aM (n:=x.Obj.toNat) (by omega)
  have h2:=aM (n:=x.N.toNat) (by omega)
  unfold putN
  rw [List.length_cons,List.length_append]
  split
  · omega
  · simp;omega
theorem xz {l:List af} (h4:l.length≤4) (h:∀ x∈l,RngN x):(putW l).length≤94:=by
  unfold putW
  rw [List.length_append]
  have:=aM (n:=l.length) (by omega)
  have:=ji putN 21 (fun d hd=>sO (h d hd))
  omega
theorem uI {W:List (List af)} (h:sN W):(nO W).length≤386:=by
  have hl:=h.len
  unfold nO
  rw [List.length_append]
  have:=aM (n:=W.length) (by omega)
  have:=ji putW 94 (fun d hd=>xz (h.ways d hd).1.2 (h.ways d hd).2)
  omega
theorem Ar {W:List (List af)} {s4:Int×ByteArray} {K:ByteArray→Option (ByteArray×Int)} {l:List af} (hl:W.getD s4.1.toNat default=l) (h4:l.length≤4) (h:∀ x∈l,RngN x):∀ (n i f:Nat) (b:ByteArray),i+n=l.length→n<f→b.size+21*n≤10000→
    dL W s4 K f ((i:Int),b)=K (b++bs ((l.drop i).flatMap putN))
  | n,i,0,b,hi,hf,hb=>by omega
  | 0,i,f+1,b,hi,hf,hb=>by
    rw [dL]
    dsimp only
    rw [hl,aW (by omega),cond_false,List.drop_eq_nil_of_le (by omega)]
    congr 1
    apply c8
    simp
  | n+1,i,f+1,b,hi,hf,hb=>by
    rw [dL]
    dsimp only
    have hm:l.getD i default∈l:=by
      rw [List.getD_eq_getElem?_getD,List.getElem?_eq_getElem (by omega)]
      exact List.getElem_mem _
    have hd:=h _ hm
    rw [hl,aV (by omega),cond_true,au (aI ⟨by omega,by omega⟩),Int.toNat_natCast,cr l i (by omega),List.flatMap_cons]
    generalize l.getD i default=d at*
    have hlen:=sO hd
    have ⟨hk,ho,hn,_⟩:=hd
    have h1:=aM (n:=d.Obj.toNat) (by omega)
    have h2:=aM (n:=d.N.toNat) (by omega)
    unfold cd bj
    rw [wu8 (by omega),au (cH (by dsimp only;omega)),au (aI (by omega)),ae]
    dsimp only
    have w:IntKind.i64.wrap ((i:Int)+1)=((i+1:Nat):Int):=by rw [w64 (by omega)];omega
    have sz:(b.push (UInt8.ofNat d.Kind.toNat)).size=b.size+1:=ByteArray.size_push
    have go:∀ (x:List UInt8),UInt8.ofNat d.Kind.toNat::x=putN d→dL W s4 K f (IntKind.i64.wrap ((i:Int)+1),b.push (UInt8.ofNat d.Kind.toNat)++bs x)=K (b++bs (putN d++(l.drop (i+1)).flatMap putN)):=fun x hx=>by
      have hxl:x.length≤20:=by rw [←hx] at hlen;simpa using hlen
      rw [w,Ar hl h4 h n (i+1) f _ (by omega) (by omega) (by rw [ByteArray.size_append,sz,bb];omega)]
      congr 1
      apply c8
      rw [←hx]
      simp
    rw [wu64 (a:=d.Obj) (by omega),wu64 (a:=d.N) (by omega),iq ho.1 (by omega) (by omega),ae,ae]
    by_cases k3:3<d.Kind
    · rw [show (iEq d.Kind 4||iEq d.Kind 5)=true by rw [Bool.or_eq_true,cn,cn];omega,cond_true,iq hn.1 (by omega) (by rw [ByteArray.size_append,bb];omega),ae]
      dsimp only
      rw [sC,←pB]
      exact go _ (by unfold putN;rw [if_pos k3])
    · rw [show (iEq d.Kind 4||iEq d.Kind 5)=false by rw [aK (by omega),aK (by omega)];rfl,cond_false]
      exact go _ (by unfold putN;rw [if_neg k3,List.append_nil])
theorem CD {W:List (List af)} (h4:W.length≤4) (h:∀ l∈W,l.length≤4∧∀ x∈l,RngN x):∀ (n i f:Nat) (b:ByteArray),i+n=W.length→n<f→b.size+94*n≤5000→
    eZ W f ((i:Int),b)=some (b++bs ((W.drop i).flatMap putW),0)
  | n,i,0,b,hi,hf,hb=>by omega
  | 0,i,f+1,b,hi,hf,hb=>by
    rw [eZ]
    dsimp only
    rw [aW (by omega),cond_false,List.drop_eq_nil_of_le (by omega)]
    show some (b,(0:Int))=_
    congr 2
    apply c8
    simp
  | n+1,i,f+1,b,hi,hf,hb=>by
    rw [eZ]
    dsimp only
    have hm:W.getD i default∈W:=by
      rw [List.getD_eq_getElem?_getD,List.getElem?_eq_getElem (by omega)]
      exact List.getElem_mem _
    obtain ⟨hd1,hd2⟩:=h _ hm
    have h1:=aM (n:=(W.getD i default).length) (by omega)
    have hlen:=xz hd1 hd2
    rw [aV (by omega),cond_true,dN,au (aI ⟨by omega,by omega⟩),Int.toNat_natCast,wu64 (by omega),lN (by omega) (by omega),ae]
    dsimp only
    have:=Ar (W:=W) (s4:=((i:Int),b)) (K:=fun s8=>eZ W f (IntKind.i64.wrap ((i:Int)+1),s8)) (l:=W.getD i default) (by rw [Int.toNat_natCast]) hd1 hd2 (W.getD i default).length 0 fuel (b++bs (numL (W.getD i default).length)) (by omega) (by have:=aJ;omega) (by rw [ByteArray.size_append,bb];omega)
    refine Eq.trans this ?_
    have hf2:=ji putN 21 (fun d hd=>sO (hd2 d hd))
    rw [List.drop_zero,w64 (by omega),show (i:Int)+1=((i+1:Nat):Int) by omega,CD h4 h n (i+1) f _ (by omega) (by omega) (by rw [ByteArray.size_append,ByteArray.size_append,bb,bb];omega),cr W i (by omega),List.flatMap_cons]
    congr 2
    apply c8
    unfold putW
    simp
theorem wc {L:List ai} (hL:(chkL L).2=0) {W:List (List af)} (h:chkW L W=0):mT L W=some (bs (nO W),0):=by
  have g:=sN.of hL h
  have hl:=g.len
  unfold mT
  have:=aM (n:=W.length) (by omega)
  rw [j6 (m7 hL).1,ae,bG h,cond_false,wu64 (by omega),lN (by omega) (by simp;omega),ae]
  dsimp only
  rw [show (0:Int)=((0:Nat):Int) from rfl,CD hl.2 (fun l hl=>⟨(g.ways l hl).1.2,(g.ways l hl).2⟩) W.length 0 fuel _ (by omega) (by have:=aJ;omega) (by rw [ByteArray.size_append,bb];simp;omega)]
  exact congrArg (fun z=>some (z,(0:Int))) (c8 (by unfold nO;simp))
end LJ
end
section
namespace LJ
open Go Go.RowKit
set_option linter.unusedVariables false
set_option linter.unusedSimpArgs false
theorem Au {n:Nat} (h:n<18446744073709551616):IntKind.i64.wrap (iMin (n:Int) (2147483648:Int))=((min n 2147483648:Nat):Int):=by
  unfold iMin
  split
  · rw [w64 (by omega)];omega
  · rw [w64 (by omega)];omega
def pY (b:UInt8) (t:List UInt8):af×Int×List UInt8:=
  cond (iLt (b.toNat:Int) 1||iLt 5 (b.toNat:Int)) (⟨b.toNat,0,0⟩,6,t)
    (cond (iLt 3 (b.toNat:Int)) (⟨b.toNat,capN (rdN t 0),capN (rdN (rdN t 0).2.2 (rdN t 0).1)⟩,(rdN (rdN t 0).2.2 (rdN t 0).1).1,(rdN (rdN t 0).2.2 (rdN t 0).1).2.2)
    (⟨b.toNat,capN (rdN t 0),0⟩,(rdN t 0).1,(rdN t 0).2.2))
def gb:List UInt8→af×Int×List UInt8
  | []=>(⟨0,0,0⟩,3,[])
  | b::t=>pY b t
theorem lS (b:UInt8) (t:List UInt8):gb (b::t)=pY b t:=rfl
theorem uJ {s:ByteArray} (hs:s.size≤9007199254740992) {l:List UInt8} (h:l<:+bl s):∃ er,jJ (mkI s l 0)=some ((gb l).1,(gb l).2.1,mkI s (gb l).2.2 er)∧((gb l).2.1=0→er=0∧(gb l).2.2<:+bl s):=by
  have h0:RdOK s l 0:=⟨h,fun h=>absurd rfl h⟩
  unfold jJ bj
  cases l with
  | nil=>
    rw [iV,ae]
    dsimp only
    rw [bH,ae,if_pos rfl,cm (by decide),cond_true]
    exact ⟨3,rfl,fun h=>absurd h (by decide:(3:Int)≠0)⟩
  | cons b t=>
    have ht:RdOK s t 0:=h0.byte
    have hb:=n5 b
    rw [jh s hs b t 0 h,ae]
    dsimp only
    rw [bH,ae,bG rfl,cond_false,lS]
    unfold pY
    cases hk:(iLt (b.toNat:Int) 1||iLt 5 (b.toNat:Int)) with
    | true=>exact ⟨_,rfl,fun h=>absurd h (by decide:(6:Int)≠0)⟩
    | false=>
      simp only [Bool.or_eq_false_iff,bd] at hk
      rw [cond_false,cond_false,eO hs ht,ae,ae]
      dsimp only
      rw [Au (pJ t 0)]
      by_cases k3:3<(b.toNat:Int)
      · rw [show (iEq (b.toNat:Int) 4||iEq (b.toNat:Int) 5)=true by rw [Bool.or_eq_true,cn,cn];omega,cond_true,aV k3,cond_true,eO hs ht.num,ae]
        dsimp only
        rw [bH,ae,Au (pJ _ _)]
        exact ⟨_,rfl,fun h=>⟨h,ht.num.num.suf⟩⟩
      · rw [show (iEq (b.toNat:Int) 4||iEq (b.toNat:Int) 5)=false by rw [aK (by omega),aK (by omega)];rfl,cond_false,aW (by omega),cond_false,bH,ae]
        exact ⟨_,rfl,fun h=>⟨h,ht.num.suf⟩⟩
def rdM (l:List UInt8):Nat×Int×List UInt8:=cond (iLt 4 ((rdN l 0).2.1:Int)) (0,4,[]) ((rdN l 0).2.1,(rdN l 0).1,(rdN l 0).2.2)
theorem oe {s:ByteArray} (hs:s.size≤9007199254740992) {l:List UInt8} (h:l<:+bl s):∃ S,iT (mkI s l 0) 4=some (((rdM l).1:Int),(rdM l).2.1,S)∧((rdM l).2.1=0→S=mkI s (rdM l).2.2 0∧(rdM l).2.2<:+bl s∧(rdM l).1≤4):=by
  have h0:RdOK s l 0:=⟨h,fun h=>absurd rfl h⟩
  unfold iT rdM
  rw [eO hs h0,ae]
  dsimp only
  by_cases h4:4<((rdN l 0).2.1:Int)
  · rw [aV h4,cond_true,cond_true]
    exact ⟨_,rfl,fun h=>absurd h (by decide:(4:Int)≠0)⟩
  · rw [aW (by omega),cond_false,cond_false,bH,ae,w64 (by omega)]
    refine ⟨_,rfl,fun he=>?_⟩
    dsimp only at he ⊢
    exact ⟨by rw [he],h0.num.suf,by omega⟩
def dC:Nat→List UInt8→List af→List af×Int×List UInt8
  | 0,l,acc=>(acc,0,l)
  | n+1,l,acc=>cond (iEq (gb l).2.1 0) (dC n (gb l).2.2 (acc++[(gb l).1])) ([],(gb l).2.1,[])
def lU (l:List UInt8):List af×Int×List UInt8:=cond (iEq (rdM l).2.1 0) (dC (rdM l).1 (rdM l).2.2 []) ([],(rdM l).2.1,[])
def dZ:Nat→List UInt8→List (List af)→List (List af)×Int×List UInt8
  | 0,l,acc=>(acc,0,l)
  | n+1,l,acc=>cond (iEq (lU l).2.1 0) (dZ n (lU l).2.2 (acc++[(lU l).1])) ([],(lU l).2.1,[])
def ly (L:List ai) (l:List UInt8):List (List af)×Int×List UInt8:=
  cond (iEq (rdM l).2.1 0)
    (cond (iEq (dZ (rdM l).1 (rdM l).2.2 []).2.1 0)
      (cond (iEq (chkW L (dZ (rdM l).1 (rdM l).2.2 []).1) 0) ((dZ (rdM l).1 (rdM l).2.2 []).1,0,(dZ (rdM l).1 (rdM l).2.2 []).2.2) ([],chkW L (dZ (rdM l).1 (rdM l).2.2 []).1,[]))
      ([],(dZ (rdM l).1 (rdM l).2.2 []).2.1,[]))
    ([],(rdM l).2.1,[])
theorem wg (s:ByteArray) (l:List UInt8) (e:Int):(⟨(mkI s l e).s,(mkI s l e).at_,(mkI s l e).err⟩:ak)=mkI s l e:=rfl
theorem Av {s:ByteArray} (hs:s.size≤9007199254740992) {s5:Int×(List (List af))×ByteArray×Int×Int} {K:((List (List af))×ByteArray×Int×Int)→Option ((List (List af))×Int×Int)} {x10:Int×Int×ak} {N:Nat} (hN:x10.1=(N:Int)) (hN4:N≤4) (h5:s5.2.1.length≤4):∀ (n i f:Nat) (acc:List af) (l:List UInt8),i+n=N→n<f→acc.length=i→l<:+bl s→
    e9 s5 K x10 f ((i:Int),acc,(mkI s l 0).s,(mkI s l 0).at_,(mkI s l 0).err)=cond (iEq (dC n l acc).2.1 0) (K (s5.2.1++[(dC n l acc).1],(mkI s (dC n l acc).2.2 0).s,(mkI s (dC n l acc).2.2 0).at_,(mkI s (dC n l acc).2.2 0).err)) (some ([],0,(dC n l acc).2.1))∧((dC n l acc).2.1=0→(dC n l acc).2.2<:+bl s)
  | n,i,0,acc,l,hi,hf,ha,hl=>by omega
  | 0,i,f+1,acc,l,hi,hf,ha,hl=>by
    refine ⟨?_,fun _=>hl⟩
    rw [e9]
    dsimp only
    rw [hN,aW (by omega),cond_false,au (cH (by simp only [List.length_cons,List.length_nil];omega)),show dC 0 l acc=(acc,0,l) from rfl,aO rfl,cond_true]
  | n+1,i,f+1,acc,l,hi,hf,ha,hl=>by
    rw [e9]
    dsimp only
    obtain ⟨er,h1,h2⟩:=uJ hs hl
    rw [hN,aV (by omega),cond_true,wg,h1,ae,dC]
    dsimp only
    by_cases he:(gb l).2.1=0
    · obtain ⟨rfl,h3⟩:=h2 he
      rw [bG he,cond_false,aO he,cond_true,au (cH (by simp only [List.length_cons,List.length_nil];omega)),w64 (by omega),show (i:Int)+1=((i+1:Nat):Int) by omega]
      exact Av hs hN hN4 h5 n (i+1) f _ _ (by omega) (by omega) (by simp;omega) h3
    · rw [cm he,cond_true,aK he,cond_false,aK he,cond_false]
      exact ⟨rfl,fun h=>absurd h he⟩
theorem CE {L:List ai} (hL:L.length≤32) {s:ByteArray} (hs:s.size≤9007199254740992) {x2:Int×Int×ak} {N:Nat} (hN:x2.1=(N:Int)) (hN4:N≤4):∀ (n i f:Nat) (acc:List (List af)) (l:List UInt8),i+n=N→n<f→acc.length=i→l<:+bl s→
    fa L s x2 f ((i:Int),acc,(mkI s l 0).s,(mkI s l 0).at_,(mkI s l 0).err)=cond (iEq (dZ n l acc).2.1 0) (cond (iEq (chkW L (dZ n l acc).1) 0) (some ((dZ n l acc).1,(s.size:Int) - (dZ n l acc).2.2.length,0)) (some ([],0,chkW L (dZ n l acc).1))) (some ([],0,(dZ n l acc).2.1))
  | n,i,0,acc,l,hi,hf,ha,hl=>by omega
  | 0,i,f+1,acc,l,hi,hf,ha,hl=>by
    have:=kD hl
    rw [fa]
    dsimp only
    rw [hN,aW (by omega),cond_false,j6 hL,ae,wg,show dZ 0 l acc=(acc,0,l) from rfl,aO rfl,cond_true]
    dsimp only
    by_cases hc:chkW L acc=0
    · rw [bG hc,cond_false,aO hc,cond_true,sB s hs l 0 hl,ae,w64 (by omega)]
    · rw [cm hc,cond_true,aK hc,cond_false]
  | n+1,i,f+1,acc,l,hi,hf,ha,hl=>by
    rw [fa]
    dsimp only
    obtain ⟨S,h1,h2⟩:=oe hs hl
    rw [hN,aV (by omega),cond_true,dN,wg,h1,ae,dZ,lU]
    dsimp only
    by_cases he:(rdM l).2.1=0
    · obtain ⟨rfl,h3,h4⟩:=h2 he
      rw [bG he,cond_false,aO he,cond_true]
      obtain ⟨g1,g2⟩:=Av hs (s5:=((i:Int),acc,(mkI s l 0).s,(mkI s l 0).at_,(mkI s l 0).err)) (K:=fun s9=>fa L s x2 f (IntKind.i64.wrap ((i:Int)+1),s9.1,s9.2.1,s9.2.2.1,s9.2.2.2)) (x10:=(((rdM l).1:Int),(rdM l).2.1,mkI s (rdM l).2.2 0)) (N:=(rdM l).1) rfl h4 (by dsimp only;omega) (rdM l).1 0 fuel [] (rdM l).2.2 (by omega) (by have:=aJ;omega) rfl h3
      refine Eq.trans g1 ?_
      dsimp only
      by_cases hr:(dC (rdM l).1 (rdM l).2.2 []).2.1=0
      · rw [aO hr,cond_true,cond_true,w64 (by omega),show (i:Int)+1=((i+1:Nat):Int) by omega]
        exact CE hL hs hN hN4 n (i+1) f _ _ (by omega) (by omega) (by simp;omega) (g2 hr)
      · rw [aK hr,cond_false,cond_false,aK hr,cond_false]
    · rw [cm he,cond_true,aK he,cond_false]
      dsimp only
      rw [aK he,cond_false,aK he,cond_false]
theorem wh {L:List ai} (hL:L.length≤32) {s:ByteArray} (hs:s.size≤9007199254740992):mW L s=some ((ly L (bl s)).1,cond (iEq (ly L (bl s)).2.1 0) ((s.size:Int) - (ly L (bl s)).2.2.length) 0,(ly L (bl s)).2.1):=by
  unfold mW
  obtain ⟨S,h1,h2⟩:=oe hs (List.suffix_refl (bl s))
  rw [pH,ae,h1,ae]
  dsimp only
  unfold ly
  by_cases he:(rdM (bl s)).2.1=0
  · obtain ⟨rfl,h3,h4⟩:=h2 he
    rw [bG he,cond_false,aO he,cond_true]
    have:=CE hL hs (x2:=(((rdM (bl s)).1:Int),(rdM (bl s)).2.1,mkI s (rdM (bl s)).2.2 0)) (N:=(rdM (bl s)).1) rfl h4 (rdM (bl s)).1 0 fuel [] (rdM (bl s)).2.2 (by omega) (by have:=aJ;omega) rfl h3
    refine Eq.trans this ?_
    generalize dZ (rdM (bl s)).1 (rdM (bl s)).2.2 []=r
    by_cases h1:r.2.1=0
    · rw [aO h1,cond_true,cond_true]
      by_cases h2:chkW L r.1=0
      · rw [aO h2,cond_true,cond_true];rfl
      · rw [aK h2,cond_false,cond_false];dsimp only;rw [aK h2,cond_false]
    · rw [aK h1,cond_false,cond_false];dsimp only;rw [aK h1,cond_false]
  · rw [cm he,cond_true,aK he,cond_false];dsimp only;rw [aK he,cond_false]
theorem wi {x:af} (h:RngN x) (t:List UInt8):gb (putN x++t)=(x,0,t):=by
  have ⟨hk,ho,hn,hz⟩:=h
  obtain ⟨K,O,M⟩:=x
  dsimp only at*
  unfold putN
  dsimp only
  have hu:(UInt8.ofNat K.toNat).toNat=K.toNat:=by simp [UInt8.toNat_ofNat];omega
  rw [List.cons_append,lS]
  unfold pY
  rw [hu,show (K.toNat:Int)=K by omega,show (iLt K 1||iLt 5 K)=false by simp only [Bool.or_eq_false_iff,bd];omega,cond_false]
  by_cases k3:3<K
  · rw [aV k3,cond_true,if_pos k3,List.append_assoc,eB (by omega),eB (by omega)]
    simp only [Prod.mk.injEq,and_true,af.mk.injEq,true_and]
    unfold capN
    dsimp only
    omega
  · have:=hz (by omega)
    rw [aW (by omega),cond_false,if_neg k3,List.append_nil,eB (by omega)]
    simp only [Prod.mk.injEq,and_true,af.mk.injEq,true_and]
    unfold capN
    dsimp only
    omega
theorem pZ:∀ (l acc:List af) (t:List UInt8),(∀ x∈l,RngN x)→dC l.length (l.flatMap putN++t) acc=(acc++l,0,t)
  | [],acc,t,h=>by simp [dC]
  | d::L,acc,t,h=>by
    rw [List.length_cons,dC,List.flatMap_cons,List.append_assoc,wi (h d (List.mem_cons_self ..))]
    dsimp only
    rw [aO rfl,cond_true,pZ L _ t fun x hx=>h x (List.mem_cons_of_mem _ hx)]
    simp
theorem Aw {n:Nat} (h:n≤4) (t:List UInt8):rdM (numL n++t)=(n,0,t):=by
  unfold rdM
  rw [eB (by omega),aW (by dsimp only;omega),cond_false]
theorem Ax {l:List af} (h4:l.length≤4) (h:∀ x∈l,RngN x) (t:List UInt8):lU (putW l++t)=(l,0,t):=by
  unfold lU putW
  rw [List.append_assoc,Aw h4]
  dsimp only
  rw [aO rfl,cond_true,pZ l [] t h,List.nil_append]
theorem rQ:∀ (W acc:List (List af)) (t:List UInt8),(∀ l∈W,l.length≤4∧∀ x∈l,RngN x)→dZ W.length (W.flatMap putW++t) acc=(acc++W,0,t)
  | [],acc,t,h=>by simp [dZ]
  | d::L,acc,t,h=>by
    obtain ⟨h1,h2⟩:=h d (List.mem_cons_self ..)
    rw [List.length_cons,dZ,List.flatMap_cons,List.append_assoc,Ax h1 h2]
    dsimp only
    rw [aO rfl,cond_true,rQ L _ t fun x hx=>h x (List.mem_cons_of_mem _ hx)]
    simp
theorem Ay {L:List ai} (hL:(chkL L).2=0) {W:List (List af)} (h:chkW L W=0) (t:List UInt8):ly L (nO W++t)=(W,0,t):=by
  have g:=sN.of hL h
  unfold ly nO
  rw [List.append_assoc,Aw g.len.2]
  dsimp only
  rw [aO rfl,cond_true,rQ W [] t fun l hl=>⟨(g.ways l hl).1.2,(g.ways l hl).2⟩]
  dsimp only
  rw [aO rfl,cond_true,List.nil_append,aO h,cond_true]
theorem yn {l:List UInt8} (h:(gb l).2.1=0) (hr:RngN (gb l).1):l=putN (gb l).1++(gb l).2.2:=by
  cases l with
  | nil=>exact absurd h (by decide:(3:Int)≠0)
  | cons b t=>
    have hu:UInt8.ofNat b.toNat=b:=fD b
    have hb:=n5 b
    rw [lS] at h hr ⊢
    unfold pY at h hr ⊢
    cases hk:(iLt (b.toNat:Int) 1||iLt 5 (b.toNat:Int)) with
    | true=>rw [hk,cond_true] at h;exact absurd h (by decide:(6:Int)≠0)
    | false=>
      rw [hk,cond_false] at h hr
      rw [cond_false]
      by_cases k3:3<(b.toNat:Int)
      · rw [aV k3,cond_true] at h hr ⊢
        dsimp only at h
        have e1:=vF h
        obtain ⟨i1,j1⟩:=eC (l:=t) e1
        rw [e1] at h
        obtain ⟨i2,j2⟩:=eC (l:=(rdN t 0).2.2) h
        rw [e1] at hr ⊢
        have ⟨_,ha,hbb,_⟩:=hr
        generalize (rdN (rdN t 0).2.2 0)=r2 at*
        generalize (rdN t 0)=r1 at*
        obtain ⟨x1,n1,t1⟩:=r1
        obtain ⟨x2,n2,t2⟩:=r2
        unfold putN capN at*
        dsimp only at*
        rw [if_pos k3,Int.toNat_natCast,hu,show ((min n1 2147483648:Nat):Int).toNat=n1 by omega,show ((min n2 2147483648:Nat):Int).toNat=n2 by omega,List.cons_append,List.append_assoc,←i2,←i1]
      · rw [aW (by omega),cond_false] at h hr ⊢
        dsimp only at h
        obtain ⟨i1,j1⟩:=eC (l:=t) h
        have ⟨_,ha,hbb,_⟩:=hr
        generalize (rdN t 0)=r1 at*
        obtain ⟨x1,n1,t1⟩:=r1
        unfold putN capN at*
        dsimp only at*
        rw [if_neg k3,Int.toNat_natCast,hu,show ((min n1 2147483648:Nat):Int).toNat=n1 by omega,List.append_nil,List.cons_append,←i1]
theorem qa:∀ (n:Nat) (l:List UInt8) (acc:List af),(dC n l acc).2.1=0→(∀ x∈(dC n l acc).1,RngN x)→∃ L,(dC n l acc).1=acc++L∧L.length=n∧l=L.flatMap putN++(dC n l acc).2.2
  | 0,l,acc,h,hr=>⟨[],by simp [dC]⟩
  | n+1,l,acc,h,hr=>by
    rw [dC] at h hr ⊢
    by_cases he:(gb l).2.1=0
    · rw [aO he,cond_true] at h hr ⊢
      obtain ⟨L,h1,h2,h3⟩:=qa n _ _ h hr
      have hd:RngN (gb l).1:=hr _ (by rw [h1];simp)
      refine ⟨(gb l).1::L,by rw [h1];simp,by simp [h2],?_⟩
      rw [List.flatMap_cons,List.append_assoc,←h3]
      exact yn he hd
    · rw [aK he,cond_false] at h
      exact absurd h he
theorem Az {l:List UInt8} (h:(rdM l).2.1=0):l=numL (rdM l).1++(rdM l).2.2:=by
  unfold rdM at h ⊢
  by_cases h4:4<((rdN l 0).2.1:Int)
  · rw [aV h4,cond_true] at h;exact absurd h (by decide:(4:Int)≠0)
  · rw [aW (by omega),cond_false] at h ⊢
    exact (eC h).1
theorem AA {l:List UInt8} (h:(lU l).2.1=0) (hr:∀ x∈(lU l).1,RngN x):l=putW (lU l).1++(lU l).2.2:=by
  unfold lU at h hr ⊢
  by_cases he:(rdM l).2.1=0
  · rw [aO he,cond_true] at h hr ⊢
    obtain ⟨L,h1,h2,h3⟩:=qa _ _ _ h hr
    unfold putW
    rw [h1,List.nil_append,h2,List.append_assoc,←h3]
    exact Az he
  · rw [aK he,cond_false] at h;exact absurd h he
theorem rR:∀ (n:Nat) (l:List UInt8) (acc:List (List af)),(dZ n l acc).2.1=0→(∀ w∈(dZ n l acc).1,∀ x∈w,RngN x)→∃ L,(dZ n l acc).1=acc++L∧L.length=n∧l=L.flatMap putW++(dZ n l acc).2.2
  | 0,l,acc,h,hr=>⟨[],by simp [dZ]⟩
  | n+1,l,acc,h,hr=>by
    rw [dZ] at h hr ⊢
    by_cases he:(lU l).2.1=0
    · rw [aO he,cond_true] at h hr ⊢
      obtain ⟨L,h1,h2,h3⟩:=rR n _ _ h hr
      have hd:∀ x∈(lU l).1,RngN x:=hr _ (by rw [h1];simp)
      refine ⟨(lU l).1::L,by rw [h1];simp,by simp [h2],?_⟩
      rw [List.flatMap_cons,List.append_assoc,←h3]
      exact AA he hd
    · rw [aK he,cond_false] at h
      exact absurd h he
theorem uK {L:List ai} (hL:(chkL L).2=0) {l:List UInt8} (h:(ly L l).2.1=0):chkW L (ly L l).1=0∧l=nO (ly L l).1++(ly L l).2.2:=by
  unfold ly at h ⊢
  by_cases a1:(rdM l).2.1=0
  · rw [aO a1,cond_true] at h ⊢
    by_cases a3:(dZ (rdM l).1 (rdM l).2.2 []).2.1=0
    · rw [aO a3,cond_true] at h ⊢
      by_cases a4:chkW L (dZ (rdM l).1 (rdM l).2.2 []).1=0
      · rw [aO a4,cond_true]
        refine ⟨a4,?_⟩
        have g:=sN.of hL a4
        obtain ⟨M,h1,h2,h3⟩:=rR _ _ _ a3 fun w hw=>(g.ways w hw).2
        dsimp only
        unfold nO
        rw [h1,List.nil_append,h2,List.append_assoc,←h3]
        exact Az a1
      · rw [aK a4,cond_false] at h;exact absurd h a4
    · rw [aK a3,cond_false] at h;exact absurd h a3
  · rw [aK a1,cond_false] at h;exact absurd h a1
end LJ
end
section
namespace LJ
open Go Go.RowKit
set_option linter.unusedVariables false
set_option linter.unusedSimpArgs false
def first {α:Type} (f:α→Int):List α→Int
  | []=>0
  | x::t=>cond (iNe (f x) 0) (f x) (first f t)
theorem o6 {α:Type} {f:α→Int} :∀ {l:List α},first f l=0→∀ x∈l,f x=0
  | [],h=>fun x hx=>by cases hx
  | y::t,h=>by
    unfold first at h
    by_cases hy:f y=0
    · rw [bG hy,cond_false] at h
      intro x hx
      rcases List.mem_cons.1 hx with rfl | hx
      · exact hy
      · exact o6 h x hx
    · rw [cm hy,cond_true] at h;exact absurd h hy
def qS (F:aw):Int:=cond ((iLt F.Args 0||iLt F.Locals F.Args)||iLt 8 F.Locals) 1 (cond (iEq (F.Code.length:Int) 0) 2 (cond (iLt 200 (F.Code.length:Int)) 4 (first chkI F.Code)))
def chkP (p:aa):Int:=
  cond (iNe (chkL p.Decls).2 0) (chkL p.Decls).2 (cond (iLt 32 (p.Waits.length:Int)) 4 (cond (iNe (first (chkW p.Decls) p.Waits) 0) (first (chkW p.Decls) p.Waits)
    (cond (iEq (p.Funcs.length:Int) 0) 2 (cond (iLt 16 (p.Funcs.length:Int)) 4 (first qS p.Funcs)))))
theorem CF (F:aw) (hF:F.Code.length≤200):∀ (n i f:Nat),i+n=F.Code.length→n<f→cE F f (i:Int)=some (first chkI (F.Code.drop i))
  | n,i,0,hi,hf=>by omega
  | 0,i,f+1,hi,hf=>by rw [cE,aW (by omega),cond_false,List.drop_eq_nil_of_le (by omega)];rfl
  | n+1,i,f+1,hi,hf=>by
    rw [cE,aV (by omega),cond_true,au (aI ⟨by omega,by omega⟩),Int.toNat_natCast,kF,ae,w64 (by omega),show (i:Int)+1=((i+1:Nat):Int) by omega,CF F hF n (i+1) f (by omega) (by omega),cr _ i (by omega),first,aZ]
theorem CG (F:aw) (hF:F.Code.length≤200):∀ (n i f:Nat),i+n=F.Code.length→n<f→bF F f (i:Int)=some (first chkI (F.Code.drop i))
  | n,i,0,hi,hf=>by omega
  | 0,i,f+1,hi,hf=>by rw [bF,aW (by omega),cond_false,List.drop_eq_nil_of_le (by omega)];rfl
  | n+1,i,f+1,hi,hf=>by
    rw [bF,aV (by omega),cond_true,au (aI ⟨by omega,by omega⟩),Int.toNat_natCast,lB,ae,w64 (by omega),show (i:Int)+1=((i+1:Nat):Int) by omega,CG F hF n (i+1) f (by omega) (by omega),cr _ i (by omega),first,aZ]
theorem oD (F:aw):fZ F=some (qS F):=by
  unfold fZ qS
  by_cases h:200<(F.Code.length:Int)
  · rw [aV h,cond_true,cond_true,aZ,aZ]
  · have h':iLt 200 (F.Code.length:Int)=false:=aW (by omega)
    have hl:=CF F (by omega) F.Code.length 0 fuel (by omega) (by have:=aJ;omega)
    rw [List.drop_zero] at hl
    have hl':cE F fuel 0=some (first chkI F.Code):=hl
    rw [h',cond_false,cond_false,hl',aZ,aZ]
theorem nP (F:aw):dR F=some (qS F):=by
  unfold dR qS
  by_cases h:200<(F.Code.length:Int)
  · rw [aV h,cond_true,cond_true,aZ,aZ]
  · have h':iLt 200 (F.Code.length:Int)=false:=aW (by omega)
    have hl:=CG F (by omega) F.Code.length 0 fuel (by omega) (by have:=aJ;omega)
    rw [List.drop_zero] at hl
    have hl':bF F fuel 0=some (first chkI F.Code):=hl
    rw [h',cond_false,cond_false,hl',aZ,aZ]
theorem AB (p:aa) (hF:p.Funcs.length≤16):∀ (n i f:Nat),i+n=p.Funcs.length→n<f→dT p f (i:Int)=some (first qS (p.Funcs.drop i))
  | n,i,0,hi,hf=>by omega
  | 0,i,f+1,hi,hf=>by rw [dT,aW (by omega),cond_false,List.drop_eq_nil_of_le (by omega)];rfl
  | n+1,i,f+1,hi,hf=>by
    rw [dT,aV (by omega),cond_true,au (aI ⟨by omega,by omega⟩),Int.toNat_natCast,oD,ae,w64 (by omega),show (i:Int)+1=((i+1:Nat):Int) by omega,AB p hF n (i+1) f (by omega) (by omega),cr _ i (by omega),first,aZ]
theorem AC (p:aa) (hF:p.Funcs.length≤16):∀ (n i f:Nat),i+n=p.Funcs.length→n<f→cb p f (i:Int)=some (first qS (p.Funcs.drop i))
  | n,i,0,hi,hf=>by omega
  | 0,i,f+1,hi,hf=>by rw [cb,aW (by omega),cond_false,List.drop_eq_nil_of_le (by omega)];rfl
  | n+1,i,f+1,hi,hf=>by
    rw [cb,aV (by omega),cond_true,au (aI ⟨by omega,by omega⟩),Int.toNat_natCast,nP,ae,w64 (by omega),show (i:Int)+1=((i+1:Nat):Int) by omega,AC p hF n (i+1) f (by omega) (by omega),cr _ i (by omega),first,aZ]
def BQ (p:aa):Int:=cond (iEq (p.Funcs.length:Int) 0) 2 (cond (iLt 16 (p.Funcs.length:Int)) 4 (first qS p.Funcs))
theorem CH (p:aa) (hD:p.Decls.length≤32) (hW:p.Waits.length≤32):∀ (n i f:Nat),i+n=p.Waits.length→n<f→eo p f (i:Int)=some (cond (iNe (first (chkW p.Decls) (p.Waits.drop i)) 0) (first (chkW p.Decls) (p.Waits.drop i)) (BQ p))
  | n,i,0,hi,hf=>by omega
  | 0,i,f+1,hi,hf=>by
    rw [eo,aW (by omega),cond_false,List.drop_eq_nil_of_le (by omega),first,bG rfl,cond_false]
    unfold BQ
    by_cases h:16<(p.Funcs.length:Int)
    · rw [aV h,cond_true,cond_true,aZ]
    · have:=AB p (by omega) p.Funcs.length 0 fuel (by omega) (by have:=aJ;omega)
      rw [List.drop_zero] at this
      rw [aW (by omega),cond_false,cond_false,show (0:Int)=((0:Nat):Int) from rfl,this,aZ]
  | n+1,i,f+1,hi,hf=>by
    rw [eo,aV (by omega),cond_true,au (aI ⟨by omega,by omega⟩),Int.toNat_natCast,j6 hD,ae,w64 (by omega),show (i:Int)+1=((i+1:Nat):Int) by omega,CH p hD hW n (i+1) f (by omega) (by omega),cr _ i (by omega),first]
    by_cases h:chkW p.Decls (p.Waits.getD i default)=0
    · rw [bG h,cond_false,cond_false]
    · rw [cm h,cond_true,cond_true,cm h,cond_true]
theorem CI (p:aa) (hW:p.Waits.length≤32):∀ (n i f:Nat),i+n=p.Waits.length→n<f→cv p f (i:Int)=some (cond (iNe (first (chkW p.Decls) (p.Waits.drop i)) 0) (first (chkW p.Decls) (p.Waits.drop i)) (BQ p))
  | n,i,0,hi,hf=>by omega
  | 0,i,f+1,hi,hf=>by
    rw [cv,aW (by omega),cond_false,List.drop_eq_nil_of_le (by omega),first,bG rfl,cond_false]
    unfold BQ
    by_cases h:16<(p.Funcs.length:Int)
    · rw [aV h,cond_true,cond_true,aZ]
    · have:=AC p (by omega) p.Funcs.length 0 fuel (by omega) (by have:=aJ;omega)
      rw [List.drop_zero] at this
      rw [aW (by omega),cond_false,cond_false,show (0:Int)=((0:Nat):Int) from rfl,this,aZ]
  | n+1,i,f+1,hi,hf=>by
    rw [cv,aV (by omega),cond_true,au (aI ⟨by omega,by omega⟩),Int.toNat_natCast,qR,ae,w64 (by omega),show (i:Int)+1=((i+1:Nat):Int) by omega,CI p hW n (i+1) f (by omega) (by omega),cr _ i (by omega),first]
    by_cases h:chkW p.Decls (p.Waits.getD i default)=0
    · rw [bG h,cond_false,cond_false]
    · rw [cm h,cond_true,cond_true,cm h,cond_true]
theorem ir (p:aa):gB p=some (chkP p):=by
  unfold gB chkP
  rw [j4,ae]
  by_cases hd:(chkL p.Decls).2=0
  · rw [bG hd,cond_false,cond_false]
    by_cases h:32<(p.Waits.length:Int)
    · rw [aV h];rfl
    · rw [aW (by omega),cond_false,cond_false,show (0:Int)=((0:Nat):Int) from rfl,CH p (m7 hd).1 (by omega) p.Waits.length 0 fuel (by omega) (by have:=aJ;omega),List.drop_zero]
      rfl
  · rw [cm hd];rfl
theorem lC (p:aa):fG p=some (chkP p):=by
  unfold fG chkP
  rw [qP,ae]
  by_cases hd:(chkL p.Decls).2=0
  · rw [bG hd,cond_false,cond_false]
    by_cases h:32<(p.Waits.length:Int)
    · rw [aV h];rfl
    · rw [aW (by omega),cond_false,cond_false,show (0:Int)=((0:Nat):Int) from rfl,CI p (by omega) p.Waits.length 0 fuel (by omega) (by have:=aJ;omega),List.drop_zero]
      rfl
  · rw [cm hd];rfl
structure qT (F:aw):Prop where
  args:0≤F.Args∧F.Args≤8
  locals:0≤F.Locals∧F.Locals≤8
  code:1≤F.Code.length∧F.Code.length≤200
  ins:∀ x∈F.Code,chkI x=0
theorem qT.of {F:aw} (h:qS F=0):qT F:=by
  unfold qS at h
  cases h1:((iLt F.Args 0||iLt F.Locals F.Args)||iLt 8 F.Locals) with
  | true=>rw [h1,cond_true] at h;cases h
  | false=>
    rw [h1,cond_false] at h
    simp only [Bool.or_eq_false_iff,bd] at h1
    by_cases h2:(F.Code.length:Int)=0
    · rw [aO h2,cond_true] at h;cases h
    · rw [aK h2,cond_false] at h
      by_cases h3:200<(F.Code.length:Int)
      · rw [aV h3,cond_true] at h;cases h
      · rw [aW (by omega),cond_false] at h
        exact ⟨by omega,by omega,by omega,o6 h⟩
structure kG (p:aa):Prop where
  decls:(chkL p.Decls).2=0
  waits:p.Waits.length≤32∧∀ w∈p.Waits,chkW p.Decls w=0
  funcs:1≤p.Funcs.length∧p.Funcs.length≤16
  fns:∀ F∈p.Funcs,qT F
theorem kG.of {p:aa} (h:chkP p=0):kG p:=by
  unfold chkP at h
  by_cases hd:(chkL p.Decls).2=0
  · rw [bG hd,cond_false] at h
    by_cases h1:32<(p.Waits.length:Int)
    · rw [aV h1,cond_true] at h;cases h
    · rw [aW (by omega),cond_false] at h
      by_cases h2:first (chkW p.Decls) p.Waits=0
      · rw [bG h2,cond_false] at h
        by_cases h3:(p.Funcs.length:Int)=0
        · rw [aO h3,cond_true] at h;cases h
        · rw [aK h3,cond_false] at h
          by_cases h4:16<(p.Funcs.length:Int)
          · rw [aV h4,cond_true] at h;cases h
          · rw [aW (by omega),cond_false] at h
            exact ⟨hd,⟨by omega,o6 h2⟩,by omega,fun F hF=>qT.of (o6 h F hF)⟩
      · rw [cm h2,cond_true] at h;exact absurd h h2
  · rw [cm hd,cond_true] at h;exact absurd h hd
def ownW (W:List (List af)):List (List af):=(W.take 6).map fun l=>l.take 6
theorem AD (W:List (List af)):∀ (n i f:Nat) (acc:List (List af)),i+n=min W.length 6→n<f→acc.length=i→ea W f ((i:Int),acc)=some (acc++((W.take 6).drop i).map fun l=>l.take 6)
  | n,i,0,acc,hi,hf,ha=>by omega
  | 0,i,f+1,acc,hi,hf,ha=>by
    rw [ea]
    dsimp only
    have:(iLt (i:Int) (W.length:Int)&&iLt (i:Int) 6)=false:=by
      rw [Bool.and_eq_false_iff,bd,bd];omega
    rw [this,cond_false,List.drop_eq_nil_of_le (by simp;omega),List.map_nil,List.append_nil]
  | n+1,i,f+1,acc,hi,hf,ha=>by
    rw [ea]
    dsimp only
    have hl:(W.take 6).drop i=W.getD i default::(W.take 6).drop (i+1):=by
      rw [cr (W.take 6) i (by simp;omega)]
      congr 1
      rw [List.getD_eq_getElem?_getD,List.getD_eq_getElem?_getD,List.getElem?_take_of_lt (by omega)]
    rw [aV (by omega),aV (by omega),Bool.and_self,cond_true,au (aI ⟨by omega,by omega⟩),w64 (by omega),show (i:Int)+1=((i+1:Nat):Int) by omega,Int.toNat_natCast,hl,List.map_cons]
    cases h6:iLt 6 ((W.getD i default).length:Int) with
    | true=>
      rw [cG] at h6
      rw [cond_true,au (ue ⟨by omega,by omega,by omega⟩),au (cH (by simp;omega)),au (cH (by simp;omega)),AD W n (i+1) f _ (by omega) (by omega) (by simp [ha])]
      simp
    | false=>
      rw [bd] at h6
      rw [cond_false,au (cH (by rw [List.length_nil];omega)),au (cH (by simp;omega)),AD W n (i+1) f _ (by omega) (by omega) (by simp [ha])]
      rw [List.take_of_length_le (l:=W.getD i default) (by omega)]
      simp
theorem EU (W:List (List af)):kv W=some (ownW W):=by
  unfold kv
  have:=AD W (min W.length 6) 0 fuel [] (by omega) (by have:=aJ;omega) rfl
  rw [show (0:Int)=((0:Nat):Int) from rfl,this]
  rfl
theorem Du (W:List (List af)):ownW (ownW W)=ownW W:=by
  unfold ownW
  rw [List.take_of_length_le (by rw [List.length_map,List.length_take];omega),List.map_map]
  refine List.map_congr_left fun l _=>?_
  show (l.take 6).take 6=l.take 6
  rw [List.take_take,Nat.min_self]
def ownF (F:aw):aw:=⟨F.Args,F.Locals,F.Code.take 250⟩
def ownP (p:aa):aa:=⟨p.Decls.take 40,(p.Waits.take 40).map ownW,(p.Funcs.take 20).map ownF⟩
theorem m8 {α:Type} [Inhabited α] (L:List α) (m i:Nat) (h:i<L.length) (hm:i<m):(L.take m).drop i=L.getD i default::(L.take m).drop (i+1):=by
  rw [cr (L.take m) i (by simp;omega)]
  congr 1
  rw [List.getD_eq_getElem?_getD,List.getD_eq_getElem?_getD,List.getElem?_take_of_lt hm]
theorem CJ {p:aa} {k:Nat} {G:List aw} {K:List aw→Option aa} (hk:k<p.Funcs.length) (hG:G.length≤20):∀ (n i f:Nat) (acc:List aq),i+n=min (p.Funcs.getD k default).Code.length 250→n<f→acc.length=i→
    eh p ((k:Int),G) K f ((i:Int),acc)=K (G++[⟨(p.Funcs.getD k default).Args,(p.Funcs.getD k default).Locals,acc++((p.Funcs.getD k default).Code.take 250).drop i⟩])
  | n,i,0,acc,hi,hf,ha=>by omega
  | 0,i,f+1,acc,hi,hf,ha=>by
    rw [eh]
    dsimp only
    rw [au (aI ⟨by omega,by omega⟩),Int.toNat_natCast]
    have:(iLt (i:Int) ((p.Funcs.getD k default).Code.length:Int)&&iLt (i:Int) 250)=false:=by
      rw [Bool.and_eq_false_iff,bd,bd];omega
    rw [this,cond_false,au (cH (by simp only [List.length_append,List.length_cons,List.length_nil];omega)),List.drop_eq_nil_of_le (by rw [List.length_take];omega),List.append_nil]
  | n+1,i,f+1,acc,hi,hf,ha=>by
    rw [eh]
    dsimp only
    rw [au (aI ⟨by omega,by omega⟩),Int.toNat_natCast,aV (by omega),aV (by omega),Bool.and_self,cond_true,au (aI ⟨by omega,by omega⟩),au (aI ⟨by omega,by omega⟩),au (cH (by simp only [List.length_append,List.length_cons,List.length_nil];omega)),w64 (by omega),show (i:Int)+1=((i+1:Nat):Int) by omega,CJ hk hG n (i+1) f _ (by omega) (by omega) (by simp;omega),m8 _ 250 i (by omega) (by omega),Int.toNat_natCast]
    simp
theorem CL (p:aa) (D:List ai) (W:List (List (List af))) (x y:Int):∀ (n i f:Nat) (acc:List aw),i+n=min p.Funcs.length 20→n<f→acc.length=i→
    dG p (x,D) (y,W) f ((i:Int),acc)=some ⟨D,W,acc++((p.Funcs.take 20).drop i).map ownF⟩
  | n,i,0,acc,hi,hf,ha=>by omega
  | 0,i,f+1,acc,hi,hf,ha=>by
    rw [dG]
    dsimp only
    have:(iLt (i:Int) (p.Funcs.length:Int)&&iLt (i:Int) 20)=false:=by
      rw [Bool.and_eq_false_iff,bd,bd];omega
    rw [this,cond_false,List.drop_eq_nil_of_le (by rw [List.length_take];omega),List.map_nil,List.append_nil]
  | n+1,i,f+1,acc,hi,hf,ha=>by
    rw [dG]
    dsimp only
    have hN:nIn (i:Int) (p.Funcs.length:Int)=true:=aI ⟨by omega,by omega⟩
    rw [aV (by omega),aV (by omega),Bool.and_self,cond_true,dN,au hN,au hN,m8 _ 20 i (by omega) (by omega),List.map_cons]
    have:=CJ (p:=p) (k:=i) (G:=acc) (K:=fun s14=>dG p (x,D) (y,W) f (IntKind.i64.wrap ((i:Int)+1),s14)) (by omega) (by omega) (min (p.Funcs.getD i default).Code.length 250) 0 fuel [] (by omega) (by have:=aJ;omega) rfl
    refine Eq.trans this ?_
    rw [w64 (by omega),show (i:Int)+1=((i+1:Nat):Int) by omega,CL p D W x y n (i+1) f _ (by omega) (by omega) (by simp;omega)]
    simp [ownF]
theorem Ed (p:aa) (D:List ai) (x:Int):∀ (n i f:Nat) (acc:List (List (List af))),i+n=min p.Waits.length 40→n<f→acc.length=i→
    eT p (x,D) f ((i:Int),acc)=some ⟨D,acc++((p.Waits.take 40).drop i).map ownW,(p.Funcs.take 20).map ownF⟩
  | n,i,0,acc,hi,hf,ha=>by omega
  | 0,i,f+1,acc,hi,hf,ha=>by
    rw [eT]
    dsimp only
    have:(iLt (i:Int) (p.Waits.length:Int)&&iLt (i:Int) 40)=false:=by
      rw [Bool.and_eq_false_iff,bd,bd];omega
    rw [this,cond_false,List.drop_eq_nil_of_le (by rw [List.length_take];omega),List.map_nil,List.append_nil]
    have h:=CL p D acc x (i:Int) (min p.Funcs.length 20) 0 fuel [] (by omega) (by have:=aJ;omega) rfl
    rw [List.drop_zero,List.nil_append] at h
    exact h
  | n+1,i,f+1,acc,hi,hf,ha=>by
    rw [eT]
    dsimp only
    rw [aV (by omega),aV (by omega),Bool.and_self,cond_true,au (aI ⟨by omega,by omega⟩),Int.toNat_natCast,EU,ae,au (cH (by simp only [List.length_append,List.length_cons,List.length_nil];omega)),w64 (by omega),show (i:Int)+1=((i+1:Nat):Int) by omega,Ed p D x n (i+1) f _ (by omega) (by omega) (by simp;omega),m8 _ 40 i (by omega) (by omega),List.map_cons]
    simp
theorem Ee (p:aa):∀ (n i f:Nat) (acc:List ai),i+n=min p.Decls.length 40→n<f→acc.length=i→
    eU p f ((i:Int),acc)=some ⟨acc++(p.Decls.take 40).drop i,(p.Waits.take 40).map ownW,(p.Funcs.take 20).map ownF⟩
  | n,i,0,acc,hi,hf,ha=>by omega
  | 0,i,f+1,acc,hi,hf,ha=>by
    rw [eU]
    dsimp only
    have:(iLt (i:Int) (p.Decls.length:Int)&&iLt (i:Int) 40)=false:=by
      rw [Bool.and_eq_false_iff,bd,bd];omega
    rw [this,cond_false,List.drop_eq_nil_of_le (by rw [List.length_take];omega),List.append_nil]
    have h:=Ed p acc (i:Int) (min p.Waits.length 40) 0 fuel [] (by omega) (by have:=aJ;omega) rfl
    rw [List.drop_zero,List.nil_append] at h
    exact h
  | n+1,i,f+1,acc,hi,hf,ha=>by
    rw [eU]
    dsimp only
    rw [aV (by omega),aV (by omega),Bool.and_self,cond_true,au (aI ⟨by omega,by omega⟩),Int.toNat_natCast,au (cH (by simp only [List.length_append,List.length_cons,List.length_nil];omega)),w64 (by omega),show (i:Int)+1=((i+1:Nat):Int) by omega,Ee p n (i+1) f _ (by omega) (by omega) (by simp;omega),m8 _ 40 i (by omega) (by omega)]
    simp
theorem EV (p:aa):jC p=some (ownP p):=by
  unfold jC
  have h:=Ee p (min p.Decls.length 40) 0 fuel [] (by omega) (by have:=aJ;omega) rfl
  rw [List.drop_zero,List.nil_append] at h
  exact h
theorem BR (p:aa):ownP (ownP p)=ownP p:=by
  unfold ownP
  dsimp only
  congr 1
  · rw [List.take_take,Nat.min_self]
  · rw [List.take_of_length_le (by rw [List.length_map,List.length_take];omega),List.map_map]
    exact List.map_congr_left fun l _=>Du l
  · rw [List.take_of_length_le (by rw [List.length_map,List.length_take];omega),List.map_map]
    refine List.map_congr_left fun F _=>?_
    show (⟨F.Args,F.Locals,(F.Code.take 250).take 250⟩:aw)=⟨F.Args,F.Locals,F.Code.take 250⟩
    rw [List.take_take,Nat.min_self]
end LJ
end
section
namespace LJ
open Go Go.RowKit
set_option linter.unusedVariables false
set_option linter.unusedSimpArgs false
theorem AE (u:Bool) (b s:ByteArray):aY ⟨u,b⟩ s=need (nCap (b.size+s.size)) (some ((s.size:Int),(),(⟨true,b++s⟩:aH))):=by
  unfold aY cf
  cases u <;> rfl
theorem iX {n:Int} (h0:0≤n) (h:n<18446744073709551616):il n=some (bs (numL n.toNat)):=by
  unfold il
  have:=aM (n:=n.toNat) (by omega)
  rw [wu64 (by omega),iq h0 (by omega) (by simp;omega),ae]
  unfold cw
  rw [ae]
  exact congrArg some (c8 (by simp))
def putF (F:aw):List UInt8:=numL F.Args.toNat++(numL F.Locals.toNat++(numL F.Code.length++F.Code.flatMap putI))
def lV:List UInt8:=[76,74,1]
def putP (p:aa):List UInt8:=lV++(pM p.Decls++(numL p.Waits.length++(p.Waits.flatMap nO++(numL p.Funcs.length++p.Funcs.flatMap putF))))
theorem qb {F:aw} (h:qT F):(F.Code.flatMap putI).length≤4200:=by
  have:=ji putI 21 (fun x hx=>xu (lR (h.ins x hx)))
  have:=h.code
  omega
theorem xA {F:aw} (h:qT F):(putF F).length≤4230:=by
  have:=qb h
  have ⟨h1,h2,h3,h4⟩:=h
  have:=aM (n:=F.Args.toNat) (by omega)
  have:=aM (n:=F.Locals.toNat) (by omega)
  have:=aM (n:=F.Code.length) (by omega)
  unfold putF
  simp only [List.length_append]
  omega
theorem kG.wait {p:aa} (h:kG p):∀ w∈p.Waits,sN w:=fun w hw=>sN.of h.decls (h.waits.2 w hw)
theorem sP {p:aa} (h:kG p):(putP p).length≤100000:=by
  have d:=pL h.decls
  have:=uz d.1 d.2.2.2
  have:=ji putF 4230 (fun x hx=>xA (h.fns x hx))
  have:=ji nO 386 (fun x hx=>uI (h.wait x hx))
  have h1:=h.funcs
  have h2:=h.waits.1
  have:=aM (n:=p.Waits.length) (by omega)
  have:=aM (n:=p.Funcs.length) (by omega)
  unfold putP lV
  simp only [List.length_append,List.length_cons,List.length_nil]
  omega
theorem j7 {α:Type} [Inhabited α] (L:List α) (i:Nat) (h:i<L.length):L.getD i default∈L:=by
  rw [List.getD_eq_getElem?_getD,List.getElem?_eq_getElem (by omega)]
  exact List.getElem_mem _
theorem AF {p:aa} {s:Int×Bool×ByteArray} {K:(Bool×ByteArray)→Option (ByteArray×Int)} {F:aw} (hF:p.Funcs.getD s.1.toNat default=F) (g:qT F):∀ (n i f:Nat) (u:Bool) (b:ByteArray),i+n=F.Code.length→n<f→b.size+21*n≤1000000→
    ∃ u',e8 p s K f ((i:Int),u,b)=K (u',b++bs ((F.Code.drop i).flatMap putI))
  | n,i,0,u,b,hi,hf,hb=>by omega
  | 0,i,f+1,u,b,hi,hf,hb=>by
    refine ⟨u,?_⟩
    rw [e8]
    dsimp only
    rw [hF,aW (by omega),cond_false,List.drop_eq_nil_of_le (by omega)]
    congr 2
    apply c8
    simp
  | n+1,i,f+1,u,b,hi,hf,hb=>by
    have hx:=g.ins _ (j7 F.Code i (by omega))
    have hl:=xu (lR hx)
    have hc:=g.code
    rw [e8]
    dsimp only
    rw [hF,aV (by omega),cond_true,au (aI ⟨by omega,by omega⟩),Int.toNat_natCast,yj hx,ae,AE,au (cH (by rw [bb];omega)),ae,w64 (by omega),show (i:Int)+1=((i+1:Nat):Int) by omega]
    obtain ⟨u',hu⟩:=AF (p:=p) (s:=s) (K:=K) hF g n (i+1) f true (b++bs (putI (F.Code.getD i default))) (by omega) (by omega) (by rw [ByteArray.size_append,bb];omega)
    refine ⟨u',Eq.trans hu ?_⟩
    rw [cr F.Code i (by omega),List.flatMap_cons]
    congr 2
    apply c8
    simp
theorem AG {p:aa} (g:kG p):∀ (n i f:Nat) (u:Bool) (b:ByteArray),i+n=p.Funcs.length→n<f→b.size+4230*n≤500000→
    di p f ((i:Int),u,b)=some (b++bs ((p.Funcs.drop i).flatMap putF),0)
  | n,i,0,u,b,hi,hf,hb=>by omega
  | 0,i,f+1,u,b,hi,hf,hb=>by
    rw [di]
    unfold cI
    dsimp only
    rw [aW (by omega),cond_false,List.drop_eq_nil_of_le (by omega),ae]
    congr 2
    apply c8
    simp
  | n+1,i,f+1,u,b,hi,hf,hb=>by
    have gF:=g.fns _ (j7 p.Funcs i (by omega))
    have hl:=xA gF
    have h4:=qb gF
    have hfs:=g.funcs
    have hN:nIn (i:Int) (p.Funcs.length:Int)=true:=aI ⟨by omega,by omega⟩
    have ⟨h1,h2,h3,_⟩:=gF
    have l1:=aM (n:=(p.Funcs.getD i default).Args.toNat) (by omega)
    have l2:=aM (n:=(p.Funcs.getD i default).Locals.toNat) (by omega)
    have l3:=aM (n:=(p.Funcs.getD i default).Code.length) (by omega)
    rw [di]
    dsimp only
    rw [aV (by omega),cond_true,dN,au hN,Int.toNat_natCast,iX (by omega) (by omega),ae,iX (by omega) (by omega),ae,au (nM (by simp only [ByteArray.size_append,bb];omega)),iX (by omega) (by omega),ae,Int.toNat_natCast,au (nM (by simp only [ByteArray.size_append,bb];omega)),AE,au (cH (by simp only [ByteArray.size_append,bb];omega)),ae]
    obtain ⟨u',hu⟩:=AF (p:=p) (s:=((i:Int),u,b)) (K:=fun s20=>di p f (IntKind.i64.wrap ((i:Int)+1),s20.1,s20.2)) (F:=p.Funcs.getD i default) (by rw [Int.toNat_natCast]) gF (p.Funcs.getD i default).Code.length 0 fuel true (b++(bs (numL (p.Funcs.getD i default).Args.toNat)++bs (numL (p.Funcs.getD i default).Locals.toNat)++bs (numL (p.Funcs.getD i default).Code.length))) (by omega) (by have:=aJ;omega) (by simp only [ByteArray.size_append,bb];omega)
    refine Eq.trans hu ?_
    rw [List.drop_zero]
    dsimp only
    rw [w64 (by omega),show (i:Int)+1=((i+1:Nat):Int) by omega,AG g n (i+1) f u' _ (by omega) (by omega) (by simp only [ByteArray.size_append,bb];omega),cr p.Funcs i (by omega),List.flatMap_cons]
    congr 2
    apply c8
    simp [putF]
theorem CM {p:aa} (g:kG p):∀ (n i f:Nat) (u:Bool) (b:ByteArray),i+n=p.Waits.length→n<f→b.size+386*n≤100000→
    eu p f ((i:Int),u,b)=some (b++bs ((p.Waits.drop i).flatMap nO++(numL p.Funcs.length++p.Funcs.flatMap putF)),0)
  | n,i,0,u,b,hi,hf,hb=>by omega
  | 0,i,f+1,u,b,hi,hf,hb=>by
    have hfs:=g.funcs
    have l1:=aM (n:=p.Funcs.length) (by omega)
    rw [eu]
    dsimp only
    rw [aW (by omega),cond_false,iX (by omega) (by omega),ae,Int.toNat_natCast,AE,au (cH (by simp only [ByteArray.size_append,bb];omega)),ae,List.drop_eq_nil_of_le (by omega),show di p fuel (0,_)=di p fuel (((0:Nat):Int),_) from rfl]
    rw [AG g p.Funcs.length 0 fuel _ _ (by omega) (by have:=aJ;omega) (by simp only [ByteArray.size_append,bb];omega),List.drop_zero]
    congr 2
    apply c8
    simp
  | n+1,i,f+1,u,b,hi,hf,hb=>by
    have hm:=j7 p.Waits i (by omega)
    have hx:=g.waits.2 _ hm
    have hl:=uI (g.wait _ hm)
    have hws:=g.waits.1
    rw [eu]
    dsimp only
    rw [aV (by omega),cond_true,au (aI ⟨by omega,by omega⟩),Int.toNat_natCast,wc g.decls hx,ae,AE,au (cH (by rw [bb];omega)),ae,w64 (by omega),show (i:Int)+1=((i+1:Nat):Int) by omega]
    rw [CM g n (i+1) f true _ (by omega) (by omega) (by rw [ByteArray.size_append,bb];omega),cr p.Waits i (by omega),List.flatMap_cons]
    congr 2
    apply c8
    simp
theorem wj {p:aa} (h:chkP p=0):mU p=some (bs (putP p),0):=by
  have g:=kG.of h
  have d:=pL g.decls
  have hd:=uz d.1 d.2.2.2
  have hw:=g.waits.1
  have l1:=aM (n:=p.Waits.length) (by omega)
  have h3:(⟨#[76,74,1]⟩:ByteArray)=bs [76,74,1]:=rfl
  unfold mU
  rw [ir,ae,bG h,cond_false,vK g.decls,ae,h3,au (nM (by simp only [ByteArray.size_append,bb,List.length_cons,List.length_nil];omega)),iX (by omega) (by omega),ae,Int.toNat_natCast,au (nM (by simp only [ByteArray.size_append,bb,List.length_cons,List.length_nil];omega)),AE,au (cH (by simp only [ByteArray.size_append,bb,ByteArray.size_empty,List.length_cons,List.length_nil];omega)),ae,show eu p fuel (0,_)=eu p fuel (((0:Nat):Int),_) from rfl]
  rw [CM g p.Waits.length 0 fuel _ _ (by omega) (by have:=aJ;omega) (by simp only [ByteArray.size_append,bb,ByteArray.size_empty,List.length_cons,List.length_nil];omega),List.drop_zero]
  congr 2
  apply c8
  simp [putP,lV]
end LJ
end
section
namespace LJ
open Go Go.RowKit
set_option linter.unusedVariables false
set_option linter.unusedSimpArgs false
def sb {α β:Type} (x:Int ⊕ α) (k:α→Int ⊕ β):Int ⊕ β:=match x with
  | .inl e=> .inl e
  | .inr y=>k y
theorem kf {α β:Type} (e:Int) (k:α→Int ⊕ β):sb (.inl e:Int ⊕ α) k= .inl e:=rfl
theorem bD {α β:Type} (y:α) (k:α→Int ⊕ β):sb (.inr y:Int ⊕ α) k=k y:=rfl
theorem BS {α β γ:Type} (x:Int ⊕ α) (f:α→Int ⊕ β) (g:β→Int ⊕ γ):sb (sb x f) g=sb x fun y=>sb (f y) g:=by cases x <;> rfl
theorem fr {α β:Type} {x:Int ⊕ α} {k:α→Int ⊕ β} {z:β} (h:sb x k= .inr z):∃ y,x= .inr y∧k y= .inr z:=by
  cases x with
  | inl e=>cases h
  | inr y=>exact ⟨y,rfl,h⟩
theorem m9 {α β:Type} (e:Int) (k:β→Option (Int ⊕ α)):lv (.inl e:Int ⊕ β) k=some (.inl e):=rfl
theorem eF {α β:Type} (y:β) (k:β→Option (Int ⊕ α)):lv (.inr y:Int ⊕ β) k=k y:=rfl
def two {α:Type} (r:α×Int×List UInt8):Int ⊕ (α×List UInt8):=cond (iEq r.2.1 0) (.inr (r.1,r.2.2)) (.inl r.2.1)
theorem gl {α:Type} {r:α×Int×List UInt8} (h:r.2.1=0):two r= .inr (r.1,r.2.2):=by unfold two;rw [aO h,cond_true]
theorem ia {α:Type} {r:α×Int×List UInt8} (h:r.2.1≠0):two r= .inl r.2.1:=by unfold two;rw [aK h,cond_false]
theorem fK {α:Type} {r:α×Int×List UInt8} {y:α×List UInt8} (h:two r= .inr y):r.2.1=0∧y=(r.1,r.2.2):=by
  by_cases h0:r.2.1=0
  · rw [gl h0] at h;exact ⟨h0,(Sum.inr.inj h).symm⟩
  · rw [ia h0] at h;cases h
theorem sQ {α:Type} {r:α×Int×List UInt8} {e:Int} (h:two r= .inl e):r.2.1=e∧e≠0:=by
  by_cases h0:r.2.1=0
  · rw [gl h0] at h;cases h
  · rw [ia h0] at h;have:=Sum.inl.inj h;exact ⟨this,this ▸h0⟩
def numP (l:List UInt8):Int ⊕ (Nat×List UInt8):=two ((rdN l 0).2.1,(rdN l 0).1,(rdN l 0).2.2)
def ki (m:Nat) (l:List UInt8):Int ⊕ (Nat×List UInt8):=sb (numP l) fun r=>cond (iLt (m:Int) (r.1:Int)) (.inl 4) (.inr r)
def gI (l:List UInt8):Int ⊕ (aq×List UInt8):=two (getI l)
def gW (D:List ai) (l:List UInt8):Int ⊕ (List (List af)×List UInt8):=two (ly D l)
def gD (l:List UInt8):Int ⊕ (List ai×List UInt8):=two (jL l)
def repP {α:Type} (g:List UInt8→Int ⊕ (α×List UInt8)):Nat→List UInt8→List α→Int ⊕ (List α×List UInt8)
  | 0,l,acc=> .inr (acc,l)
  | n+1,l,acc=>sb (g l) fun r=>repP g n r.2 (acc++[r.1])
def cap (n:Nat):Int:=((min n 2147483648:Nat):Int)
def fnP (l:List UInt8):Int ⊕ (aw×List UInt8):=sb (numP l) fun a=>sb (numP a.2) fun b=>sb (ki 200 b.2) fun n=>sb (repP gI n.1 n.2 []) fun c=> .inr (⟨cap a.1,cap b.1,c.1⟩,c.2)
def yo {β:Type} (K:aa×List UInt8→Int ⊕ β) (l:List UInt8):Int ⊕ β:=sb (gD l) fun d=>sb (ki 32 d.2) fun n=>sb (repP (gW d.1) n.1 n.2 []) fun w=>sb (ki 16 w.2) fun m=>sb (repP fnP m.1 m.2 []) fun f=>K (⟨d.1,w.1,f.1⟩,f.2)
def qU (l:List UInt8):Int ⊕ (aa×List UInt8):=yo (fun r=> .inr r) l
theorem BT {β:Type} (K:aa×List UInt8→Int ⊕ β) (l:List UInt8):yo K l=sb (qU l) K:=by
  unfold qU yo
  simp only [BS,bD]
def noP:aa:=⟨[],[],[]⟩
def clP (r:aa×List UInt8):Int ⊕ aa:=cond (iEq (r.2.length:Int) 0) (cond (iEq (chkP r.1) 0) (.inr r.1) (.inl (chkP r.1))) (.inl 2)
def outP:Int ⊕ aa→aa×Int
  | .inl e=>(noP,e)
  | .inr p=>(p,0)
def getP (l:List UInt8):aa×Int:=cond (sEq (bs (l.take 3)) (bs lV)) (outP (sb (qU (l.drop 3)) clP)) (noP,2)
def Suf {α:Type} (l:List UInt8) (x:Int ⊕ (α×List UInt8)):Prop:=∀ r,x= .inr r→r.2<:+l
theorem Suf.num (l:List UInt8):Suf l (numP l):=fun r h=>by
  obtain ⟨h1,rfl⟩:=fK h
  dsimp only at h1 ⊢
  have:=(eC h1).1
  exact ⟨_,this.symm⟩
theorem Suf.many (m:Nat) (l:List UInt8):Suf l (ki m l):=fun r h=>by
  obtain ⟨y,h1,h2⟩:=fr h
  cases hc:iLt (m:Int) (y.1:Int) with
  | true=>rw [hc] at h2;cases h2
  | false=>rw [hc] at h2;cases h2;exact Suf.num l _ h1
theorem Suf.ins (l:List UInt8):Suf l (gI l):=fun r h=>by
  obtain ⟨h1,rfl⟩:=fK h
  exact ⟨_,(xv h1).2.symm⟩
theorem Suf.wait {D:List ai} (hD:(chkL D).2=0) (l:List UInt8):Suf l (gW D l):=fun r h=>by
  obtain ⟨h1,rfl⟩:=fK h
  exact ⟨_,(uK hD h1).2.symm⟩
theorem Suf.decl (l:List UInt8):Suf l (gD l):=fun r h=>by
  obtain ⟨h1,rfl⟩:=fK h
  exact ⟨_,(pR h1).2.symm⟩
theorem CN {l:List UInt8} {r:List ai×List UInt8} (h:gD l= .inr r):(chkL r.1).2=0:=by
  obtain ⟨h1,rfl⟩:=fK h
  exact (pR h1).1
theorem Suf.rep {α:Type} {g:List UInt8→Int ⊕ (α×List UInt8)} (hg:∀ l,Suf l (g l)):∀ (n:Nat) (l:List UInt8) (acc:List α),Suf l (repP g n l acc)
  | 0,l,acc=>fun r h=>by cases h;exact List.suffix_refl _
  | n+1,l,acc=>fun r h=>by
    obtain ⟨y,h1,h2⟩:=fr h
    exact (Suf.rep hg n y.2 _ r h2).trans (hg l y h1)
theorem Suf.fn (l:List UInt8):Suf l (fnP l):=fun r h=>by
  obtain ⟨a,h1,h⟩:=fr h
  obtain ⟨b,h2,h⟩:=fr h
  obtain ⟨n,h3,h⟩:=fr h
  obtain ⟨c,h4,h⟩:=fr h
  cases h
  exact (Suf.rep Suf.ins _ _ _ _ h4).trans ((Suf.many _ _ _ h3).trans ((Suf.num _ _ h2).trans (Suf.num _ _ h1)))
theorem j8 {m:Nat} {l:List UInt8} {r:Nat×List UInt8} (h:ki m l= .inr r):r.1≤m∧numP l= .inr r:=by
  obtain ⟨y,h1,h2⟩:=fr h
  cases hc:iLt (m:Int) (y.1:Int) with
  | true=>rw [hc] at h2;cases h2
  | false=>rw [hc] at h2;cases h2;rw [bd] at hc;exact ⟨by omega,h1⟩
def lf {α β:Type} (f:α→β):Int ⊕ (α×List UInt8)→Int ⊕ (β×ao)
  | .inl e=> .inl e
  | .inr r=> .inr (f r.1,⟨bs r.2⟩)
theorem qc {α β:Type} (f:α→β) (r:α×List UInt8):lf f (.inr r)= .inr (f r.1,⟨bs r.2⟩):=rfl
theorem sR {l t:List UInt8} (h:t<:+l) {n:Int} (hn:n=(l.length:Int) - t.length) {e:Int} (he:e=0):bB ⟨bs l⟩ n e=some (.inr ⟨bs t⟩):=by
  have hl:=h.length_le
  unfold bB
  rw [bG he,cond_false]
  dsimp only
  rw [au (ud (by rw [bb];omega))]
  congr 3
  apply c8
  rw [fN,ft,ft,bb,List.take_length,show n.toNat=l.length - t.length by omega]
  obtain ⟨p,rfl⟩:=h
  rw [List.length_append,show p.length+t.length - t.length=p.length by omega,List.drop_left]
theorem o7 {r:ao} {n e:Int} (h:e≠0):bB r n e=some (.inl e):=by
  unfold bB
  rw [cm h,cond_true]
theorem nQ {l:List UInt8} (hl:l.length≤9007199254740992):cg ⟨bs l⟩=some (lf cap (numP l)):=by
  have h0:RdOK (bs l) l 0:=⟨by rw [ft];exact List.suffix_refl _,fun h=>absurd rfl h⟩
  have hs:(bs l).size≤9007199254740992:=by rw [bb];omega
  have hr:=h0.num.suf
  rw [ft] at hr
  have hr':=hr.length_le
  unfold cg
  rw [pH,ae,ft,eO hs h0,ae]
  dsimp only
  rw [pK hs h0.num,ae,bH,ae,bb,w64 (by omega),Au (pJ l 0)]
  by_cases he:(rdN l 0).1=0
  · rw [sR hr rfl he,ae,eF,numP,gl he]
    rfl
  · rw [o7 he,ae,m9,numP,ia he]
    rfl
theorem lW {m:Nat} (hm:m≤1000) {l:List UInt8} (hl:l.length≤9007199254740992):bU ⟨bs l⟩ (m:Int)=some (lf (fun n:Nat=>(n:Int)) (ki m l)):=by
  unfold bU ki
  rw [nQ hl,ae]
  cases hn:numP l with
  | inl e=>rfl
  | inr r=>
    rw [bD,qc,eF]
    dsimp only
    unfold cap
    by_cases h:m<r.1
    · rw [aV (by omega),aV (by omega)];rfl
    · rw [aW (by omega),aW (by omega),show min r.1 2147483648=r.1 by omega];rfl
theorem uL (x1 x2 x3:Int×ao) {N:Nat} (hN:x3.1=(N:Int)) (hN2:N≤200):∀ (n i f:Nat) (l:List UInt8) (acc:List aq),i+n=N→n<f→acc.length=i→l.length≤9007199254740992→
    bI x1 x2 x3 f ((i:Int),bs l,acc)=some (lf (fun c=>⟨x1.1,x2.1,c⟩) (repP gI n l acc))
  | n,i,0,l,acc,hi,hf,ha,hl=>by omega
  | 0,i,f+1,l,acc,hi,hf,ha,hl=>by
    rw [bI]
    dsimp only
    rw [hN,aW (by omega),cond_false]
    rfl
  | n+1,i,f+1,l,acc,hi,hf,ha,hl=>by
    rw [bI]
    dsimp only
    rw [hN,aV (by omega),cond_true,yk (by rw [bb];omega),ft,outI,ae]
    dsimp only
    rw [repP]
    by_cases he:(getI l).2.1=0
    · have hg:gI l= .inr ((getI l).1,(getI l).2.2):=gl he
      have hs:=Suf.ins l _ hg
      have hs':=hs.length_le
      dsimp only at hs hs'
      rw [aO he,cond_true,sR hs (by rw [bb]) he,ae,eF,au (cH (by simp only [List.length_cons,List.length_nil];omega)),w64 (by omega),show (i:Int)+1=((i+1:Nat):Int) by omega,hg,bD]
      exact uL x1 x2 x3 hN hN2 n (i+1) f _ _ (by omega) (by omega) (by simp;omega) (by omega)
    · rw [o7 he,ae,m9,gI,ia he,kf]
      rfl
theorem AH {l:List UInt8} (hl:l.length≤9007199254740992):bP ⟨bs l⟩=some (lf id (fnP l)):=by
  unfold bP fnP
  rw [nQ hl,ae]
  cases h1:numP l with
  | inl e=>rfl
  | inr a=>
    have s1:=(Suf.num l _ h1).length_le
    rw [bD,qc,eF]
    dsimp only
    rw [nQ (by omega),ae]
    cases h2:numP a.2 with
    | inl e=>rfl
    | inr b=>
      have s2:=(Suf.num _ _ h2).length_le
      rw [bD,qc,eF]
      dsimp only
      rw [show (200:Int)=((200:Nat):Int) from rfl,lW (by omega) (by omega),ae]
      cases h3:ki 200 b.2 with
      | inl e=>rfl
      | inr n=>
        have s3:=(Suf.many _ _ _ h3).length_le
        have hn:=(j8 h3).1
        rw [bD,qc,eF]
        have:=uL (cap a.1,⟨bs a.2⟩) (cap b.1,⟨bs b.2⟩) ((n.1:Int),⟨bs n.2⟩) (N:=n.1) rfl hn n.1 0 fuel n.2 [] (by omega) (by have:=aJ;omega) rfl (by omega)
        refine Eq.trans this ?_
        cases repP gI n.1 n.2 [] <;> rfl
def fin (r:aa×List UInt8):Int ⊕ (aa×ao):=cond (iEq (r.2.length:Int) 0) (.inr (r.1,⟨bs r.2⟩)) (.inl 2)
theorem AI (l:List UInt8):sEq (bs l) ByteArray.empty=iEq (l.length:Int) 0:=by
  cases l with
  | nil=>exact (yc rfl).trans (aO rfl).symm
  | cons b t=>
    rw [aK (by simp only [List.length_cons];omega)]
    refine yd fun h=>?_
    have:=congrArg ByteArray.size h
    rw [bb] at this
    simp at this
theorem rS (x1:(List ai)×Int×Int) (s5:Int×ByteArray×(List (List (List af)))) (x10:Int×ao) {N:Nat} (hN:x10.1=(N:Int)) (hN2:N≤16):∀ (n i f:Nat) (l:List UInt8) (acc:List aw),i+n=N→n<f→acc.length=i→l.length≤9007199254740992→
    bJ x1 s5 x10 f ((i:Int),bs l,acc)=some (sb (repP fnP n l acc) fun r=>fin (⟨x1.1,s5.2.2,r.1⟩,r.2))
  | n,i,0,l,acc,hi,hf,ha,hl=>by omega
  | 0,i,f+1,l,acc,hi,hf,ha,hl=>by
    rw [bJ]
    dsimp only
    rw [hN,aW (by omega),cond_false,AI,repP,bD]
    unfold fin
    dsimp only
    cases iEq (l.length:Int) 0 <;> rfl
  | n+1,i,f+1,l,acc,hi,hf,ha,hl=>by
    rw [bJ]
    dsimp only
    rw [hN,aV (by omega),cond_true,AH hl,ae,repP,BS]
    cases h1:fnP l with
    | inl e=>rfl
    | inr r=>
      have s1:=(Suf.fn l _ h1).length_le
      rw [qc,eF,bD]
      dsimp only
      rw [au (cH (by simp only [List.length_cons,List.length_nil];omega)),w64 (by omega),show (i:Int)+1=((i+1:Nat):Int) by omega]
      exact rS x1 s5 x10 hN hN2 n (i+1) f _ _ (by omega) (by omega) (by simp;omega) (by omega)
theorem rT (x1:(List ai)×Int×Int) (hD:(chkL x1.1).2=0) (x3:Int×ao) {N:Nat} (hN:x3.1=(N:Int)) (hN2:N≤32):∀ (n i f:Nat) (l:List UInt8) (acc:List (List (List af))),i+n=N→n<f→acc.length=i→l.length≤9007199254740992→
    bQ x1 x3 f ((i:Int),bs l,acc)=some (sb (repP (gW x1.1) n l acc) fun w=>sb (ki 16 w.2) fun m=>sb (repP fnP m.1 m.2 []) fun r=>fin (⟨x1.1,w.1,r.1⟩,r.2))
  | n,i,0,l,acc,hi,hf,ha,hl=>by omega
  | 0,i,f+1,l,acc,hi,hf,ha,hl=>by
    rw [bQ]
    dsimp only
    rw [hN,aW (by omega),cond_false,show (16:Int)=((16:Nat):Int) from rfl,lW (by omega) hl,ae,repP,bD]
    dsimp only
    cases h1:ki 16 l with
    | inl e=>rfl
    | inr m=>
      have s1:=(Suf.many _ _ _ h1).length_le
      have hm:=(j8 h1).1
      rw [qc,eF,bD]
      exact rS x1 ((i:Int),bs l,acc) ((m.1:Int),⟨bs m.2⟩) (N:=m.1) rfl hm m.1 0 fuel m.2 [] (by omega) (by have:=aJ;omega) rfl (by omega)
  | n+1,i,f+1,l,acc,hi,hf,ha,hl=>by
    rw [bQ]
    dsimp only
    rw [hN,aV (by omega),cond_true,wh (m7 hD).1 (by rw [bb];omega),ae,ft]
    dsimp only
    rw [repP,BS]
    by_cases he:(ly x1.1 l).2.1=0
    · have hg:gW x1.1 l= .inr ((ly x1.1 l).1,(ly x1.1 l).2.2):=gl he
      have hs:=Suf.wait hD l _ hg
      have hs':=hs.length_le
      dsimp only at hs hs'
      rw [aO he,cond_true,sR hs (by rw [bb]) he,ae,eF,au (cH (by simp only [List.length_cons,List.length_nil];omega)),w64 (by omega),show (i:Int)+1=((i+1:Nat):Int) by omega,hg,bD]
      exact rT x1 hD x3 hN hN2 n (i+1) f _ _ (by omega) (by omega) (by simp;omega) (by omega)
    · rw [o7 he,ae,m9,gW,ia he,kf]
theorem qV {l:List UInt8} (hl:l.length≤9007199254740992):bR ⟨bs l⟩=some (yo fin l):=by
  unfold bR yo
  dsimp only
  rw [vL (by rw [bb];omega),ae,ft]
  dsimp only
  by_cases he:(jL l).2.1=0
  · have hg:gD l= .inr ((jL l).1,(jL l).2.2):=gl he
    have hD:=CN hg
    have hs:=Suf.decl l _ hg
    have hs':=hs.length_le
    dsimp only at hs hs' hD
    rw [aO he,cond_true,sR hs (by rw [bb]) he,ae,eF,hg,bD,show (32:Int)=((32:Nat):Int) from rfl,lW (by omega) (by omega),ae]
    dsimp only
    cases h1:ki 32 (jL l).2.2 with
    | inl e=>rfl
    | inr n=>
      have s1:=(Suf.many _ _ _ h1).length_le
      have hm:=(j8 h1).1
      rw [qc,eF,bD]
      exact rT ((jL l).1,((bs l).size:Int) - (jL l).2.2.length,(jL l).2.1) hD ((n.1:Int),⟨bs n.2⟩) (N:=n.1) rfl hm n.1 0 fuel n.2 [] (by omega) (by have:=aJ;omega) rfl (by omega)
  · rw [o7 he,ae,m9,gD,ia he,kf]
theorem wk {s:ByteArray} (hs:s.size≤9007199254740992):mX s=some (getP (bl s)):=by
  have h3:(⟨#[76,74,1]⟩:ByteArray)=bs lV:=rfl
  have h3s:(bs lV).size=3:=rfl
  unfold mX kZ fj bZ getP
  rw [h3,h3s]
  by_cases hl:3≤s.size
  · have hx:s.extract 0 ((3:Nat):Int).toNat=bs ((bl s).take 3):=by
      apply c8
      rw [fN,ft,Int.toNat_natCast,List.drop_zero]
    rw [py (by omega),ud (by omega)]
    simp only [Bool.not_true,Bool.false_or]
    rw [au rfl,ae,ae,hx,Bool.true_and]
    cases hc:sEq (bs ((bl s).take 3)) (bs lV) with
    | false=>rfl
    | true=>
      have he:s.extract (3:Int).toNat s.size=bs ((bl s).drop 3):=by
        apply c8
        rw [fN,ft,←iK,List.take_length]
        rfl
      rw [Bool.not_true,cond_false,cond_true,au (ud (by omega)),he,qV (by rw [List.length_drop,iK];omega),ae,BT]
      cases qU ((bl s).drop 3) with
      | inl e=>rfl
      | inr r=>
        rw [bD,bD]
        unfold fin clP
        cases iEq (r.2.length:Int) 0 with
        | false=>rfl
        | true=>
          rw [cond_true,cond_true,eF]
          dsimp only
          rw [ir,ae]
          by_cases hk:chkP r.1=0
          · rw [bG hk,aO hk];rfl
          · rw [cm hk,aK hk];rfl
  · have hc:sEq (bs ((bl s).take 3)) (bs lV)=false:=yd fun h=>by
      have:=congrArg ByteArray.size h
      rw [bb,h3s,List.length_take,iK] at this
      omega
    rw [mM (by omega),hc]
    rfl
end LJ
end
section
namespace LJ
open Go Go.RowKit
set_option linter.unusedVariables false
set_option linter.unusedSimpArgs false
end LJ
end
section
namespace LJ
open Go Go.RowKit
set_option linter.unusedVariables false
set_option linter.unusedSimpArgs false
theorem jk {n:Nat} (h:n<18446744073709551616) (t:List UInt8):numP (numL n++t)= .inr (n,t):=by
  unfold numP
  rw [eB h,gl rfl]
theorem qd {m n:Nat} (h:n≤m) (hm:m≤1000) (t:List UInt8):ki m (numL n++t)= .inr (n,t):=by
  unfold ki
  rw [jk (by omega),bD]
  dsimp only
  rw [aW (by omega),cond_false]
theorem na {α:Type} {g:List UInt8→Int ⊕ (α×List UInt8)} {put:α→List UInt8} :∀ (L acc:List α) (t:List UInt8),(∀ x∈L,∀ t,g (put x++t)= .inr (x,t))→repP g L.length (L.flatMap put++t) acc= .inr (acc++L,t)
  | [],acc,t,h=>by simp [repP]
  | x::L,acc,t,h=>by
    rw [List.length_cons,repP,List.flatMap_cons,List.append_assoc,h x (List.mem_cons_self ..),bD]
    rw [na L _ t fun y hy=>h y (List.mem_cons_of_mem _ hy)]
    simp
theorem Dv {F:aw} (g:qT F) (t:List UInt8):fnP (putF F++t)= .inr (F,t):=by
  have ⟨h1,h2,h3,h4⟩:=g
  obtain ⟨A,B,C⟩:=F
  dsimp only at*
  unfold fnP putF
  simp only [List.append_assoc]
  rw [jk (by omega),bD,jk (by omega),bD,qd h3.2 (by omega),bD]
  dsimp only
  rw [na C [] t fun x hx t=>by unfold gI;rw [BO (h4 x hx),gl rfl]]
  rw [bD]
  unfold cap
  dsimp only
  rw [List.nil_append,show ((min A.toNat 2147483648:Nat):Int)=A by omega,show ((min B.toNat 2147483648:Nat):Int)=B by omega]
def uM (p:aa):List UInt8:=pM p.Decls++(numL p.Waits.length++(p.Waits.flatMap nO++(numL p.Funcs.length++p.Funcs.flatMap putF)))
theorem AJ (p:aa):putP p=lV++uM p:=rfl
theorem AK {p:aa} (g:kG p) (t:List UInt8):qU (uM p++t)= .inr (p,t):=by
  have ⟨hd,hw,hf,hfn⟩:=g
  obtain ⟨D,W,F⟩:=p
  dsimp only at*
  unfold qU yo uM
  simp only [List.append_assoc]
  have e1:∀ t,gD (pM D++t)= .inr (D,t):=fun t=>by unfold gD;rw [Aa hd,gl rfl]
  rw [e1,bD,qd hw.1 (by omega),bD]
  dsimp only
  rw [na W [] _ fun x hx t=>by unfold gW;rw [Ay hd (hw.2 x hx),gl rfl]]
  rw [bD]
  dsimp only
  rw [qd hf.2 (by omega),bD]
  dsimp only
  rw [na F [] t fun x hx t=>Dv (hfn x hx) t]
  rfl
theorem AL (l:List UInt8):getP (lV++l)=outP (sb (qU l) clP):=by
  unfold getP
  rw [show (lV++l).take 3=lV from rfl,show (lV++l).drop 3=l from rfl,yc rfl,cond_true]
theorem BU {p:aa} (h:chkP p=0):getP (putP p)=(p,0):=by
  have:=AK (kG.of h) []
  rw [List.append_nil] at this
  rw [AJ,AL,this,bD]
  unfold clP
  dsimp only
  rw [aO (show (([]:List UInt8).length:Int)=0 from rfl),aO h]
  rfl
theorem o8 {α:Type} {g:List UInt8→Int ⊕ (α×List UInt8)} {put:α→List UInt8} {P:α→Prop} (hg:∀ l x t,g l= .inr (x,t)→P x→l=put x++t):∀ (n:Nat) (l:List UInt8) (acc r:List α) (t:List UInt8),repP g n l acc= .inr (r,t)→(∀ x∈r,P x)→∃ L,r=acc++L∧L.length=n∧l=L.flatMap put++t
  | 0,l,acc,r,t,h,hP=>by
    cases h
    exact ⟨[],by simp,rfl,rfl⟩
  | n+1,l,acc,r,t,h,hP=>by
    obtain ⟨⟨x,l'⟩,h1,h2⟩:=fr h
    obtain ⟨L,e1,e2,e3⟩:=o8 hg n _ _ _ _ h2 hP
    have hx:P x:=hP x (by rw [e1];simp)
    refine ⟨x::L,by rw [e1];simp,by rw [List.length_cons,e2],?_⟩
    rw [hg _ _ _ h1 hx,List.flatMap_cons,List.append_assoc]
    exact congrArg _ e3
theorem gM {l:List UInt8} {r:Nat×List UInt8} (h:numP l= .inr r):l=numL r.1++r.2:=by
  obtain ⟨h1,rfl⟩:=fK h
  exact (eC h1).1
theorem Dw (l:List UInt8) (F:aw) (t:List UInt8) (h:fnP l= .inr (F,t)) (g:qT F):l=putF F++t:=by
  obtain ⟨a,h1,h⟩:=fr h
  obtain ⟨b,h2,h⟩:=fr h
  obtain ⟨n,h3,h⟩:=fr h
  obtain ⟨⟨c,t'⟩,h4,h⟩:=fr h
  cases h
  have ⟨g1,g2,g3,g4⟩:=g
  dsimp only at*
  obtain ⟨L,e1,e2,e3⟩:=o8 (g:=gI) (put:=putI) (P:=fun _=>True) (fun l x t hh _=>by
    obtain ⟨k1,k2⟩:=fK hh
    cases k2
    exact (xv k1).2) _ _ _ _ _ h4 (fun _ _=>trivial)
  rw [List.nil_append] at e1
  subst e1
  unfold cap at g1 g2
  unfold putF cap
  dsimp only
  rw [gM h1,gM h2,gM (j8 h3).2,e3,←e2,show ((min a.1 2147483648:Nat):Int).toNat=a.1 by omega,show ((min b.1 2147483648:Nat):Int).toNat=b.1 by omega]
  simp only [List.append_assoc]
theorem AM {l:List UInt8} {p:aa} {t:List UInt8} (h:qU l= .inr (p,t)) (g:kG p):l=uM p++t:=by
  obtain ⟨⟨d,l1⟩,h1,h⟩:=fr h
  obtain ⟨n,h2,h⟩:=fr h
  obtain ⟨⟨w,l3⟩,h3,h⟩:=fr h
  obtain ⟨m,h4,h⟩:=fr h
  obtain ⟨⟨f,l5⟩,h5,h⟩:=fr h
  cases h
  have ⟨g1,g2,g3,g4⟩:=g
  dsimp only at*
  have hD:=CN h1
  obtain ⟨k1,k2⟩:=fK h1
  cases k2
  have e1:=(pR k1).2
  obtain ⟨W,w1,w2,w3⟩:=o8 (g:=gW _) (put:=nO) (P:=fun _=>True) (fun l x t hh _=>by
    obtain ⟨k1,k2⟩:=fK hh
    cases k2
    exact (uK hD k1).2) _ _ _ _ _ h3 (fun _ _=>trivial)
  obtain ⟨F,f1,f2,f3⟩:=o8 (g:=fnP) (put:=putF) (P:=qT) (fun l x t hh hx=>Dw l x t hh hx) _ _ _ _ _ h5 g4
  rw [List.nil_append] at w1 f1
  subst w1 f1
  unfold uM
  dsimp only
  rw [w2,f2]
  have e2:=gM (j8 h2).2
  have e4:=gM (j8 h4).2
  simp only [List.append_assoc]
  rw [←f3,←e4,←w3,←e2]
  exact e1
def NZ {α:Type} (x:Int ⊕ α):Prop:=∀ e,x= .inl e→e≠0
theorem NZ.two {α:Type} (r:α×Int×List UInt8):NZ (two r):=fun e h=>(sQ h).2
theorem NZ.inr {α:Type} (y:α):NZ (.inr y:Int ⊕ α):=fun e h=>by cases h
theorem NZ.sb {α β:Type} {x:Int ⊕ α} {k:α→Int ⊕ β} (h:NZ x) (hk:∀ y,NZ (k y)):NZ (sb x k):=by
  cases x with
  | inl e=>exact fun e' h'=>by cases h';exact h _ rfl
  | inr y=>exact hk y
theorem NZ.many (m:Nat) (l:List UInt8):NZ (ki m l):=NZ.sb (NZ.two _) fun y=>by
  cases iLt (m:Int) (y.1:Int) with
  | true=>exact fun e h=>by cases h;decide
  | false=>exact NZ.inr _
theorem NZ.rep {α:Type} {g:List UInt8→Int ⊕ (α×List UInt8)} (hg:∀ l,NZ (g l)):∀ (n:Nat) (l:List UInt8) (acc:List α),NZ (repP g n l acc)
  | 0,l,acc=>NZ.inr _
  | n+1,l,acc=>NZ.sb (hg l) fun r=>NZ.rep hg n _ _
theorem NZ.fn (l:List UInt8):NZ (fnP l):=NZ.sb (NZ.two _) fun _=>NZ.sb (NZ.two _) fun _=>NZ.sb (NZ.many _ _) fun _=>NZ.sb (NZ.rep (fun _=>NZ.two _) _ _ _) fun _=>NZ.inr _
theorem BV (l:List UInt8):NZ (qU l):=NZ.sb (NZ.two _) fun _=>NZ.sb (NZ.many _ _) fun _=>NZ.sb (NZ.rep (fun _=>NZ.two _) _ _ _) fun _=>NZ.sb (NZ.many _ _) fun _=>NZ.sb (NZ.rep NZ.fn _ _ _) fun _=>NZ.inr _
theorem BW {l:List UInt8} (h:(getP l).2=0):chkP (getP l).1=0∧l=putP (getP l).1:=by
  unfold getP at h ⊢
  cases hc:sEq (bs (l.take 3)) (bs lV) with
  | false=>rw [hc] at h;exact absurd h (by decide:(2:Int)≠0)
  | true=>
    rw [hc,cond_true] at h
    rw [cond_true]
    have hh:l.take 3=lV:=by
      have:=congrArg bl (zP.1 hc)
      rwa [ft,ft] at this
    cases hp:qU (l.drop 3) with
    | inl e=>
      rw [hp] at h
      exact absurd h (BV _ _ hp)
    | inr r=>
      rw [hp,bD] at h
      rw [bD]
      unfold clP at h ⊢
      cases h0:iEq (r.2.length:Int) 0 with
      | false=>rw [h0] at h;exact absurd h (by decide:(2:Int)≠0)
      | true=>
        rw [h0,cond_true] at h
        rw [cond_true]
        by_cases hk:chkP r.1=0
        · rw [aO hk,cond_true]
          refine ⟨hk,?_⟩
          have h3:=AM (p:=r.1) (t:=r.2) hp (kG.of hk)
          rw [cn] at h0
          rw [List.length_eq_zero_iff.1 (show r.2.length=0 by omega),List.append_nil] at h3
          show l=putP r.1
          rw [AJ,←h3,←hh,List.take_append_drop]
        · rw [aK hk] at h
          exact absurd h hk
theorem xB (W:List (List af)) (i:Nat) (hi:i<W.length) (K:Unit→Option Bool) (hl:(W.getD i default).length≤1000):∀ (n j f:Nat),j+n=(W.getD i default).length→n<f→dU W W (i:Int) K f (j:Int)=K ()
  | n,j,0,h,hf=>by omega
  | 0,j,f+1,h,hf=>by
    rw [dU,au (aI ⟨by omega,by omega⟩),Int.toNat_natCast,aW (by omega),cond_false]
  | n+1,j,f+1,h,hf=>by
    have h1:nIn (i:Int) (W.length:Int)=true:=aI ⟨by omega,by omega⟩
    have h2:nIn (j:Int) ((W.getD i default).length:Int)=true:=aI ⟨by omega,by omega⟩
    rw [dU,Int.toNat_natCast,au h1,aV (by omega),cond_true,au h1,au h2,au h1,au h2,aO rfl,aO rfl,aO rfl]
    simp only [Bool.and_self,Bool.not_true,cond_false]
    rw [w64 (by omega),show (j:Int)+1=((j+1:Nat):Int) by omega]
    exact xB W i hi K hl n (j+1) f (by omega) (by omega)
theorem AN (W:List (List af)) (hW:W.length≤1000) (hl:∀ l∈W,l.length≤1000):∀ (n i f:Nat),i+n=W.length→n<f→dM W W f (i:Int)=some true
  | n,i,0,hi,hf=>by omega
  | 0,i,f+1,hi,hf=>by rw [dM,aW (by omega)];rfl
  | n+1,i,f+1,hi,hf=>by
    have h1:nIn (i:Int) (W.length:Int)=true:=aI ⟨by omega,by omega⟩
    have hm:=j7 W i (by omega)
    rw [dM,aV (by omega),cond_true,dN,au h1,au h1,bG rfl,cond_false]
    have:=xB W i (by omega) (fun _=>dM W W f (IntKind.i64.wrap ((i:Int)+1))) (hl _ hm) (W.getD i default).length 0 fuel (by omega) (by have:=aJ;have:=hl _ hm;omega)
    refine Eq.trans this ?_
    rw [w64 (by omega),show (i:Int)+1=((i+1:Nat):Int) by omega]
    exact AN W hW hl n (i+1) f (by omega) (by omega)
theorem AO {W:List (List af)} (hW:W.length≤1000) (hl:∀ l∈W,l.length≤1000):fl W W=some true:=by
  unfold fl
  rw [bG rfl,cond_false]
  exact AN W hW hl W.length 0 fuel (by omega) (by have:=aJ;omega)
theorem AP {W:List (List af)} (g:sN W):fl W W=some true:=
  AO (by have:=g.len;omega) fun l hl=>by have:=(g.ways l hl).1;omega
theorem CO (p:aa) (k:Nat) (K:Unit→Option Bool) (hl:(p.Funcs.getD k default).Code.length≤200):∀ (n i f:Nat),i+n=(p.Funcs.getD k default).Code.length→n<f→dV p p (k:Int) K f (i:Int)=K ()
  | n,i,0,hi,hf=>by omega
  | 0,i,f+1,hi,hf=>by rw [dV,Int.toNat_natCast,aW (by omega),cond_false]
  | n+1,i,f+1,hi,hf=>by
    have h2:nIn (i:Int) ((p.Funcs.getD k default).Code.length:Int)=true:=aI ⟨by omega,by omega⟩
    rw [dV,Int.toNat_natCast,aV (by omega),cond_true,au h2,au h2,aO rfl,aO rfl,aO rfl]
    simp only [Bool.and_self,Bool.not_true,cond_false]
    rw [w64 (by omega),show (i:Int)+1=((i+1:Nat):Int) by omega]
    exact CO p k K hl n (i+1) f (by omega) (by omega)
theorem CP (p:aa) (hF:p.Funcs.length≤16) (hc:∀ F∈p.Funcs,F.Code.length≤200):∀ (n i f:Nat),i+n=p.Funcs.length→n<f→dk p p f (i:Int)=some true
  | n,i,0,hi,hf=>by omega
  | 0,i,f+1,hi,hf=>by rw [dk,aW (by omega)];rfl
  | n+1,i,f+1,hi,hf=>by
    have h1:nIn (i:Int) (p.Funcs.length:Int)=true:=aI ⟨by omega,by omega⟩
    have hm:=hc _ (j7 p.Funcs i (by omega))
    rw [dk,aV (by omega),cond_true,dN,au h1,au h1,bG rfl,bG rfl,bG rfl]
    simp only [Bool.or_self,cond_false]
    have:=CO p i (fun _=>dk p p f (IntKind.i64.wrap ((i:Int)+1))) hm (p.Funcs.getD i default).Code.length 0 fuel (by omega) (by have:=aJ;omega)
    refine Eq.trans this ?_
    rw [w64 (by omega),show (i:Int)+1=((i+1:Nat):Int) by omega]
    exact CP p hF hc n (i+1) f (by omega) (by omega)
theorem Eg (p:aa) (hF:p.Funcs.length≤16) (hc:∀ F∈p.Funcs,F.Code.length≤200) (hW:p.Waits.length≤32) (hw:∀ w∈p.Waits,fl w w=some true):∀ (n i f:Nat),i+n=p.Waits.length→n<f→ey p p f (i:Int)=some true
  | n,i,0,hi,hf=>by omega
  | 0,i,f+1,hi,hf=>by
    rw [ey,aW (by omega),cond_false]
    exact CP p hF hc p.Funcs.length 0 fuel (by omega) (by have:=aJ;omega)
  | n+1,i,f+1,hi,hf=>by
    have h1:nIn (i:Int) (p.Waits.length:Int)=true:=aI ⟨by omega,by omega⟩
    rw [ey,aV (by omega),cond_true,au h1,au h1,Int.toNat_natCast,hw _ (j7 p.Waits i (by omega)),ae,Bool.not_true,cond_false,w64 (by omega),show (i:Int)+1=((i+1:Nat):Int) by omega]
    exact Eg p hF hc hW hw n (i+1) f (by omega) (by omega)
theorem Eh (p:aa) (hF:p.Funcs.length≤16) (hc:∀ F∈p.Funcs,F.Code.length≤200) (hW:p.Waits.length≤32) (hw:∀ w∈p.Waits,fl w w=some true) (hD:p.Decls.length≤32):∀ (n i f:Nat),i+n=p.Decls.length→n<f→ez p p f (i:Int)=some true
  | n,i,0,hi,hf=>by omega
  | 0,i,f+1,hi,hf=>by
    rw [ez,aW (by omega),cond_false]
    exact Eg p hF hc hW hw p.Waits.length 0 fuel (by omega) (by have:=aJ;omega)
  | n+1,i,f+1,hi,hf=>by
    have h1:nIn (i:Int) (p.Decls.length:Int)=true:=aI ⟨by omega,by omega⟩
    rw [ez,aV (by omega),cond_true,au h1,au h1,aO rfl,aO rfl,aO rfl]
    simp only [Bool.and_self,Bool.not_true,cond_false]
    rw [w64 (by omega),show (i:Int)+1=((i+1:Nat):Int) by omega]
    exact Eh p hF hc hW hw hD n (i+1) f (by omega) (by omega)
theorem EW {p:aa} (hF:p.Funcs.length≤16) (hc:∀ F∈p.Funcs,F.Code.length≤200) (hW:p.Waits.length≤32) (hw:∀ w∈p.Waits,fl w w=some true) (hD:p.Decls.length≤32):iE p p=some true:=by
  unfold iE
  rw [bG rfl,bG rfl,bG rfl]
  simp only [Bool.or_self,cond_false]
  exact Eh p hF hc hW hw hD p.Decls.length 0 fuel (by omega) (by have:=aJ;omega)
theorem yp {p:aa} (g:kG p):iE p p=some true:=
  EW g.funcs.2 (fun F hF=>(g.fns F hF).code.2) g.waits.1 (fun w hw=>AP (g.wait w hw)) (m7 g.decls).1
end LJ
end
