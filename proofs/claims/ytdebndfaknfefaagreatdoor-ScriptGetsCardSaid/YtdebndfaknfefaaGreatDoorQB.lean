/- Several texts of plain Lean, one behind the other. No condition. -/
import Derived.Test.YtdebndfaknfefaaGreatDoorQA
section
namespace LJ
end LJ
end
section
namespace LJ
open Go Go.RowKit
set_option linter.unusedVariables false
set_option linter.unusedSimpArgs false
def Au (k:Int):Int:=cond (iEq k 1) 1 (cond (iEq k 2||iEq k 3) 2 (cond (iEq k 4) 3 6))
def badN (L:List ab) (x:af):Int:=
  cond (iLt x.Kind 1||iLt 5 x.Kind) 6 (cond (iLt x.Obj 0||iLe (L.length:Int) x.Obj) 1 (cond (iEq (L.getD x.Obj.toNat default).Kind (Au x.Kind))
    (cond (iEq x.Kind 4) (cond (iLt x.N 1||iLt (L.getD x.Obj.toNat default).B x.N) 1 0) (cond (iEq x.Kind 5) (cond (iLt x.N 1||iLt (L.getD x.Obj.toNat default).A x.N) 1 0) (cond (iLt x.N 0||iLt 0 x.N) 1 0))) 1))
theorem Ci (a b:Int):iNe a b= !iEq a b:=by unfold iNe iEq;simp
theorem BB {k:Int} (h:1≤k∧k≤5):([0,1,2,2,3,6]:List Int).getD k.toNat default=Au k:=by
  have h5:k=1∨k=2∨k=3∨k=4∨k=5:=by omega
  rcases h5 with rfl | rfl | rfl | rfl | rfl <;> decide
theorem uH (L:List ab) (x:af):jk L x=some (badN L x):=by
  unfold jk badN
  cases h1:(iLt x.Kind 1||iLt 5 x.Kind) with
  | true=>rfl
  | false=>
    simp only [Bool.or_eq_false_iff,bM] at h1
    rw [cond_false,cond_false]
    cases h2:(iLt x.Obj 0||iLe (L.length:Int) x.Obj) with
    | true=>rfl
    | false=>
      simp only [Bool.or_eq_false_iff,bM,i6] at h2
      have hn:nIn x.Obj (L.length:Int)=true:=aN h2
      have hk:nIn x.Kind (([0,1,2,2,3,6]:List Int).length:Int)=true:=aN ⟨by omega,by simp only [List.length_cons,List.length_nil];omega⟩
      rw [hn,hk,Bool.or_true,aB rfl,aB rfl,Bool.false_or,cond_false,BB (by omega),Ci,kK]
      simp only [aB,bb]
      by_cases k4:x.Kind=4
      · rw [aQ k4,aJ (show x.Kind≠5 by omega)]
        simp only [cond_true,cond_false]
      · rw [aJ k4]
        simp only [cond_true,cond_false]
theorem wc (L:List ab) (x:af):nf L x=some (badN L x):=by
  unfold nf badN bo
  simp only [lz,aj]
  by_cases h:x.Kind<1∨5<x.Kind
  · rw [show (iLt x.Kind 1||iLt 5 x.Kind)=true by simp only [Bool.or_eq_true,cP];exact h,cond_true]
    rw [aJ (show x.Kind≠1 by omega),aJ (show x.Kind≠2 by omega),aJ (show x.Kind≠3 by omega),aJ (show x.Kind≠4 by omega),aJ (show x.Kind≠5 by omega)]
    rfl
  · rw [show (iLt x.Kind 1||iLt 5 x.Kind)=false by simp only [Bool.or_eq_false_iff,bM];omega,cond_false]
    have h5:x.Kind=1∨x.Kind=2∨x.Kind=3∨x.Kind=4∨x.Kind=5:=by omega
    unfold fitD fitK Au
    cases h2:(iLt x.Obj 0||iLe (L.length:Int) x.Obj) with
    | true=>
      rcases h5 with e | e | e | e | e <;> rw [e] <;> rfl
    | false=>
      simp only [Bool.or_eq_false_iff,bM,i6] at h2
      have hn:nIn x.Obj (L.length:Int)=true:=aN h2
      have lt:iLt x.N 1=true→iLt x.N 0=true∨iLt x.N 0=false:=fun _=>by cases iLt x.N 0 <;> simp
      have l01:(iLt x.N 1||iLt x.N 0)=iLt x.N 1:=by
        rw [Bool.eq_iff_iff];simp only [Bool.or_eq_true,cP];omega
      rcases h5 with e | e | e | e | e <;> rw [e] <;> simp only [show iEq 1 1=true from rfl,show iEq 1 2=false from rfl,show iEq 1 3=false from rfl,show iEq 1 4=false from rfl,show iEq 1 5=false from rfl,show iEq 2 1=false from rfl,show iEq 2 2=true from rfl,show iEq 2 3=false from rfl,show iEq 2 4=false from rfl,show iEq 2 5=false from rfl,show iEq 3 1=false from rfl,show iEq 3 2=false from rfl,show iEq 3 3=true from rfl,show iEq 3 4=false from rfl,show iEq 3 5=false from rfl,show iEq 4 1=false from rfl,show iEq 4 2=false from rfl,show iEq 4 3=false from rfl,show iEq 4 4=true from rfl,show iEq 4 5=false from rfl,show iEq 5 1=false from rfl,show iEq 5 2=false from rfl,show iEq 5 3=false from rfl,show iEq 5 4=false from rfl,show iEq 5 5=true from rfl,show iEq 109 117=false from rfl,show iEq 109 115=false from rfl,show iEq 109 112=false from rfl,show iEq 109 99=false from rfl,show iEq 109 109=true from rfl,show iEq 117 117=true from rfl,show iEq 115 117=false from rfl,show iEq 115 115=true from rfl,show iEq 112 117=false from rfl,show iEq 112 115=false from rfl,show iEq 112 112=true from rfl,hn,Bool.or_true,aB,cond_true,cond_false,Bool.false_or,Bool.or_false,Bool.true_or,Bool.false_and,Bool.true_and,Bool.not_not,Bool.and_true,Bool.and_false,Ci,bb,l01]
      all_goals
        generalize hK:(L.getD x.Obj.toNat default).Kind=K
        first
          | (cases iEq K 1 <;> rfl)
          | (cases iEq K 3 <;> rfl)
          | (cases iEq K 6 <;> rfl)
          | (by_cases hK1:K=1
             · subst hK1;rfl
             · rw [aJ hK1];cases iEq K 2 <;> rfl)
def i4 (L:List ab):List af→Int
  | []=>0
  | x::t=>cond (iNe (badN L x) 0) (badN L x) (i4 L t)
def uI (l:List af) (j k:Nat):Bool:=(iEq (l.getD j default).Obj (l.getD k default).Obj||iEq (l.getD j default).Kind 4)||iEq (l.getD k default).Kind 4
def hit (l:List af) (k:Nat):Nat→Nat→Bool
  | 0,_=>false
  | n+1,i=>uI l i k||hit l k n (i+1)
def hits (l:List af):Nat→Nat→Bool
  | 0,_=>false
  | n+1,k=>hit l k k 0||hits l n (k+1)
def badW (L:List ab) (l:List af):Int:=
  cond (iEq (l.length:Int) 0) 2 (cond (iLt 4 (l.length:Int)) 4 (cond (iNe (i4 L l) 0) (i4 L l) (cond (hits l l.length 0) 2 0)))
def oQ (L:List ab):List (List af)→Int
  | []=>0
  | l::t=>cond (iNe (badW L l) 0) (badW L l) (oQ L t)
def chkW (L:List ab) (W:List (List af)):Int:=cond (iEq (W.length:Int) 0) 2 (cond (iLt 4 (W.length:Int)) 4 (oQ L W))
theorem dR {α β γ:Type} (K:α→β) (f:(α→β)→γ):gR K f=f K:=rfl
theorem Av {α:Type} (a b:Bool) (x y:α):cond (a||b) x y=cond a x (cond b x y):=by cases a <;> rfl
theorem DT {W:List (List af)} {s:Int} {j:Nat} {K:Unit→Option Int} (hj:j<(W.getD s.toNat default).length) (h4:(W.getD s.toNat default).length≤4):∀ (n i f:Nat),i+n=j→n<f→cj W s (j:Int) K f (i:Int)=cond (hit (W.getD s.toNat default) j n i) (some 2) (K ())
  | n,i,0,hi,hf=>by omega
  | 0,i,f+1,hi,hf=>by
    rw [cj,aU (by omega),cond_false];rfl
  | n+1,i,f+1,hi,hf=>by
    have e1:nIn (i:Int) ((W.getD s.toNat default).length:Int)=true:=aN ⟨by omega,by omega⟩
    have e2:nIn (j:Int) ((W.getD s.toNat default).length:Int)=true:=aN ⟨by omega,by omega⟩
    rw [cj,aR (by omega),cond_true,e1,e2,Bool.or_true,Bool.or_true,w64 (by omega),show (i:Int)+1=((i+1:Nat):Int) by omega,aB rfl,aB rfl,aB rfl,aB rfl,DT hj h4 n (i+1) f (by omega) (by omega),Int.toNat_natCast,Int.toNat_natCast,hit]
    exact (Av (uI _ i j) _ _ _).symm
theorem DU {W:List (List af)} {s:Int} {K:Unit→Option Int} (h4:(W.getD s.toNat default).length≤4):∀ (n i f:Nat),i+n=(W.getD s.toNat default).length→n<f→bR W s K f (i:Int)=cond (hits (W.getD s.toNat default) n i) (some 2) (K ())
  | n,i,0,hi,hf=>by omega
  | 0,i,f+1,hi,hf=>by
    rw [bR,aU (by omega),cond_false];rfl
  | n+1,i,f+1,hi,hf=>by
    rw [bR,aR (by omega),cond_true,dR,w64 (by omega),show (i:Int)+1=((i+1:Nat):Int) by omega]
    have ih:=DU (K:=K) h4 n (i+1) f (by omega) (by omega)
    have:=DT (W:=W) (s:=s) (j:=i) (K:=fun _=>bR W s K f ((i+1:Nat):Int)) (by omega) h4 i 0 fuel (by omega) (by have:=aL;omega)
    rw [hits,Av,←ih]
    exact this
theorem DW {L:List ab} {W:List (List af)} {s:Int} {K:Unit→Option Int} (h4:(W.getD s.toNat default).length≤4):∀ (n i f:Nat),i+n=(W.getD s.toNat default).length→n<f→ck L W s K f (i:Int)=cond (iNe (i4 L ((W.getD s.toNat default).drop i)) 0) (some (i4 L ((W.getD s.toNat default).drop i))) (cond (hits (W.getD s.toNat default) (W.getD s.toNat default).length 0) (some 2) (K ()))
  | n,i,0,hi,hf=>by omega
  | 0,i,f+1,hi,hf=>by
    rw [ck,aU (by omega),cond_false,List.drop_eq_nil_of_le (by omega),i4,bd rfl,cond_false]
    exact DU h4 (W.getD s.toNat default).length 0 fuel (by omega) (by have:=aL;omega)
  | n+1,i,f+1,hi,hf=>by
    rw [ck,aR (by omega),cond_true,aB (aN ⟨by omega,by omega⟩),w64 (by omega),show (i:Int)+1=((i+1:Nat):Int) by omega,uH,aj,DW h4 n (i+1) f (by omega) (by omega),eL _ i (by omega),i4,Int.toNat_natCast]
    by_cases hb:badN L ((W.getD s.toNat default).getD i default)=0
    · rw [bd hb,cond_false,cond_false]
    · rw [bn hb,cond_true,cond_true,bn hb,cond_true]
theorem w_l4 {L:List ab} {W:List (List af)} (hW:W.length≤4):∀ (n i f:Nat),i+n=W.length→n<f→cb L W f (i:Int)=some (oQ L (W.drop i))
  | n,i,0,hi,hf=>by omega
  | 0,i,f+1,hi,hf=>by
    rw [cb,aU (by omega),cond_false,List.drop_eq_nil_of_le (by omega)]
    rfl
  | n+1,i,f+1,hi,hf=>by
    rw [cb,aR (by omega),cond_true,dR,w64 (by omega),show (i:Int)+1=((i+1:Nat):Int) by omega,aB (aN ⟨by omega,by omega⟩),eL W i (by omega),oQ,badW]
    have ih:=w_l4 (L:=L) hW n (i+1) f (by omega) (by omega)
    rw [Int.toNat_natCast]
    by_cases h0:((W.getD i default).length:Int)=0
    · rw [aQ h0,cond_true,cond_true,bn (by decide),cond_true]
    · rw [aJ h0,cond_false,cond_false]
      by_cases h4:4<((W.getD i default).length:Int)
      · rw [aR h4,cond_true,cond_true,bn (by decide),cond_true]
      · rw [aU (by omega),cond_false,cond_false]
        have:=DW (L:=L) (W:=W) (s:=(i:Int)) (K:=fun _=>cb L W f ((i+1:Nat):Int)) (by rw [Int.toNat_natCast];omega) ((W.getD (i:Int).toNat default).length) 0 fuel (by omega) (by have:=aL;rw [Int.toNat_natCast];omega)
        rw [Int.toNat_natCast,List.drop_zero] at this
        refine Eq.trans this ?_
        rw [ih]
        by_cases hb:i4 L (W.getD i default)=0
        · rw [bd hb,cond_false,cond_false]
          cases hits (W.getD i default) (W.getD i default).length 0 with
          | true=>rfl
          | false=>rfl
        · rw [bn hb,cond_true,cond_true,bn hb,cond_true]
theorem mb (L:List ab) (W:List (List af)):fg L W=some (chkW L W):=by
  unfold fg chkW
  by_cases h0:(W.length:Int)=0
  · rw [aQ h0];rfl
  · rw [aJ h0,cond_false,cond_false]
    by_cases h4:4<(W.length:Int)
    · rw [aR h4];rfl
    · rw [aU (by omega),cond_false,cond_false]
      exact w_l4 (by omega) W.length 0 fuel (by omega) (by have:=aL;omega)
theorem we {L:List ab} {x:af} (h:badN L x=0):(1≤x.Kind∧x.Kind≤5)∧(0≤x.Obj∧x.Obj<L.length)∧(L.getD x.Obj.toNat default).Kind=Au x.Kind∧0≤x.N∧(x.Kind=4→x.N≤(L.getD x.Obj.toNat default).B)∧(x.Kind=5→x.N≤(L.getD x.Obj.toNat default).A)∧(x.Kind≤3→x.N=0):=by
  unfold badN at h
  cases h1:(iLt x.Kind 1||iLt 5 x.Kind) with
  | true=>rw [h1,cond_true] at h;cases h
  | false=>
    rw [h1,cond_false] at h
    simp only [Bool.or_eq_false_iff,bM] at h1
    cases h2:(iLt x.Obj 0||iLe (L.length:Int) x.Obj) with
    | true=>rw [h2,cond_true] at h;cases h
    | false=>
      rw [h2,cond_false] at h
      simp only [Bool.or_eq_false_iff,bM,i6] at h2
      cases h3:iEq (L.getD x.Obj.toNat default).Kind (Au x.Kind) with
      | false=>rw [h3,cond_false] at h;cases h
      | true=>
        rw [h3,cond_true] at h
        rw [cy] at h3
        refine ⟨by omega,by omega,h3,?_⟩
        by_cases k4:x.Kind=4
        · rw [aQ k4,cond_true] at h
          cases h4:(iLt x.N 1||iLt (L.getD x.Obj.toNat default).B x.N) with
          | true=>rw [h4] at h;cases h
          | false=>simp only [Bool.or_eq_false_iff,bM] at h4;omega
        · rw [aJ k4,cond_false] at h
          by_cases k5:x.Kind=5
          · rw [aQ k5,cond_true] at h
            cases h4:(iLt x.N 1||iLt (L.getD x.Obj.toNat default).A x.N) with
            | true=>rw [h4] at h;cases h
            | false=>simp only [Bool.or_eq_false_iff,bM] at h4;omega
          · rw [aJ k5,cond_false] at h
            cases h4:(iLt x.N 0||iLt 0 x.N) with
            | true=>rw [h4] at h;cases h
            | false=>simp only [Bool.or_eq_false_iff,bM] at h4;omega
theorem qE {L:List ab} :∀ {l:List af},i4 L l=0→∀ x∈l,badN L x=0
  | [],h=>fun x hx=>by cases hx
  | y::t,h=>by
    unfold i4 at h
    by_cases hy:badN L y=0
    · rw [bd hy,cond_false] at h
      intro x hx
      rcases List.mem_cons.1 hx with rfl | hx
      · exact hy
      · exact qE h x hx
    · rw [bn hy,cond_true] at h;exact absurd h hy
def sX (s:Nat):List af→Nat
  | []=>s
  | x::t=>sX (s|||2 ^x.Obj.toNat) t
theorem Cj:∀ (i k x:Nat),i<k→x.testBit i=false→pc k (x+2 ^i)=pc k x+1
  | 0,k+1,x,hi,h=>by
    rw [Nat.testBit_zero] at h
    simp only [decide_eq_false_iff_not] at h
    rw [pc,pc,Nat.pow_zero,show (x+1) /2=x /2 by omega]
    omega
  | i+1,k+1,x,hi,h=>by
    rw [Nat.testBit_succ] at h
    have e1:(x+2 ^(i+1)) %2=x %2:=by rw [Nat.pow_succ];omega
    have e2:(x+2 ^(i+1)) /2=x /2+2 ^i:=by rw [Nat.pow_succ];omega
    rw [pc,pc,e1,e2,Cj i k (x /2) (by omega) h]
    omega
theorem EE {s i:Nat} (hs:s<2 ^64) (hi:i<64):s|||2 ^i<2 ^64:=Nat.or_lt_two_pow hs (Nat.pow_lt_pow_right (by decide) hi)
theorem xw:∀ (l:List af) (s:Nat),(∀ x∈l,x.Obj.toNat<64)→pc 64 (sX s l)≤pc 64 s+l.length∧(pc 64 (sX s l)=pc 64 s+l.length↔(∀ x∈l,s.testBit x.Obj.toNat=false)∧l.Pairwise fun x y=>x.Obj.toNat≠y.Obj.toNat)
  | [],s,h=>by simp [sX]
  | x::t,s,h=>by
    obtain ⟨h1,h2⟩:=xw t (s|||2 ^x.Obj.toNat) fun y hy=>h y (List.mem_cons_of_mem _ hy)
    have hx:=h x (List.mem_cons_self ..)
    rw [sX,List.length_cons]
    have ho:=Ch x.Obj.toNat s
    cases hb:s.testBit x.Obj.toNat with
    | true=>
      rw [hb,if_pos rfl] at ho
      rw [ho] at h1 ⊢
      refine ⟨by omega,⟨fun h=>by omega,fun h=>?_⟩⟩
      have:=h.1 x (List.mem_cons_self ..)
      rw [hb] at this;cases this
    | false=>
      rw [hb,if_neg Bool.false_ne_true] at ho
      have hp:=Cj x.Obj.toNat 64 s hx hb
      rw [←ho] at hp
      rw [hp] at h1 h2
      refine ⟨by omega,?_⟩
      rw [show pc 64 s+(t.length+1)=pc 64 s+1+t.length by omega,h2,List.pairwise_cons]
      constructor
      · rintro ⟨a,b⟩
        refine ⟨fun y hy=>?_,fun y hy he=>?_,b⟩
        · rcases List.mem_cons.1 hy with rfl | hy
          · exact hb
          · have:=a y hy
            rw [Nat.testBit_or,Bool.or_eq_false_iff] at this
            exact this.1
        · have:=a y hy
          rw [←he,Nat.testBit_or,Nat.testBit_two_pow] at this
          simp at this
      · rintro ⟨a,b,c⟩
        refine ⟨fun y hy=>?_,c⟩
        rw [Nat.testBit_or,a y (List.mem_cons_of_mem _ hy),Nat.testBit_two_pow,Bool.false_or]
        exact decide_eq_false (b y hy)
theorem Aw (l:List af) (k:Nat):∀ n i,hit l k n i=true↔∃ j,i≤j∧j<i+n∧uI l j k=true
  | 0,i=>by simp [hit];intro j h1 h2;omega
  | n+1,i=>by
    rw [hit,Bool.or_eq_true,Aw l k n (i+1)]
    constructor
    · rintro (h | ⟨j,h1,h2,h3⟩)
      · exact ⟨i,by omega,by omega,h⟩
      · exact ⟨j,by omega,by omega,h3⟩
    · rintro ⟨j,h1,h2,h3⟩
      rcases Nat.eq_or_lt_of_le h1 with rfl | h1
      · exact .inl h3
      · exact .inr ⟨j,h1,by omega,h3⟩
theorem xx (l:List af):∀ n i,hits l n i=true↔∃ j k,i≤k∧k<i+n∧j<k∧uI l j k=true
  | 0,i=>by simp [hits];intro j k h1 h2;omega
  | n+1,i=>by
    rw [hits,Bool.or_eq_true,xx l n (i+1),Aw]
    constructor
    · rintro (⟨j,h1,h2,h3⟩ | ⟨j,k,h1,h2,h3,h4⟩)
      · exact ⟨j,i,by omega,by omega,by omega,h3⟩
      · exact ⟨j,k,by omega,by omega,h3,h4⟩
    · rintro ⟨j,k,h1,h2,h3,h4⟩
      rcases Nat.eq_or_lt_of_le h1 with rfl | h1
      · exact .inl ⟨j,by omega,by omega,h4⟩
      · exact .inr ⟨j,k,h1,by omega,h3,h4⟩
theorem C8 {l:List af} (h64:∀ x∈l,0≤x.Obj∧x.Obj<64):(iLt ((pc 64 (sX 0 l):Nat):Int) (l.length:Int)||(l.any (fun x=>iEq x.Kind 4)&&iLt 1 (l.length:Int)))=hits l l.length 0:=by
  obtain ⟨h1,h2⟩:=xw l 0 fun x hx=>by have:=h64 x hx;omega
  rw [Aq,Nat.zero_add] at h1 h2
  have hmem:∀ j,j<l.length→l.getD j default∈l:=fun j hj=>by
    rw [List.getD_eq_getElem?_getD,List.getElem?_eq_getElem hj];exact List.getElem_mem hj
  have hpw:(l.Pairwise fun x y=>x.Obj.toNat≠y.Obj.toNat)↔∀ j k,j<k→k<l.length→(l.getD j default).Obj≠(l.getD k default).Obj:=by
    rw [List.pairwise_iff_getElem]
    constructor
    · intro h j k hjk hk he
      have:=h j k (by omega) hk hjk
      simp only [List.getD_eq_getElem?_getD,List.getElem?_eq_getElem hk,List.getElem?_eq_getElem (show j<l.length by omega),Option.getD_some] at he
      exact this (by rw [he])
    · intro h j k hj hk hjk he
      have e:=h j k hjk hk
      have a:=h64 _ (hmem j hj)
      have b:=h64 _ (hmem k hk)
      simp only [List.getD_eq_getElem?_getD,List.getElem?_eq_getElem hk,List.getElem?_eq_getElem hj,Option.getD_some] at e a b
      exact e (by omega)
  rw [Bool.eq_iff_iff,Bool.or_eq_true,Bool.and_eq_true,cP,cP,xx,List.any_eq_true]
  constructor
  · rintro (h | ⟨⟨x,hx,hk⟩,hl⟩)
    · have hn:¬(l.Pairwise fun x y=>x.Obj.toNat≠y.Obj.toNat):=fun hp=>by
        have:=h2.2 ⟨fun x _=>by simp,hp⟩
        omega
      rw [hpw] at hn
      simp only [Classical.not_forall,not_imp,Decidable.not_not] at hn
      obtain ⟨j,k,a,b,c⟩:=hn
      exact ⟨j,k,by omega,by omega,a,by unfold uI;rw [aQ c];rfl⟩
    · obtain ⟨m,hm,rfl⟩:=List.mem_iff_getElem.1 hx
      have e:l.getD m default=l[m]:=by simp [List.getD_eq_getElem?_getD,hm]
      by_cases h0:m=0
      · subst h0
        exact ⟨0,1,by omega,by omega,by omega,by unfold uI;rw [e,hk];simp⟩
      · exact ⟨0,m,by omega,by omega,by omega,by unfold uI;rw [e,hk];simp⟩
  · rintro ⟨j,k, -,hk,hjk,hp⟩
    rw [Nat.zero_add] at hk
    unfold uI at hp
    rw [Bool.or_eq_true,Bool.or_eq_true,cy] at hp
    rcases hp with (hp | hp) | hp
    · left
      rcases Nat.eq_or_lt_of_le h1 with he | hlt
      · exact absurd hp (hpw.1 (h2.1 he).2 j k hjk hk)
      · omega
    · exact .inr ⟨⟨_,hmem j (by omega),hp⟩,by omega⟩
    · exact .inr ⟨⟨_,hmem k hk,hp⟩,by omega⟩
theorem C9 {s:Nat} {o:Int} (hs:s<18446744073709551616) (ho:0≤o∧o<64):gz (s:Int) o=some ((s|||2 ^o.toNat:Nat):Int):=by
  unfold gz pK
  rw [show (iLt o 0||iLt 63 o)=false by simp only [Bool.or_eq_false_iff,bM];omega,cond_false,aB (zT ho.1),aj]
  have hp:2 ^o.toNat<2 ^64:=Nat.pow_lt_pow_right (by decide) (by omega)
  have hm:min o.toNat IntKind.u64.bits=o.toNat:=Nat.min_eq_left (by show o.toNat≤64;omega)
  rw [hm,Int.one_mul,show ((2:Int) ^o.toNat)=((2 ^o.toNat:Nat):Int) by simp,wu hp,bits_or_u64_nat _ _ hs hp]
theorem Ck {L:List ab} (hL:L.length≤32) {l:List af} (h4:l.length≤4):∀ (n i f s:Nat) (d:Bool),i+n=l.length→n<f→s<18446744073709551616→
    ga L l f ((s:Int),d,(i:Int))=cond (iNe (i4 L (l.drop i)) 0) (some (i4 L (l.drop i))) (cond (iLt ((pc 64 (sX s (l.drop i)):Nat):Int) (l.length:Int)||((d||(l.drop i).any (fun x=>iEq x.Kind 4))&&iLt 1 (l.length:Int))) (some 2) (some 0))
  | n,i,0,s,d,hi,hf,hs=>by omega
  | 0,i,f+1,s,d,hi,hf,hs=>by
    rw [ga]
    dsimp only
    rw [aU (by omega),cond_false,List.drop_eq_nil_of_le (by omega),i4,bd rfl,cond_false,im,C6 hs,aj,aj,DS,sX,List.any_nil,Bool.or_false]
  | n+1,i,f+1,s,d,hi,hf,hs=>by
    rw [ga]
    dsimp only
    rw [aR (by omega),cond_true,aB (aN ⟨by omega,by omega⟩),wc,aj,eL l i (by omega),i4,Int.toNat_natCast]
    by_cases hb:badN L (l.getD i default)=0
    · obtain ⟨_,ho,_⟩:=we hb
      rw [bd hb,cond_false,cond_false,C9 hs (by omega),aj,w64 (by omega),show (i:Int)+1=((i+1:Nat):Int) by omega,Ck hL h4 n (i+1) f _ _ (by omega) (by omega) (EE hs (by omega)),sX,List.any_cons,Bool.or_assoc]
    · rw [bn hb,cond_true,cond_true,bn hb,cond_true]
theorem wg {L:List ab} (hL:L.length≤32) (l:List af):ng L l=some (badW L l):=by
  unfold ng badW
  by_cases h0:(l.length:Int)=0
  · rw [aQ h0];rfl
  · rw [aJ h0,cond_false,cond_false]
    by_cases h4:4<(l.length:Int)
    · rw [aR h4];rfl
    · rw [aU (by omega),cond_false,cond_false]
      have:=Ck hL (l:=l) (by omega) l.length 0 fuel 0 false (by omega) (by have:=aL;omega) (by decide)
      refine Eq.trans this ?_
      rw [List.drop_zero]
      by_cases hb:i4 L l=0
      · rw [bd hb,cond_false,cond_false,Bool.false_or,C8 (fun x hx=>by obtain ⟨_,h,_⟩:=we (qE hb x hx);omega),bb]
      · rw [bn hb,cond_true,cond_true]
theorem xy {L:List ab} (hL:L.length≤32) {W:List (List af)} (hW:W.length≤4):∀ (n i f:Nat),i+n=W.length→n<f→ez L W f (i:Int)=some (oQ L (W.drop i))
  | n,i,0,hi,hf=>by omega
  | 0,i,f+1,hi,hf=>by
    rw [ez,aU (by omega),cond_false,List.drop_eq_nil_of_le (by omega)]
    rfl
  | n+1,i,f+1,hi,hf=>by
    rw [ez,aR (by omega),cond_true,aB (aN ⟨by omega,by omega⟩),wg hL,aj,w64 (by omega),show (i:Int)+1=((i+1:Nat):Int) by omega,xy hL hW n (i+1) f (by omega) (by omega),eL W i (by omega),oQ,bb,Int.toNat_natCast]
theorem nv {L:List ab} (hL:L.length≤32) (W:List (List af)):hZ L W=some (chkW L W):=by
  unfold hZ chkW
  by_cases h0:(W.length:Int)=0
  · rw [aQ h0];rfl
  · rw [aJ h0,cond_false,cond_false]
    by_cases h4:4<(W.length:Int)
    · rw [aR h4];rfl
    · rw [aU (by omega),cond_false,cond_false]
      exact xy hL (by omega) W.length 0 fuel (by omega) (by have:=aL;omega)
end LJ
end
section
namespace LJ
open Go Go.RowKit
set_option linter.unusedVariables false
set_option linter.unusedSimpArgs false
structure RngN (x:af):Prop where
  k:1≤x.Kind∧x.Kind≤5
  o:0≤x.Obj∧x.Obj<2147483648
  n:0≤x.N∧x.N<2147483648
  nz:x.Kind≤3→x.N=0
structure yx (W:List (List af)):Prop where
  len:1≤W.length∧W.length≤4
  ways:∀ l∈W,(1≤l.length∧l.length≤4)∧∀ x∈l,RngN x
theorem Ax {L:List ab} {d:ab} (h:badD L d=0):(d.Kind=3→d.B≤1000)∧(d.Kind=6→d.A≤1000):=by
  unfold badD at h
  constructor
  · intro k
    rw [aQ k,cond_true] at h
    cases hb:(iLe 1 d.B&&iLe d.B 1000&&iLe 0 d.A&&iLe d.A d.B) with
    | false=>rw [hb] at h;cases h
    | true=>simp only [Bool.and_eq_true,dS] at hb;omega
  · intro k
    rw [aJ (show d.Kind≠3 by omega),cond_false,aQ k,cond_true] at h
    cases hb:(iLe 1 d.A&&iLe d.A 1000) with
    | false=>rw [hb] at h;cases h
    | true=>simp only [Bool.and_eq_true,dS] at hb;omega
theorem pM {L:List ab} (h:(chkL L).2=0):L.length≤32∧∀ d∈L,badD L d=0:=by
  unfold chkL at h
  by_cases hl:32<(L.length:Int)
  · rw [aR hl,cond_true] at h;cases h
  · rw [aU (by omega),cond_false] at h
    exact ⟨by omega,vQ h⟩
theorem RngN.of {L:List ab} (hL:(chkL L).2=0) {x:af} (h:badN L x=0):RngN x:=by
  obtain ⟨h1,h2⟩:=pM hL
  obtain ⟨a,b,c,d,e,f,g⟩:=we h
  have hm:L.getD x.Obj.toNat default∈L:=by
    rw [List.getD_eq_getElem?_getD,List.getElem?_eq_getElem (by omega)]
    exact List.getElem_mem _
  obtain ⟨i,j⟩:=Ax (h2 _ hm)
  rw [c] at i j
  refine ⟨a,by omega,⟨d,?_⟩,g⟩
  by_cases k4:x.Kind=4
  · have:=i (by rw [k4];rfl)
    have:=e k4
    omega
  · by_cases k5:x.Kind=5
    · have:=j (by rw [k5];rfl)
      have:=f k5
      omega
    · have:=g (by omega)
      omega
theorem Da {L:List ab} {l:List af} (h:badW L l=0):(1≤l.length∧l.length≤4)∧∀ x∈l,badN L x=0:=by
  unfold badW at h
  by_cases h0:(l.length:Int)=0
  · rw [aQ h0,cond_true] at h;cases h
  · rw [aJ h0,cond_false] at h
    by_cases h4:4<(l.length:Int)
    · rw [aR h4,cond_true] at h;cases h
    · rw [aU (by omega),cond_false] at h
      by_cases hb:i4 L l=0
      · exact ⟨by omega,qE hb⟩
      · rw [bn hb,cond_true] at h;exact absurd h hb
theorem uJ {L:List ab} :∀ {W:List (List af)},oQ L W=0→∀ l∈W,badW L l=0
  | [],h=>fun x hx=>by cases hx
  | y::t,h=>by
    unfold oQ at h
    by_cases hy:badW L y=0
    · rw [bd hy,cond_false] at h
      intro x hx
      rcases List.mem_cons.1 hx with rfl | hx
      · exact hy
      · exact uJ h x hx
    · rw [bn hy,cond_true] at h;exact absurd h hy
theorem yx.of {L:List ab} (hL:(chkL L).2=0) {W:List (List af)} (h:chkW L W=0):yx W:=by
  unfold chkW at h
  by_cases h0:(W.length:Int)=0
  · rw [aQ h0,cond_true] at h;cases h
  · rw [aJ h0,cond_false] at h
    by_cases h4:4<(W.length:Int)
    · rw [aR h4,cond_true] at h;cases h
    · rw [aU (by omega),cond_false] at h
      refine ⟨by omega,fun l hl=>?_⟩
      obtain ⟨a,b⟩:=Da (uJ h l hl)
      exact ⟨a,fun x hx=>RngN.of hL (b x hx)⟩
def putN (x:af):List UInt8:=UInt8.ofNat x.Kind.toNat::(numL x.Obj.toNat++if 3<x.Kind then numL x.N.toNat else [])
def putW (l:List af):List UInt8:=numL l.length++l.flatMap putN
def Ay (W:List (List af)):List UInt8:=numL W.length++W.flatMap putW
end LJ
end
section
namespace LJ
open Go Go.RowKit
set_option linter.unusedVariables false
set_option linter.unusedSimpArgs false
theorem qF {n:Nat} (h:n<18446744073709551616):IntKind.i64.wrap (iMin (n:Int) (2147483648:Int))=((min n 2147483648:Nat):Int):=by
  unfold iMin
  split
  · rw [w64 (by omega)];omega
  · rw [w64 (by omega)];omega
def mu (b:UInt8) (t:List UInt8):af×Int×List UInt8:=
  cond (iLt (b.toNat:Int) 1||iLt 5 (b.toNat:Int)) (⟨b.toNat,0,0⟩,6,t)
    (cond (iLt 3 (b.toNat:Int)) (⟨b.toNat,capN (rdN t 0),capN (rdN (rdN t 0).2.2 (rdN t 0).1)⟩,(rdN (rdN t 0).2.2 (rdN t 0).1).1,(rdN (rdN t 0).2.2 (rdN t 0).1).2.2)
    (⟨b.toNat,capN (rdN t 0),0⟩,(rdN t 0).1,(rdN t 0).2.2))
def fq:List UInt8→af×Int×List UInt8
  | []=>(⟨0,0,0⟩,3,[])
  | b::t=>mu b t
theorem jt (b:UInt8) (t:List UInt8):fq (b::t)=mu b t:=rfl
theorem uK {s:ByteArray} (hs:s.size≤9007199254740992) {l:List UInt8} (h:l<:+bl s):∃ er,kb (mkI s l 0)=some ((fq l).1,(fq l).2.1,mkI s (fq l).2.2 er)∧((fq l).2.1=0→er=0∧(fq l).2.2<:+bl s):=by
  have h0:RdOK s l 0:=⟨h,fun h=>absurd rfl h⟩
  unfold kb bo
  cases l with
  | nil=>
    rw [jr,aj]
    dsimp only
    rw [bL,aj,if_pos rfl,bn (by decide),cond_true]
    exact ⟨3,rfl,fun h=>absurd h (by decide:(3:Int)≠0)⟩
  | cons b t=>
    have ht:RdOK s t 0:=h0.byte
    have hb:=j4 b
    rw [jN s hs b t 0 h,aj]
    dsimp only
    rw [bL,aj,bd rfl,cond_false,jt]
    unfold mu
    cases hk:(iLt (b.toNat:Int) 1||iLt 5 (b.toNat:Int)) with
    | true=>exact ⟨_,rfl,fun h=>absurd h (by decide:(6:Int)≠0)⟩
    | false=>
      simp only [Bool.or_eq_false_iff,bM] at hk
      rw [cond_false,cond_false,eX hs ht,aj,aj]
      dsimp only
      rw [qF (jP t 0)]
      by_cases k3:3<(b.toNat:Int)
      · rw [show (iEq (b.toNat:Int) 4||iEq (b.toNat:Int) 5)=true by rw [Bool.or_eq_true,cy,cy];omega,cond_true,aR k3,cond_true,eX hs ht.num,aj]
        dsimp only
        rw [bL,aj,qF (jP _ _)]
        exact ⟨_,rfl,fun h=>⟨h,ht.num.num.suf⟩⟩
      · rw [show (iEq (b.toNat:Int) 4||iEq (b.toNat:Int) 5)=false by rw [aJ (by omega),aJ (by omega)];rfl,cond_false,aU (by omega),cond_false,bL,aj]
        exact ⟨_,rfl,fun h=>⟨h,ht.num.suf⟩⟩
def rdM (l:List UInt8):Nat×Int×List UInt8:=cond (iLt 4 ((rdN l 0).2.1:Int)) (0,4,[]) ((rdN l 0).2.1,(rdN l 0).1,(rdN l 0).2.2)
theorem oS {s:ByteArray} (hs:s.size≤9007199254740992) {l:List UInt8} (h:l<:+bl s):∃ S,jo (mkI s l 0) 4=some (((rdM l).1:Int),(rdM l).2.1,S)∧((rdM l).2.1=0→S=mkI s (rdM l).2.2 0∧(rdM l).2.2<:+bl s∧(rdM l).1≤4):=by
  have h0:RdOK s l 0:=⟨h,fun h=>absurd rfl h⟩
  unfold jo rdM
  rw [eX hs h0,aj]
  dsimp only
  by_cases h4:4<((rdN l 0).2.1:Int)
  · rw [aR h4,cond_true,cond_true]
    exact ⟨_,rfl,fun h=>absurd h (by decide:(4:Int)≠0)⟩
  · rw [aU (by omega),cond_false,cond_false,bL,aj,w64 (by omega)]
    refine ⟨_,rfl,fun he=>?_⟩
    dsimp only at he ⊢
    exact ⟨by rw [he],h0.num.suf,by omega⟩
def bm:Nat→List UInt8→List af→List af×Int×List UInt8
  | 0,l,acc=>(acc,0,l)
  | n+1,l,acc=>cond (iEq (fq l).2.1 0) (bm n (fq l).2.2 (acc++[(fq l).1])) ([],(fq l).2.1,[])
def ic (l:List UInt8):List af×Int×List UInt8:=cond (iEq (rdM l).2.1 0) (bm (rdM l).1 (rdM l).2.2 []) ([],(rdM l).2.1,[])
def cG:Nat→List UInt8→List (List af)→List (List af)×Int×List UInt8
  | 0,l,acc=>(acc,0,l)
  | n+1,l,acc=>cond (iEq (ic l).2.1 0) (cG n (ic l).2.2 (acc++[(ic l).1])) ([],(ic l).2.1,[])
def ke (L:List ab) (l:List UInt8):List (List af)×Int×List UInt8:=
  cond (iEq (rdM l).2.1 0)
    (cond (iEq (cG (rdM l).1 (rdM l).2.2 []).2.1 0)
      (cond (iEq (chkW L (cG (rdM l).1 (rdM l).2.2 []).1) 0) ((cG (rdM l).1 (rdM l).2.2 []).1,0,(cG (rdM l).1 (rdM l).2.2 []).2.2) ([],chkW L (cG (rdM l).1 (rdM l).2.2 []).1,[]))
      ([],(cG (rdM l).1 (rdM l).2.2 []).2.1,[]))
    ([],(rdM l).2.1,[])
theorem wh (s:ByteArray) (l:List UInt8) (e:Int):(⟨(mkI s l e).s,(mkI s l e).at_,(mkI s l e).err⟩:ao)=mkI s l e:=rfl
theorem sY (s:ByteArray) (l:List UInt8) (e:Int):(⟨(mkR s l e).S,(mkR s l e).At,(mkR s l e).Err⟩:au)=mkR s l e:=rfl
theorem Az {s:ByteArray} (hs:s.size≤9007199254740992) {s5:Int×(List (List af))×ByteArray×Int×Int} {K:((List (List af))×ByteArray×Int×Int)→Option ((List (List af))×Int×Int)} {x10:Int×Int×ao} {N:Nat} (hN:x10.1=(N:Int)) (hN4:N≤4) (h5:s5.2.1.length≤4):∀ (n i f:Nat) (acc:List af) (l:List UInt8),i+n=N→n<f→acc.length=i→l<:+bl s→
    fj s5 K x10 f ((i:Int),acc,(mkI s l 0).s,(mkI s l 0).at_,(mkI s l 0).err)=cond (iEq (bm n l acc).2.1 0) (K (s5.2.1++[(bm n l acc).1],(mkI s (bm n l acc).2.2 0).s,(mkI s (bm n l acc).2.2 0).at_,(mkI s (bm n l acc).2.2 0).err)) (some ([],0,(bm n l acc).2.1))∧((bm n l acc).2.1=0→(bm n l acc).2.2<:+bl s)
  | n,i,0,acc,l,hi,hf,ha,hl=>by omega
  | 0,i,f+1,acc,l,hi,hf,ha,hl=>by
    refine ⟨?_,fun _=>hl⟩
    rw [fj]
    dsimp only
    rw [hN,aU (by omega),cond_false,aB (fG (by simp only [List.length_cons,List.length_nil];omega)),show bm 0 l acc=(acc,0,l) from rfl,aQ rfl,cond_true]
  | n+1,i,f+1,acc,l,hi,hf,ha,hl=>by
    rw [fj]
    dsimp only
    obtain ⟨er,h1,h2⟩:=uK hs hl
    rw [hN,aR (by omega),cond_true,wh,h1,aj,bm]
    dsimp only
    by_cases he:(fq l).2.1=0
    · obtain ⟨rfl,h3⟩:=h2 he
      rw [bd he,cond_false,aQ he,cond_true,aB (fG (by simp only [List.length_cons,List.length_nil];omega)),w64 (by omega),show (i:Int)+1=((i+1:Nat):Int) by omega]
      exact Az hs hN hN4 h5 n (i+1) f _ _ (by omega) (by omega) (by simp;omega) h3
    · rw [bn he,cond_true,aJ he,cond_false,aJ he,cond_false]
      exact ⟨rfl,fun h=>absurd h he⟩
theorem Cm {L:List ab} (hL:L.length≤32) {s:ByteArray} (hs:s.size≤9007199254740992) {x2:Int×Int×ao} {N:Nat} (hN:x2.1=(N:Int)) (hN4:N≤4):∀ (n i f:Nat) (acc:List (List af)) (l:List UInt8),i+n=N→n<f→acc.length=i→l<:+bl s→
    fl L s x2 f ((i:Int),acc,(mkI s l 0).s,(mkI s l 0).at_,(mkI s l 0).err)=cond (iEq (cG n l acc).2.1 0) (cond (iEq (chkW L (cG n l acc).1) 0) (some ((cG n l acc).1,(s.size:Int) - (cG n l acc).2.2.length,0)) (some ([],0,chkW L (cG n l acc).1))) (some ([],0,(cG n l acc).2.1))
  | n,i,0,acc,l,hi,hf,ha,hl=>by omega
  | 0,i,f+1,acc,l,hi,hf,ha,hl=>by
    have:=iY hl
    rw [fl]
    dsimp only
    rw [hN,aU (by omega),cond_false,nv hL,aj,wh,show cG 0 l acc=(acc,0,l) from rfl,aQ rfl,cond_true]
    dsimp only
    by_cases hc:chkW L acc=0
    · rw [bd hc,cond_false,aQ hc,cond_true,sL s hs l 0 hl,aj,w64 (by omega)]
    · rw [bn hc,cond_true,aJ hc,cond_false]
  | n+1,i,f+1,acc,l,hi,hf,ha,hl=>by
    rw [fl]
    dsimp only
    obtain ⟨S,h1,h2⟩:=oS hs hl
    rw [hN,aR (by omega),cond_true,dR,wh,h1,aj,cG,ic]
    dsimp only
    by_cases he:(rdM l).2.1=0
    · obtain ⟨rfl,h3,h4⟩:=h2 he
      rw [bd he,cond_false,aQ he,cond_true]
      obtain ⟨g1,g2⟩:=Az hs (s5:=((i:Int),acc,(mkI s l 0).s,(mkI s l 0).at_,(mkI s l 0).err)) (K:=fun s9=>fl L s x2 f (IntKind.i64.wrap ((i:Int)+1),s9.1,s9.2.1,s9.2.2.1,s9.2.2.2)) (x10:=(((rdM l).1:Int),(rdM l).2.1,mkI s (rdM l).2.2 0)) (N:=(rdM l).1) rfl h4 (by dsimp only;omega) (rdM l).1 0 fuel [] (rdM l).2.2 (by omega) (by have:=aL;omega) rfl h3
      refine Eq.trans g1 ?_
      dsimp only
      by_cases hr:(bm (rdM l).1 (rdM l).2.2 []).2.1=0
      · rw [aQ hr,cond_true,cond_true,w64 (by omega),show (i:Int)+1=((i+1:Nat):Int) by omega]
        exact Cm hL hs hN hN4 n (i+1) f _ _ (by omega) (by omega) (by simp;omega) (g2 hr)
      · rw [aJ hr,cond_false,cond_false,aJ hr,cond_false]
    · rw [bn he,cond_true,aJ he,cond_false]
      dsimp only
      rw [aJ he,cond_false,aJ he,cond_false]
theorem wi {L:List ab} (hL:L.length≤32) {s:ByteArray} (hs:s.size≤9007199254740992):nm L s=some ((ke L (bl s)).1,cond (iEq (ke L (bl s)).2.1 0) ((s.size:Int) - (ke L (bl s)).2.2.length) 0,(ke L (bl s)).2.1):=by
  unfold nm
  obtain ⟨S,h1,h2⟩:=oS hs (List.suffix_refl (bl s))
  rw [qp,aj,h1,aj]
  dsimp only
  unfold ke
  by_cases he:(rdM (bl s)).2.1=0
  · obtain ⟨rfl,h3,h4⟩:=h2 he
    rw [bd he,cond_false,aQ he,cond_true]
    have:=Cm hL hs (x2:=(((rdM (bl s)).1:Int),(rdM (bl s)).2.1,mkI s (rdM (bl s)).2.2 0)) (N:=(rdM (bl s)).1) rfl h4 (rdM (bl s)).1 0 fuel [] (rdM (bl s)).2.2 (by omega) (by have:=aL;omega) rfl h3
    refine Eq.trans this ?_
    generalize cG (rdM (bl s)).1 (rdM (bl s)).2.2 []=r
    by_cases h1:r.2.1=0
    · rw [aQ h1,cond_true,cond_true]
      by_cases h2:chkW L r.1=0
      · rw [aQ h2,cond_true,cond_true];rfl
      · rw [aJ h2,cond_false,cond_false];dsimp only;rw [aJ h2,cond_false]
    · rw [aJ h1,cond_false,cond_false];dsimp only;rw [aJ h1,cond_false]
  · rw [bn he,cond_true,aJ he,cond_false];dsimp only;rw [aJ he,cond_false]
theorem uL {s3:Int×ByteArray×Int×Int×(List (List af))} {K:(ByteArray×Int×Int×(List (List af)))→Option ((List (List af))×au×Int)} {x8:Int×au} (h3:s3.2.2.2.2.length≤4)
    (hK:∀ (S:ByteArray) (A e:Int) (acc:List (List af)),e≠0→∃ R,K (S,A,e,acc)=some ([],R,e)) (f:Nat) (i:Int) (S:ByteArray) (A e:Int) (acc:List af) (he:e≠0):∃ R,bJ s3 K x8 (f+1) (i,S,A,e,acc)=some ([],R,e):=by
  rw [bJ]
  dsimp only
  rw [aJ he,Bool.and_false,cond_false,aB (fG (by simp only [List.length_cons,List.length_nil];omega))]
  exact hK _ _ _ _ he
theorem rl11 {s:ByteArray} (hs:s.size≤9007199254740992) {s3:Int×ByteArray×Int×Int×(List (List af))} {K:(ByteArray×Int×Int×(List (List af)))→Option ((List (List af))×au×Int)} {x8:Int×au} (h3:s3.2.2.2.2.length≤4)
    (hK:∀ (S:ByteArray) (A e:Int) (acc:List (List af)),e≠0→∃ R,K (S,A,e,acc)=some ([],R,e)) {N:Nat} (hN:x8.1=(N:Int)) (hN4:N≤4):∀ (n i f:Nat) (acc:List af) (l:List UInt8),i+n=N→n<f→acc.length=i→l<:+bl s→
    ((bm n l acc).2.1=0→bJ s3 K x8 f ((i:Int),(mkR s l 0).S,(mkR s l 0).At,(mkR s l 0).Err,acc)=K ((mkR s (bm n l acc).2.2 0).S,(mkR s (bm n l acc).2.2 0).At,(mkR s (bm n l acc).2.2 0).Err,s3.2.2.2.2++[(bm n l acc).1])∧(bm n l acc).2.2<:+bl s)∧
    ((bm n l acc).2.1≠0→∃ R,bJ s3 K x8 f ((i:Int),(mkR s l 0).S,(mkR s l 0).At,(mkR s l 0).Err,acc)=some ([],R,(bm n l acc).2.1))
  | n,i,0,acc,l,hi,hf,ha,hl=>by omega
  | 0,i,f+1,acc,l,hi,hf,ha,hl=>by
    refine ⟨fun _=>⟨?_,hl⟩,fun h=>absurd rfl h⟩
    rw [bJ]
    dsimp only
    rw [hN,w64 (by omega),aU (by omega),Bool.false_and,cond_false,aB (fG (by simp only [List.length_cons,List.length_nil];omega))]
    rfl
  | n+1,i,f+1,acc,l,hi,hf,ha,hl=>by
    have h0:RdOK s l 0:=⟨hl,fun h=>absurd rfl h⟩
    obtain ⟨f',rfl⟩:∃ f',f=f'+1:=⟨f - 1,by omega⟩
    have stop:=uL (x8:=x8) h3 hK f'
    have cap:∀ x:af,nCap ((acc.length+([x]:List af).length)*24)=true:=fun x=>fG (by simp only [List.length_cons,List.length_nil];omega)
    have ok:∀ (x:af) (l2:List UInt8),fq l=(x,0,l2)→l2<:+bl s→
      ((bm (n+1) l acc).2.1=0→need (nCap ((acc.length+([x]:List af).length)*24)) (bJ s3 K x8 (f'+1) (IntKind.i64.wrap ((i:Int)+1),(mkR s l2 0).S,(mkR s l2 0).At,(mkR s l2 0).Err,acc++[x]))=K ((mkR s (bm (n+1) l acc).2.2 0).S,(mkR s (bm (n+1) l acc).2.2 0).At,(mkR s (bm (n+1) l acc).2.2 0).Err,s3.2.2.2.2++[(bm (n+1) l acc).1])∧(bm (n+1) l acc).2.2<:+bl s)∧
      ((bm (n+1) l acc).2.1≠0→∃ R,need (nCap ((acc.length+([x]:List af).length)*24)) (bJ s3 K x8 (f'+1) (IntKind.i64.wrap ((i:Int)+1),(mkR s l2 0).S,(mkR s l2 0).At,(mkR s l2 0).Err,acc++[x]))=some ([],R,(bm (n+1) l acc).2.1)):=fun x l2 he h2=>by
      have e:bm (n+1) l acc=bm n l2 (acc++[x]):=by rw [bm,he];rfl
      rw [e,aB (cap x),w64 (by omega),show (i:Int)+1=((i+1:Nat):Int) by omega]
      exact rl11 hs h3 hK hN hN4 n (i+1) (f'+1) (acc++[x]) l2 (by omega) (by omega) (by simp;omega) h2
    have bad:∀ (x:af) (er:Int) (l2:List UInt8) (z:Option ((List (List af))×au×Int)),fq l=(x,er,l2)→er≠0→(∃ R,z=some ([],R,er))→
      ((bm (n+1) l acc).2.1=0→z=K ((mkR s (bm (n+1) l acc).2.2 0).S,(mkR s (bm (n+1) l acc).2.2 0).At,(mkR s (bm (n+1) l acc).2.2 0).Err,s3.2.2.2.2++[(bm (n+1) l acc).1])∧(bm (n+1) l acc).2.2<:+bl s)∧
      ((bm (n+1) l acc).2.1≠0→∃ R,z=some ([],R,(bm (n+1) l acc).2.1)):=fun x er l2 z he hne hz=>by
      have e:bm (n+1) l acc=([],er,[]):=by rw [bm,he];dsimp only;rw [aJ hne,cond_false]
      rw [e]
      exact ⟨fun h=>absurd h hne,fun _=>hz⟩
    rw [bJ]
    dsimp only
    rw [hN,w64 (a:=(N:Int)) (by omega),aR (by omega),dp,aQ rfl,Bool.and_self,cond_true,show (⟨(mkR s l 0).S,(mkR s l 0).At,0⟩:au)=mkR s l 0 from rfl]
    cases l with
    | nil=>
      rw [js,aj,if_pos rfl]
      dsimp only
      rw [dp,aJ (by decide),Bool.false_and,cond_false,gC s 3 (by decide),aj,aU (by decide),cond_false,aB (cap _)]
      exact bad _ 3 _ _ rfl (by decide) (stop _ _ _ _ _ (show (3:Int)≠0 by decide))
    | cons b t=>
      have ht:RdOK s t 0:=h0.byte
      have hb:=j4 b
      rw [jO s hs b t 0 hl,aj]
      dsimp only
      rw [dp,aQ rfl,Bool.true_and]
      cases hk:(iLt (b.toNat:Int) 1||iLt 5 (b.toNat:Int)) with
      | true=>
        rw [cond_true]
        have hd:fq (b::t)=(⟨b.toNat,0,0⟩,6,t):=by rw [jt];unfold mu;rw [hk,cond_true]
        exact bad _ 6 _ _ hd (by decide) ⟨_,rfl⟩
      | false=>
        rw [cond_false,cX hs ht,aj]
        dsimp only
        rw [qF (jP t 0)]
        by_cases k3:3<(b.toNat:Int)
        · have hd:fq (b::t)=(⟨b.toNat,capN (rdN t 0),capN (rdN (rdN t 0).2.2 (rdN t 0).1)⟩,(rdN (rdN t 0).2.2 (rdN t 0).1).1,(rdN (rdN t 0).2.2 (rdN t 0).1).2.2):=by
            rw [jt];unfold mu;rw [hk,cond_false,aR k3,cond_true]
          rw [aR k3,cond_true,cX hs ht.num,aj]
          dsimp only
          rw [qF (jP _ _)]
          have hnn:=ht.num.num
          by_cases he:(rdN (rdN t 0).2.2 (rdN t 0).1).1=0
          · rw [he] at hd hnn ⊢
            exact ok _ _ hd hnn.suf
          · rw [aB (cap _)]
            exact bad _ _ _ _ hd he (stop _ _ _ _ _ he)
        · have hd:fq (b::t)=(⟨b.toNat,capN (rdN t 0),0⟩,(rdN t 0).1,(rdN t 0).2.2):=by
            rw [jt];unfold mu;rw [hk,cond_false,aU (by omega),cond_false]
          rw [aU (by omega),cond_false]
          have hnn:=ht.num
          by_cases he:(rdN t 0).1=0
          · rw [he] at hd hnn ⊢
            exact ok _ _ hd hnn.suf
          · rw [aB (cap _)]
            exact bad _ _ _ _ hd he (stop _ _ _ _ _ he)
theorem xz {L:List ab} {x1:Int×au} (f:Nat) (i:Int) (S:ByteArray) (A e:Int) (acc:List (List af)) (he:e≠0):∃ R,bP L x1 (f+1) (i,S,A,e,acc)=some ([],R,e):=by
  rw [bP]
  dsimp only
  rw [aJ he,Bool.and_false,cond_false,bn he,cond_true]
  exact ⟨_,rfl⟩
def Said (L:List ab) (s:ByteArray) (r:List (List af)×Int×List UInt8) (z:Option ((List (List af))×au×Int)):Prop:=
  (r.2.1=0→chkW L r.1=0→z=some (r.1,mkR s r.2.2 0,0))∧(r.2.1=0→chkW L r.1≠0→∃ R,z=some ([],R,chkW L r.1))∧(r.2.1≠0→∃ R,z=some ([],R,r.2.1))
theorem rl4 {L:List ab} {s:ByteArray} (hs:s.size≤9007199254740992) {x1:Int×au} {N:Nat} (hN:x1.1=(N:Int)) (hN4:N≤4):∀ (n i f:Nat) (acc:List (List af)) (l:List UInt8),i+n=N→n<f→acc.length=i→l<:+bl s→
    Said L s (cG n l acc) (bP L x1 f ((i:Int),(mkR s l 0).S,(mkR s l 0).At,(mkR s l 0).Err,acc))
  | n,i,0,acc,l,hi,hf,ha,hl=>by omega
  | 0,i,f+1,acc,l,hi,hf,ha,hl=>by
    rw [bP]
    dsimp only
    rw [hN,w64 (by omega),aU (by omega),Bool.false_and,cond_false,dp,bd rfl,cond_false,mb,aj]
    refine ⟨fun _ h=>?_,fun _ h=>?_,fun h=>absurd rfl h⟩
    · have h':chkW L acc=0:=h
      rw [bd h',cond_false];rfl
    · have h':chkW L acc≠0:=h
      rw [bn h',cond_true]
      exact ⟨_,rfl⟩
  | n+1,i,f+1,acc,l,hi,hf,ha,hl=>by
    have h0:RdOK s l 0:=⟨hl,fun h=>absurd rfl h⟩
    obtain ⟨f',rfl⟩:∃ f',f=f'+1:=⟨f - 1,by omega⟩
    have bad:∀ (er:Int) (z:Option ((List (List af))×au×Int)),(ic l).2.1=er→er≠0→(∃ R,z=some ([],R,er))→Said L s (cG (n+1) l acc) z:=fun er z he hne hz=>by
      have e:cG (n+1) l acc=([],er,[]):=by rw [cG,he,aJ hne,cond_false]
      rw [e]
      exact ⟨fun h=>absurd h hne,fun h=>absurd h hne,fun _=>hz⟩
    rw [bP]
    dsimp only
    rw [hN,w64 (a:=(N:Int)) (by omega),aR (by omega),dp,aQ rfl,Bool.and_self,cond_true,dR,show (⟨(mkR s l 0).S,(mkR s l 0).At,0⟩:au)=mkR s l 0 from rfl,cX hs h0,aj]
    dsimp only
    have hK:∀ (S:ByteArray) (A e:Int) (acc:List (List af)),e≠0→∃ R,(fun s7:ByteArray×Int×Int×(List (List af))=>bP L x1 (f'+1) (IntKind.i64.wrap ((i:Int)+1),s7.1,s7.2.1,s7.2.2.1,s7.2.2.2)) (S,A,e,acc)=some ([],R,e):=fun S A e acc he=>xz f' _ S A e acc he
    by_cases h4:4<((rdN l 0).2.1:Int)
    · rw [aR h4,cond_true]
      have hM:rdM l=(0,4,[]):=by unfold rdM;rw [aR h4,cond_true]
      exact bad 4 _ (by rw [ic,hM];dsimp only;rw [aJ (by decide),cond_false]) (by decide) ⟨_,rfl⟩
    · rw [aU (by omega),cond_false]
      have hM:rdM l=((rdN l 0).2.1,(rdN l 0).1,(rdN l 0).2.2):=by unfold rdM;rw [aU (by omega),cond_false]
      have hs3:((i:Int),(mkR s l 0).S,(mkR s l 0).At,(0:Int),acc).2.2.2.2.length≤4:=by dsimp only;omega
      by_cases he:(rdN l 0).1=0
      · have hw:ic l=bm (rdN l 0).2.1 (rdN l 0).2.2 []:=by rw [ic,hM];dsimp only;rw [aQ he,cond_true]
        have hn:=h0.num
        obtain ⟨g1,g2⟩:=rl11 hs (K:=fun s7:ByteArray×Int×Int×(List (List af))=>bP L x1 (f'+1) (IntKind.i64.wrap ((i:Int)+1),s7.1,s7.2.1,s7.2.2.1,s7.2.2.2)) (x8:=(((rdN l 0).2.1:Int),mkR s (rdN l 0).2.2 0)) hs3 hK (N:=(rdN l 0).2.1) rfl (by omega) (rdN l 0).2.1 0 fuel [] (rdN l 0).2.2 (by omega) (by have:=aL;omega) rfl hn.suf
        rw [←hw] at g1 g2
        rw [he]
        by_cases hr:(ic l).2.1=0
        · obtain ⟨g3,g4⟩:=g1 hr
          have e:cG (n+1) l acc=cG n (ic l).2.2 (acc++[(ic l).1]):=by rw [cG,aQ hr,cond_true]
          have ih:=rl4 (L:=L) hs hN hN4 n (i+1) (f'+1) (acc++[(ic l).1]) (ic l).2.2 (by omega) (by omega) (by simp;omega) g4
          rw [e]
          have hz:bJ ((i:Int),(mkR s l 0).S,(mkR s l 0).At,(0:Int),acc) (fun s7:ByteArray×Int×Int×(List (List af))=>bP L x1 (f'+1) (IntKind.i64.wrap ((i:Int)+1),s7.1,s7.2.1,s7.2.2.1,s7.2.2.2)) (((rdN l 0).2.1:Int),mkR s (rdN l 0).2.2 0) fuel (0,(mkR s (rdN l 0).2.2 0).S,(mkR s (rdN l 0).2.2 0).At,(mkR s (rdN l 0).2.2 0).Err,[])=bP L x1 (f'+1) (((i+1:Nat):Int),(mkR s (ic l).2.2 0).S,(mkR s (ic l).2.2 0).At,(mkR s (ic l).2.2 0).Err,acc++[(ic l).1]):=by
            refine Eq.trans g3 ?_
            dsimp only
            rw [w64 (by omega),show (i:Int)+1=((i+1:Nat):Int) by omega]
          rw [hz]
          exact ih
        · exact bad _ _ rfl hr (g2 hr)
      · obtain ⟨f2,hf2⟩:=pJ
        have:=uL (K:=fun s7:ByteArray×Int×Int×(List (List af))=>bP L x1 (f'+1) (IntKind.i64.wrap ((i:Int)+1),s7.1,s7.2.1,s7.2.2.1,s7.2.2.2)) (x8:=(((rdN l 0).2.1:Int),mkR s (rdN l 0).2.2 (rdN l 0).1)) hs3 hK f2 0 (mkR s (rdN l 0).2.2 (rdN l 0).1).S (mkR s (rdN l 0).2.2 (rdN l 0).1).At (mkR s (rdN l 0).2.2 (rdN l 0).1).Err [] he
        rw [hf2]
        exact bad _ _ (by rw [ic,hM];dsimp only;rw [aJ he,cond_false]) he this
theorem yy {l:List UInt8} (h:(fq l).2.1=0) (hr:RngN (fq l).1):l=putN (fq l).1++(fq l).2.2:=by
  cases l with
  | nil=>exact absurd h (by decide:(3:Int)≠0)
  | cons b t=>
    have hu:UInt8.ofNat b.toNat=b:=fX b
    have hb:=j4 b
    rw [jt] at h hr ⊢
    unfold mu at h hr ⊢
    cases hk:(iLt (b.toNat:Int) 1||iLt 5 (b.toNat:Int)) with
    | true=>rw [hk,cond_true] at h;exact absurd h (by decide:(6:Int)≠0)
    | false=>
      rw [hk,cond_false] at h hr
      rw [cond_false]
      by_cases k3:3<(b.toNat:Int)
      · rw [aR k3,cond_true] at h hr ⊢
        dsimp only at h
        have e1:=vN h
        obtain ⟨i1,j1⟩:=eI (l:=t) e1
        rw [e1] at h
        obtain ⟨i2,j2⟩:=eI (l:=(rdN t 0).2.2) h
        rw [e1] at hr ⊢
        have ⟨_,ha,hbb,_⟩:=hr
        generalize (rdN (rdN t 0).2.2 0)=r2 at*
        generalize (rdN t 0)=r1 at*
        obtain ⟨x1,n1,t1⟩:=r1
        obtain ⟨x2,n2,t2⟩:=r2
        unfold putN capN at*
        dsimp only at*
        rw [if_pos k3,Int.toNat_natCast,hu,show ((min n1 2147483648:Nat):Int).toNat=n1 by omega,show ((min n2 2147483648:Nat):Int).toNat=n2 by omega,List.cons_append,List.append_assoc,←i2,←i1]
      · rw [aU (by omega),cond_false] at h hr ⊢
        dsimp only at h
        obtain ⟨i1,j1⟩:=eI (l:=t) h
        have ⟨_,ha,hbb,_⟩:=hr
        generalize (rdN t 0)=r1 at*
        obtain ⟨x1,n1,t1⟩:=r1
        unfold putN capN at*
        dsimp only at*
        rw [if_neg k3,Int.toNat_natCast,hu,show ((min n1 2147483648:Nat):Int).toNat=n1 by omega,List.append_nil,List.cons_append,←i1]
theorem qG:∀ (n:Nat) (l:List UInt8) (acc:List af),(bm n l acc).2.1=0→(∀ x∈(bm n l acc).1,RngN x)→∃ L,(bm n l acc).1=acc++L∧L.length=n∧l=L.flatMap putN++(bm n l acc).2.2
  | 0,l,acc,h,hr=>⟨[],by simp [bm]⟩
  | n+1,l,acc,h,hr=>by
    rw [bm] at h hr ⊢
    by_cases he:(fq l).2.1=0
    · rw [aQ he,cond_true] at h hr ⊢
      obtain ⟨L,h1,h2,h3⟩:=qG n _ _ h hr
      have hd:RngN (fq l).1:=hr _ (by rw [h1];simp)
      refine ⟨(fq l).1::L,by rw [h1];simp,by simp [h2],?_⟩
      rw [List.flatMap_cons,List.append_assoc,←h3]
      exact yy he hd
    · rw [aJ he,cond_false] at h
      exact absurd h he
theorem AA {l:List UInt8} (h:(rdM l).2.1=0):l=numL (rdM l).1++(rdM l).2.2:=by
  unfold rdM at h ⊢
  by_cases h4:4<((rdN l 0).2.1:Int)
  · rw [aR h4,cond_true] at h;exact absurd h (by decide:(4:Int)≠0)
  · rw [aU (by omega),cond_false] at h ⊢
    exact (eI h).1
theorem AB {l:List UInt8} (h:(ic l).2.1=0) (hr:∀ x∈(ic l).1,RngN x):l=putW (ic l).1++(ic l).2.2:=by
  unfold ic at h hr ⊢
  by_cases he:(rdM l).2.1=0
  · rw [aQ he,cond_true] at h hr ⊢
    obtain ⟨L,h1,h2,h3⟩:=qG _ _ _ h hr
    unfold putW
    rw [h1,List.nil_append,h2,List.append_assoc,←h3]
    exact AA he
  · rw [aJ he,cond_false] at h;exact absurd h he
theorem sa:∀ (n:Nat) (l:List UInt8) (acc:List (List af)),(cG n l acc).2.1=0→(∀ w∈(cG n l acc).1,∀ x∈w,RngN x)→∃ L,(cG n l acc).1=acc++L∧L.length=n∧l=L.flatMap putW++(cG n l acc).2.2
  | 0,l,acc,h,hr=>⟨[],by simp [cG]⟩
  | n+1,l,acc,h,hr=>by
    rw [cG] at h hr ⊢
    by_cases he:(ic l).2.1=0
    · rw [aQ he,cond_true] at h hr ⊢
      obtain ⟨L,h1,h2,h3⟩:=sa n _ _ h hr
      have hd:∀ x∈(ic l).1,RngN x:=hr _ (by rw [h1];simp)
      refine ⟨(ic l).1::L,by rw [h1];simp,by simp [h2],?_⟩
      rw [List.flatMap_cons,List.append_assoc,←h3]
      exact AB he hd
    · rw [aJ he,cond_false] at h
      exact absurd h he
theorem uM {L:List ab} (hL:(chkL L).2=0) {l:List UInt8} (h:(ke L l).2.1=0):chkW L (ke L l).1=0∧l=Ay (ke L l).1++(ke L l).2.2:=by
  unfold ke at h ⊢
  by_cases a1:(rdM l).2.1=0
  · rw [aQ a1,cond_true] at h ⊢
    by_cases a3:(cG (rdM l).1 (rdM l).2.2 []).2.1=0
    · rw [aQ a3,cond_true] at h ⊢
      by_cases a4:chkW L (cG (rdM l).1 (rdM l).2.2 []).1=0
      · rw [aQ a4,cond_true]
        refine ⟨a4,?_⟩
        have g:=yx.of hL a4
        obtain ⟨M,h1,h2,h3⟩:=sa _ _ _ a3 fun w hw=>(g.ways w hw).2
        dsimp only
        unfold Ay
        rw [h1,List.nil_append,h2,List.append_assoc,←h3]
        exact AA a1
      · rw [aJ a4,cond_false] at h;exact absurd h a4
    · rw [aJ a3,cond_false] at h;exact absurd h a3
  · rw [aJ a1,cond_false] at h;exact absurd h a1
end LJ
end
section
namespace LJ
open Go Go.RowKit
set_option linter.unusedVariables false
set_option linter.unusedSimpArgs false
def first {α:Type} (f:α→Int):List α→Int
  | []=>0
  | x::t=>cond (iNe (f x) 0) (f x) (first f t)
theorem pN {α:Type} {f:α→Int} :∀ {l:List α},first f l=0→∀ x∈l,f x=0
  | [],h=>fun x hx=>by cases hx
  | y::t,h=>by
    unfold first at h
    by_cases hy:f y=0
    · rw [bd hy,cond_false] at h
      intro x hx
      rcases List.mem_cons.1 hx with rfl | hx
      · exact hy
      · exact pN h x hx
    · rw [bn hy,cond_true] at h;exact absurd h hy
def rp (F:aq):Int:=cond ((iLt F.Args 0||iLt F.Locals F.Args)||iLt 8 F.Locals) 1 (cond (iEq (F.Code.length:Int) 0) 2 (cond (iLt 200 (F.Code.length:Int)) 4 (first chkI F.Code)))
def chkP (p:ah):Int:=
  cond (iNe (chkL p.Decls).2 0) (chkL p.Decls).2 (cond (iLt 32 (p.Waits.length:Int)) 4 (cond (iNe (first (chkW p.Decls) p.Waits) 0) (first (chkW p.Decls) p.Waits)
    (cond (iEq (p.Funcs.length:Int) 0) 2 (cond (iLt 16 (p.Funcs.length:Int)) 4 (first rp p.Funcs)))))
theorem Cn (F:aq) (hF:F.Code.length≤200):∀ (n i f:Nat),i+n=F.Code.length→n<f→cM F f (i:Int)=some (first chkI (F.Code.drop i))
  | n,i,0,hi,hf=>by omega
  | 0,i,f+1,hi,hf=>by rw [cM,aU (by omega),cond_false,List.drop_eq_nil_of_le (by omega)];rfl
  | n+1,i,f+1,hi,hf=>by
    rw [cM,aR (by omega),cond_true,aB (aN ⟨by omega,by omega⟩),Int.toNat_natCast,oP,aj,w64 (by omega),show (i:Int)+1=((i+1:Nat):Int) by omega,Cn F hF n (i+1) f (by omega) (by omega),eL _ i (by omega),first,bb]
theorem Co (F:aq) (hF:F.Code.length≤200):∀ (n i f:Nat),i+n=F.Code.length→n<f→bH F f (i:Int)=some (first chkI (F.Code.drop i))
  | n,i,0,hi,hf=>by omega
  | 0,i,f+1,hi,hf=>by rw [bH,aU (by omega),cond_false,List.drop_eq_nil_of_le (by omega)];rfl
  | n+1,i,f+1,hi,hf=>by
    rw [bH,aR (by omega),cond_true,aB (aN ⟨by omega,by omega⟩),Int.toNat_natCast,jZ,aj,w64 (by omega),show (i:Int)+1=((i+1:Nat):Int) by omega,Co F hF n (i+1) f (by omega) (by omega),eL _ i (by omega),first,bb]
theorem pd (F:aq):gA F=some (rp F):=by
  unfold gA rp
  by_cases h:200<(F.Code.length:Int)
  · rw [aR h,cond_true,cond_true,bb,bb]
  · have h':iLt 200 (F.Code.length:Int)=false:=aU (by omega)
    have hl:=Cn F (by omega) F.Code.length 0 fuel (by omega) (by have:=aL;omega)
    rw [List.drop_zero] at hl
    have hl':cM F fuel 0=some (first chkI F.Code):=hl
    rw [h',cond_false,cond_false,hl',bb,bb]
theorem oi (F:aq):dT F=some (rp F):=by
  unfold dT rp
  by_cases h:200<(F.Code.length:Int)
  · rw [aR h,cond_true,cond_true,bb,bb]
  · have h':iLt 200 (F.Code.length:Int)=false:=aU (by omega)
    have hl:=Co F (by omega) F.Code.length 0 fuel (by omega) (by have:=aL;omega)
    rw [List.drop_zero] at hl
    have hl':bH F fuel 0=some (first chkI F.Code):=hl
    rw [h',cond_false,cond_false,hl',bb,bb]
theorem AC (p:ah) (hF:p.Funcs.length≤16):∀ (n i f:Nat),i+n=p.Funcs.length→n<f→dV p f (i:Int)=some (first rp (p.Funcs.drop i))
  | n,i,0,hi,hf=>by omega
  | 0,i,f+1,hi,hf=>by rw [dV,aU (by omega),cond_false,List.drop_eq_nil_of_le (by omega)];rfl
  | n+1,i,f+1,hi,hf=>by
    rw [dV,aR (by omega),cond_true,aB (aN ⟨by omega,by omega⟩),Int.toNat_natCast,pd,aj,w64 (by omega),show (i:Int)+1=((i+1:Nat):Int) by omega,AC p hF n (i+1) f (by omega) (by omega),eL _ i (by omega),first,bb]
theorem AD (p:ah) (hF:p.Funcs.length≤16):∀ (n i f:Nat),i+n=p.Funcs.length→n<f→cn p f (i:Int)=some (first rp (p.Funcs.drop i))
  | n,i,0,hi,hf=>by omega
  | 0,i,f+1,hi,hf=>by rw [cn,aU (by omega),cond_false,List.drop_eq_nil_of_le (by omega)];rfl
  | n+1,i,f+1,hi,hf=>by
    rw [cn,aR (by omega),cond_true,aB (aN ⟨by omega,by omega⟩),Int.toNat_natCast,oi,aj,w64 (by omega),show (i:Int)+1=((i+1:Nat):Int) by omega,AD p hF n (i+1) f (by omega) (by omega),eL _ i (by omega),first,bb]
def BC (p:ah):Int:=cond (iEq (p.Funcs.length:Int) 0) 2 (cond (iLt 16 (p.Funcs.length:Int)) 4 (first rp p.Funcs))
theorem Cp (p:ah) (hD:p.Decls.length≤32) (hW:p.Waits.length≤32):∀ (n i f:Nat),i+n=p.Waits.length→n<f→eA p f (i:Int)=some (cond (iNe (first (chkW p.Decls) (p.Waits.drop i)) 0) (first (chkW p.Decls) (p.Waits.drop i)) (BC p))
  | n,i,0,hi,hf=>by omega
  | 0,i,f+1,hi,hf=>by
    rw [eA,aU (by omega),cond_false,List.drop_eq_nil_of_le (by omega),first,bd rfl,cond_false]
    unfold BC
    by_cases h:16<(p.Funcs.length:Int)
    · rw [aR h,cond_true,cond_true,bb]
    · have:=AC p (by omega) p.Funcs.length 0 fuel (by omega) (by have:=aL;omega)
      rw [List.drop_zero] at this
      rw [aU (by omega),cond_false,cond_false,show (0:Int)=((0:Nat):Int) from rfl,this,bb]
  | n+1,i,f+1,hi,hf=>by
    rw [eA,aR (by omega),cond_true,aB (aN ⟨by omega,by omega⟩),Int.toNat_natCast,nv hD,aj,w64 (by omega),show (i:Int)+1=((i+1:Nat):Int) by omega,Cp p hD hW n (i+1) f (by omega) (by omega),eL _ i (by omega),first]
    by_cases h:chkW p.Decls (p.Waits.getD i default)=0
    · rw [bd h,cond_false,cond_false]
    · rw [bn h,cond_true,cond_true,bn h,cond_true]
theorem Cq (p:ah) (hW:p.Waits.length≤32):∀ (n i f:Nat),i+n=p.Waits.length→n<f→cA p f (i:Int)=some (cond (iNe (first (chkW p.Decls) (p.Waits.drop i)) 0) (first (chkW p.Decls) (p.Waits.drop i)) (BC p))
  | n,i,0,hi,hf=>by omega
  | 0,i,f+1,hi,hf=>by
    rw [cA,aU (by omega),cond_false,List.drop_eq_nil_of_le (by omega),first,bd rfl,cond_false]
    unfold BC
    by_cases h:16<(p.Funcs.length:Int)
    · rw [aR h,cond_true,cond_true,bb]
    · have:=AD p (by omega) p.Funcs.length 0 fuel (by omega) (by have:=aL;omega)
      rw [List.drop_zero] at this
      rw [aU (by omega),cond_false,cond_false,show (0:Int)=((0:Nat):Int) from rfl,this,bb]
  | n+1,i,f+1,hi,hf=>by
    rw [cA,aR (by omega),cond_true,aB (aN ⟨by omega,by omega⟩),Int.toNat_natCast,mb,aj,w64 (by omega),show (i:Int)+1=((i+1:Nat):Int) by omega,Cq p hW n (i+1) f (by omega) (by omega),eL _ i (by omega),first]
    by_cases h:chkW p.Decls (p.Waits.getD i default)=0
    · rw [bd h,cond_false,cond_false]
    · rw [bn h,cond_true,cond_true,bn h,cond_true]
theorem nw (p:ah):ia p=some (chkP p):=by
  unfold ia chkP
  rw [nr,aj]
  by_cases hd:(chkL p.Decls).2=0
  · rw [bd hd,cond_false,cond_false]
    by_cases h:32<(p.Waits.length:Int)
    · rw [aR h];rfl
    · rw [aU (by omega),cond_false,cond_false,show (0:Int)=((0:Nat):Int) from rfl,Cp p (pM hd).1 (by omega) p.Waits.length 0 fuel (by omega) (by have:=aL;omega),List.drop_zero]
      rfl
  · rw [bn hd];rfl
theorem j0 (p:ah):fh p=some (chkP p):=by
  unfold fh chkP
  rw [ma,aj]
  by_cases hd:(chkL p.Decls).2=0
  · rw [bd hd,cond_false,cond_false]
    by_cases h:32<(p.Waits.length:Int)
    · rw [aR h];rfl
    · rw [aU (by omega),cond_false,cond_false,show (0:Int)=((0:Nat):Int) from rfl,Cq p (by omega) p.Waits.length 0 fuel (by omega) (by have:=aL;omega),List.drop_zero]
      rfl
  · rw [bn hd];rfl
structure yz (F:aq):Prop where
  args:0≤F.Args∧F.Args≤8
  locals:0≤F.Locals∧F.Locals≤8
  code:1≤F.Code.length∧F.Code.length≤200
  ins:∀ x∈F.Code,chkI x=0
theorem yz.of {F:aq} (h:rp F=0):yz F:=by
  unfold rp at h
  cases h1:((iLt F.Args 0||iLt F.Locals F.Args)||iLt 8 F.Locals) with
  | true=>rw [h1,cond_true] at h;cases h
  | false=>
    rw [h1,cond_false] at h
    simp only [Bool.or_eq_false_iff,bM] at h1
    by_cases h2:(F.Code.length:Int)=0
    · rw [aQ h2,cond_true] at h;cases h
    · rw [aJ h2,cond_false] at h
      by_cases h3:200<(F.Code.length:Int)
      · rw [aR h3,cond_true] at h;cases h
      · rw [aU (by omega),cond_false] at h
        exact ⟨by omega,by omega,by omega,pN h⟩
structure uN (p:ah):Prop where
  decls:(chkL p.Decls).2=0
  waits:p.Waits.length≤32∧∀ w∈p.Waits,chkW p.Decls w=0
  funcs:1≤p.Funcs.length∧p.Funcs.length≤16
  fns:∀ F∈p.Funcs,yz F
theorem uN.of {p:ah} (h:chkP p=0):uN p:=by
  unfold chkP at h
  by_cases hd:(chkL p.Decls).2=0
  · rw [bd hd,cond_false] at h
    by_cases h1:32<(p.Waits.length:Int)
    · rw [aR h1,cond_true] at h;cases h
    · rw [aU (by omega),cond_false] at h
      by_cases h2:first (chkW p.Decls) p.Waits=0
      · rw [bd h2,cond_false] at h
        by_cases h3:(p.Funcs.length:Int)=0
        · rw [aQ h3,cond_true] at h;cases h
        · rw [aJ h3,cond_false] at h
          by_cases h4:16<(p.Funcs.length:Int)
          · rw [aR h4,cond_true] at h;cases h
          · rw [aU (by omega),cond_false] at h
            exact ⟨hd,⟨by omega,pN h2⟩,by omega,fun F hF=>yz.of (pN h F hF)⟩
      · rw [bn h2,cond_true] at h;exact absurd h h2
  · rw [bn hd,cond_true] at h;exact absurd h hd
def ownW (W:List (List af)):List (List af):=(W.take 6).map fun l=>l.take 6
def ownF (F:aq):aq:=⟨F.Args,F.Locals,F.Code.take 250⟩
def ownP (p:ah):ah:=⟨p.Decls.take 40,(p.Waits.take 40).map ownW,(p.Funcs.take 20).map ownF⟩
end LJ
end
section
namespace LJ
open Go Go.RowKit
set_option linter.unusedVariables false
set_option linter.unusedSimpArgs false
def putF (F:aq):List UInt8:=numL F.Args.toNat++(numL F.Locals.toNat++(numL F.Code.length++F.Code.flatMap putI))
def oj:List UInt8:=[76,74,1]
def putP (p:ah):List UInt8:=oj++(Bv p.Decls++(numL p.Waits.length++(p.Waits.flatMap Ay++(numL p.Funcs.length++p.Funcs.flatMap putF))))
theorem uN.wait {p:ah} (h:uN p):∀ w∈p.Waits,yx w:=fun w hw=>yx.of h.decls (h.waits.2 w hw)
theorem sZ {α:Type} [Inhabited α] (L:List α) (i:Nat) (h:i<L.length):L.getD i default∈L:=by
  rw [List.getD_eq_getElem?_getD,List.getElem?_eq_getElem (by omega)]
  exact List.getElem_mem _
end LJ
end
section
namespace LJ
open Go Go.RowKit
set_option linter.unusedVariables false
set_option linter.unusedSimpArgs false
def sb {α β:Type} (x:Int ⊕ α) (k:α→Int ⊕ β):Int ⊕ β:=match x with
  | .inl e=> .inl e
  | .inr y=>k y
theorem eg {α β:Type} (e:Int) (k:α→Int ⊕ β):sb (.inl e:Int ⊕ α) k= .inl e:=rfl
theorem bK {α β:Type} (y:α) (k:α→Int ⊕ β):sb (.inr y:Int ⊕ α) k=k y:=rfl
theorem wj {α β γ:Type} (x:Int ⊕ α) (f:α→Int ⊕ β) (g:β→Int ⊕ γ):sb (sb x f) g=sb x fun y=>sb (f y) g:=by cases x <;> rfl
theorem fI {α β:Type} {x:Int ⊕ α} {k:α→Int ⊕ β} {z:β} (h:sb x k= .inr z):∃ y,x= .inr y∧k y= .inr z:=by
  cases x with
  | inl e=>cases h
  | inr y=>exact ⟨y,rfl,h⟩
theorem ny {α β:Type} (e:Int) (k:β→Option (Int ⊕ α)):l6 (.inl e:Int ⊕ β) k=some (.inl e):=rfl
theorem eO {α β:Type} (y:β) (k:β→Option (Int ⊕ α)):l6 (.inr y:Int ⊕ β) k=k y:=rfl
def two {α:Type} (r:α×Int×List UInt8):Int ⊕ (α×List UInt8):=cond (iEq r.2.1 0) (.inr (r.1,r.2.2)) (.inl r.2.1)
theorem iI {α:Type} {r:α×Int×List UInt8} (h:r.2.1=0):two r= .inr (r.1,r.2.2):=by unfold two;rw [aQ h,cond_true]
theorem eJ {α:Type} {r:α×Int×List UInt8} (h:r.2.1≠0):two r= .inl r.2.1:=by unfold two;rw [aJ h,cond_false]
theorem e8 {α:Type} {r:α×Int×List UInt8} {y:α×List UInt8} (h:two r= .inr y):r.2.1=0∧y=(r.1,r.2.2):=by
  by_cases h0:r.2.1=0
  · rw [iI h0] at h;exact ⟨h0,(Sum.inr.inj h).symm⟩
  · rw [eJ h0] at h;cases h
theorem mw {α:Type} {r:α×Int×List UInt8} {e:Int} (h:two r= .inl e):r.2.1=e∧e≠0:=by
  by_cases h0:r.2.1=0
  · rw [iI h0] at h;cases h
  · rw [eJ h0] at h;have:=Sum.inl.inj h;exact ⟨this,this ▸h0⟩
def numP (l:List UInt8):Int ⊕ (Nat×List UInt8):=two ((rdN l 0).2.1,(rdN l 0).1,(rdN l 0).2.2)
def j3 (m:Nat) (l:List UInt8):Int ⊕ (Nat×List UInt8):=sb (numP l) fun r=>cond (iLt (m:Int) (r.1:Int)) (.inl 4) (.inr r)
def gI (l:List UInt8):Int ⊕ (ar×List UInt8):=two (getI l)
def gW (D:List ab) (l:List UInt8):Int ⊕ (List (List af)×List UInt8):=two (ke D l)
def gD (l:List UInt8):Int ⊕ (List ab×List UInt8):=two (ja l)
def repP {α:Type} (g:List UInt8→Int ⊕ (α×List UInt8)):Nat→List UInt8→List α→Int ⊕ (List α×List UInt8)
  | 0,l,acc=> .inr (acc,l)
  | n+1,l,acc=>sb (g l) fun r=>repP g n r.2 (acc++[r.1])
def cap (n:Nat):Int:=((min n 2147483648:Nat):Int)
def fnP (l:List UInt8):Int ⊕ (aq×List UInt8):=sb (numP l) fun a=>sb (numP a.2) fun b=>sb (j3 200 b.2) fun n=>sb (repP gI n.1 n.2 []) fun c=> .inr (⟨cap a.1,cap b.1,c.1⟩,c.2)
def yA {β:Type} (K:ah×List UInt8→Int ⊕ β) (l:List UInt8):Int ⊕ β:=sb (gD l) fun d=>sb (j3 32 d.2) fun n=>sb (repP (gW d.1) n.1 n.2 []) fun w=>sb (j3 16 w.2) fun m=>sb (repP fnP m.1 m.2 []) fun f=>K (⟨d.1,w.1,f.1⟩,f.2)
def wk (l:List UInt8):Int ⊕ (ah×List UInt8):=yA (fun r=> .inr r) l
theorem xA {β:Type} (K:ah×List UInt8→Int ⊕ β) (l:List UInt8):yA K l=sb (wk l) K:=by
  unfold wk yA
  simp only [wj,bK]
def noP:ah:=⟨[],[],[]⟩
def clP (r:ah×List UInt8):Int ⊕ ah:=cond (iEq (r.2.length:Int) 0) (cond (iEq (chkP r.1) 0) (.inr r.1) (.inl (chkP r.1))) (.inl 2)
def outP:Int ⊕ ah→ah×Int
  | .inl e=>(noP,e)
  | .inr p=>(p,0)
def getP (l:List UInt8):ah×Int:=cond (sEq (bs (l.take 3)) (bs oj)) (outP (sb (wk (l.drop 3)) clP)) (noP,2)
def Suf {α:Type} (l:List UInt8) (x:Int ⊕ (α×List UInt8)):Prop:=∀ r,x= .inr r→r.2<:+l
theorem Suf.num (l:List UInt8):Suf l (numP l):=fun r h=>by
  obtain ⟨h1,rfl⟩:=e8 h
  dsimp only at h1 ⊢
  have:=(eI h1).1
  exact ⟨_,this.symm⟩
theorem Suf.many (m:Nat) (l:List UInt8):Suf l (j3 m l):=fun r h=>by
  obtain ⟨y,h1,h2⟩:=fI h
  cases hc:iLt (m:Int) (y.1:Int) with
  | true=>rw [hc] at h2;cases h2
  | false=>rw [hc] at h2;cases h2;exact Suf.num l _ h1
theorem Suf.ins (l:List UInt8):Suf l (gI l):=fun r h=>by
  obtain ⟨h1,rfl⟩:=e8 h
  exact ⟨_,(xv h1).2.symm⟩
theorem Suf.wait {D:List ab} (hD:(chkL D).2=0) (l:List UInt8):Suf l (gW D l):=fun r h=>by
  obtain ⟨h1,rfl⟩:=e8 h
  exact ⟨_,(uM hD h1).2.symm⟩
theorem Suf.decl (l:List UInt8):Suf l (gD l):=fun r h=>by
  obtain ⟨h1,rfl⟩:=e8 h
  exact ⟨_,(qx h1).2.symm⟩
theorem AE {l:List UInt8} {r:List ab×List UInt8} (h:gD l= .inr r):(chkL r.1).2=0:=by
  obtain ⟨h1,rfl⟩:=e8 h
  exact (qx h1).1
theorem Suf.rep {α:Type} {g:List UInt8→Int ⊕ (α×List UInt8)} (hg:∀ l,Suf l (g l)):∀ (n:Nat) (l:List UInt8) (acc:List α),Suf l (repP g n l acc)
  | 0,l,acc=>fun r h=>by cases h;exact List.suffix_refl _
  | n+1,l,acc=>fun r h=>by
    obtain ⟨y,h1,h2⟩:=fI h
    exact (Suf.rep hg n y.2 _ r h2).trans (hg l y h1)
theorem Suf.fn (l:List UInt8):Suf l (fnP l):=fun r h=>by
  obtain ⟨a,h1,h⟩:=fI h
  obtain ⟨b,h2,h⟩:=fI h
  obtain ⟨n,h3,h⟩:=fI h
  obtain ⟨c,h4,h⟩:=fI h
  cases h
  exact (Suf.rep Suf.ins _ _ _ _ h4).trans ((Suf.many _ _ _ h3).trans ((Suf.num _ _ h2).trans (Suf.num _ _ h1)))
theorem ir {m:Nat} {l:List UInt8} {r:Nat×List UInt8} (h:j3 m l= .inr r):r.1≤m∧numP l= .inr r:=by
  obtain ⟨y,h1,h2⟩:=fI h
  cases hc:iLt (m:Int) (y.1:Int) with
  | true=>rw [hc] at h2;cases h2
  | false=>rw [hc] at h2;cases h2;rw [bM] at hc;exact ⟨by omega,h1⟩
def lf {α β:Type} (f:α→β):Int ⊕ (α×List UInt8)→Int ⊕ (β×ax)
  | .inl e=> .inl e
  | .inr r=> .inr (f r.1,⟨bs r.2⟩)
theorem qH {α β:Type} (f:α→β) (r:α×List UInt8):lf f (.inr r)= .inr (f r.1,⟨bs r.2⟩):=rfl
theorem s0 {l t:List UInt8} (h:t<:+l) {n:Int} (hn:n=(l.length:Int) - t.length) {e:Int} (he:e=0):bD ⟨bs l⟩ n e=some (.inr ⟨bs t⟩):=by
  have hl:=h.length_le
  unfold bD
  rw [bd he,cond_false]
  dsimp only
  rw [aB (rQ (by rw [eY];omega))]
  congr 3
  apply l8
  rw [eS,iB,iB,eY,List.take_length,show n.toNat=l.length - t.length by omega]
  obtain ⟨p,rfl⟩:=h
  rw [List.length_append,show p.length+t.length - t.length=p.length by omega,List.drop_left]
theorem pO {r:ax} {n e:Int} (h:e≠0):bD r n e=some (.inl e):=by
  unfold bD
  rw [bn h,cond_true]
theorem om {l:List UInt8} (hl:l.length≤9007199254740992):cr ⟨bs l⟩=some (lf cap (numP l)):=by
  have h0:RdOK (bs l) l 0:=⟨by rw [iB];exact List.suffix_refl _,fun h=>absurd rfl h⟩
  have hs:(bs l).size≤9007199254740992:=by rw [eY];omega
  have hr:=h0.num.suf
  rw [iB] at hr
  have hr':=hr.length_le
  unfold cr
  rw [qp,aj,iB,eX hs h0,aj]
  dsimp only
  rw [qt hs h0.num,aj,bL,aj,eY,w64 (by omega),qF (jP l 0)]
  by_cases he:(rdN l 0).1=0
  · rw [s0 hr rfl he,aj,eO,numP,iI he]
    rfl
  · rw [pO he,aj,ny,numP,eJ he]
    rfl
theorem my {m:Nat} (hm:m≤1000) {l:List UInt8} (hl:l.length≤9007199254740992):cd ⟨bs l⟩ (m:Int)=some (lf (fun n:Nat=>(n:Int)) (j3 m l)):=by
  unfold cd j3
  rw [om hl,aj]
  cases hn:numP l with
  | inl e=>rfl
  | inr r=>
    rw [bK,qH,eO]
    dsimp only
    unfold cap
    by_cases h:m<r.1
    · rw [aR (by omega),aR (by omega)];rfl
    · rw [aU (by omega),aU (by omega),show min r.1 2147483648=r.1 by omega];rfl
theorem uO (x1 x2 x3:Int×ax) {N:Nat} (hN:x3.1=(N:Int)) (hN2:N≤200):∀ (n i f:Nat) (l:List UInt8) (acc:List ar),i+n=N→n<f→acc.length=i→l.length≤9007199254740992→
    bN x1 x2 x3 f ((i:Int),bs l,acc)=some (lf (fun c=>⟨x1.1,x2.1,c⟩) (repP gI n l acc))
  | n,i,0,l,acc,hi,hf,ha,hl=>by omega
  | 0,i,f+1,l,acc,hi,hf,ha,hl=>by
    rw [bN]
    dsimp only
    rw [hN,aU (by omega),cond_false]
    rfl
  | n+1,i,f+1,l,acc,hi,hf,ha,hl=>by
    rw [bN]
    dsimp only
    rw [hN,aR (by omega),cond_true,yt (by rw [eY];omega),iB,outI,aj]
    dsimp only
    rw [repP]
    by_cases he:(getI l).2.1=0
    · have hg:gI l= .inr ((getI l).1,(getI l).2.2):=iI he
      have hs:=Suf.ins l _ hg
      have hs':=hs.length_le
      dsimp only at hs hs'
      rw [aQ he,cond_true,s0 hs (by rw [eY]) he,aj,eO,aB (fG (by simp only [List.length_cons,List.length_nil];omega)),w64 (by omega),show (i:Int)+1=((i+1:Nat):Int) by omega,hg,bK]
      exact uO x1 x2 x3 hN hN2 n (i+1) f _ _ (by omega) (by omega) (by simp;omega) (by omega)
    · rw [pO he,aj,ny,gI,eJ he,eg]
      rfl
theorem AF {l:List UInt8} (hl:l.length≤9007199254740992):bZ ⟨bs l⟩=some (lf id (fnP l)):=by
  unfold bZ fnP
  rw [om hl,aj]
  cases h1:numP l with
  | inl e=>rfl
  | inr a=>
    have s1:=(Suf.num l _ h1).length_le
    rw [bK,qH,eO]
    dsimp only
    rw [om (by omega),aj]
    cases h2:numP a.2 with
    | inl e=>rfl
    | inr b=>
      have s2:=(Suf.num _ _ h2).length_le
      rw [bK,qH,eO]
      dsimp only
      rw [show (200:Int)=((200:Nat):Int) from rfl,my (by omega) (by omega),aj]
      cases h3:j3 200 b.2 with
      | inl e=>rfl
      | inr n=>
        have s3:=(Suf.many _ _ _ h3).length_le
        have hn:=(ir h3).1
        rw [bK,qH,eO]
        have:=uO (cap a.1,⟨bs a.2⟩) (cap b.1,⟨bs b.2⟩) ((n.1:Int),⟨bs n.2⟩) (N:=n.1) rfl hn n.1 0 fuel n.2 [] (by omega) (by have:=aL;omega) rfl (by omega)
        refine Eq.trans this ?_
        cases repP gI n.1 n.2 [] <;> rfl
def fin (r:ah×List UInt8):Int ⊕ (ah×ax):=cond (iEq (r.2.length:Int) 0) (.inr (r.1,⟨bs r.2⟩)) (.inl 2)
theorem AG (l:List UInt8):sEq (bs l) ByteArray.empty=iEq (l.length:Int) 0:=by
  cases l with
  | nil=>exact (CQ rfl).trans (aQ rfl).symm
  | cons b t=>
    rw [aJ (by simp only [List.length_cons];omega)]
    refine yh fun h=>?_
    have:=congrArg ByteArray.size h
    rw [eY] at this
    simp at this
theorem sc (x1:(List ab)×Int×Int) (s5:Int×ByteArray×(List (List (List af)))) (x10:Int×ax) {N:Nat} (hN:x10.1=(N:Int)) (hN2:N≤16):∀ (n i f:Nat) (l:List UInt8) (acc:List aq),i+n=N→n<f→acc.length=i→l.length≤9007199254740992→
    bO x1 s5 x10 f ((i:Int),bs l,acc)=some (sb (repP fnP n l acc) fun r=>fin (⟨x1.1,s5.2.2,r.1⟩,r.2))
  | n,i,0,l,acc,hi,hf,ha,hl=>by omega
  | 0,i,f+1,l,acc,hi,hf,ha,hl=>by
    rw [bO]
    dsimp only
    rw [hN,aU (by omega),cond_false,AG,repP,bK]
    unfold fin
    dsimp only
    cases iEq (l.length:Int) 0 <;> rfl
  | n+1,i,f+1,l,acc,hi,hf,ha,hl=>by
    rw [bO]
    dsimp only
    rw [hN,aR (by omega),cond_true,AF hl,aj,repP,wj]
    cases h1:fnP l with
    | inl e=>rfl
    | inr r=>
      have s1:=(Suf.fn l _ h1).length_le
      rw [qH,eO,bK]
      dsimp only
      rw [aB (fG (by simp only [List.length_cons,List.length_nil];omega)),w64 (by omega),show (i:Int)+1=((i+1:Nat):Int) by omega]
      exact sc x1 s5 x10 hN hN2 n (i+1) f _ _ (by omega) (by omega) (by simp;omega) (by omega)
theorem se (x1:(List ab)×Int×Int) (hD:(chkL x1.1).2=0) (x3:Int×ax) {N:Nat} (hN:x3.1=(N:Int)) (hN2:N≤32):∀ (n i f:Nat) (l:List UInt8) (acc:List (List (List af))),i+n=N→n<f→acc.length=i→l.length≤9007199254740992→
    b8 x1 x3 f ((i:Int),bs l,acc)=some (sb (repP (gW x1.1) n l acc) fun w=>sb (j3 16 w.2) fun m=>sb (repP fnP m.1 m.2 []) fun r=>fin (⟨x1.1,w.1,r.1⟩,r.2))
  | n,i,0,l,acc,hi,hf,ha,hl=>by omega
  | 0,i,f+1,l,acc,hi,hf,ha,hl=>by
    rw [b8]
    dsimp only
    rw [hN,aU (by omega),cond_false,show (16:Int)=((16:Nat):Int) from rfl,my (by omega) hl,aj,repP,bK]
    dsimp only
    cases h1:j3 16 l with
    | inl e=>rfl
    | inr m=>
      have s1:=(Suf.many _ _ _ h1).length_le
      have hm:=(ir h1).1
      rw [qH,eO,bK]
      exact sc x1 ((i:Int),bs l,acc) ((m.1:Int),⟨bs m.2⟩) (N:=m.1) rfl hm m.1 0 fuel m.2 [] (by omega) (by have:=aL;omega) rfl (by omega)
  | n+1,i,f+1,l,acc,hi,hf,ha,hl=>by
    rw [b8]
    dsimp only
    rw [hN,aR (by omega),cond_true,wi (pM hD).1 (by rw [eY];omega),aj,iB]
    dsimp only
    rw [repP,wj]
    by_cases he:(ke x1.1 l).2.1=0
    · have hg:gW x1.1 l= .inr ((ke x1.1 l).1,(ke x1.1 l).2.2):=iI he
      have hs:=Suf.wait hD l _ hg
      have hs':=hs.length_le
      dsimp only at hs hs'
      rw [aQ he,cond_true,s0 hs (by rw [eY]) he,aj,eO,aB (fG (by simp only [List.length_cons,List.length_nil];omega)),w64 (by omega),show (i:Int)+1=((i+1:Nat):Int) by omega,hg,bK]
      exact se x1 hD x3 hN hN2 n (i+1) f _ _ (by omega) (by omega) (by simp;omega) (by omega)
    · rw [pO he,aj,ny,gW,eJ he,eg]
theorem rq {l:List UInt8} (hl:l.length≤9007199254740992):ca ⟨bs l⟩=some (yA fin l):=by
  unfold ca yA
  dsimp only
  rw [vR (by rw [eY];omega),aj,iB]
  dsimp only
  by_cases he:(ja l).2.1=0
  · have hg:gD l= .inr ((ja l).1,(ja l).2.2):=iI he
    have hD:=AE hg
    have hs:=Suf.decl l _ hg
    have hs':=hs.length_le
    dsimp only at hs hs' hD
    rw [aQ he,cond_true,s0 hs (by rw [eY]) he,aj,eO,hg,bK,show (32:Int)=((32:Nat):Int) from rfl,my (by omega) (by omega),aj]
    dsimp only
    cases h1:j3 32 (ja l).2.2 with
    | inl e=>rfl
    | inr n=>
      have s1:=(Suf.many _ _ _ h1).length_le
      have hm:=(ir h1).1
      rw [qH,eO,bK]
      exact se ((ja l).1,((bs l).size:Int) - (ja l).2.2.length,(ja l).2.1) hD ((n.1:Int),⟨bs n.2⟩) (N:=n.1) rfl hm n.1 0 fuel n.2 [] (by omega) (by have:=aL;omega) rfl (by omega)
  · rw [pO he,aj,ny,gD,eJ he,eg]
theorem wm {s:ByteArray} (hs:s.size≤9007199254740992):nn s=some (getP (bl s)):=by
  have h3:(⟨#[76,74,1]⟩:ByteArray)=bs oj:=rfl
  have h3s:(bs oj).size=3:=rfl
  unfold nn lU fA cg getP
  rw [h3,h3s]
  by_cases hl:3≤s.size
  · have hx:s.extract 0 ((3:Nat):Int).toNat=bs ((bl s).take 3):=by
      apply l8
      rw [eS,iB,Int.toNat_natCast,List.drop_zero]
    rw [l0 (by omega),rQ (by omega)]
    simp only [Bool.not_true,Bool.false_or]
    rw [aB rfl,aj,aj,hx,Bool.true_and]
    cases hc:sEq (bs ((bl s).take 3)) (bs oj) with
    | false=>rfl
    | true=>
      have he:s.extract (3:Int).toNat s.size=bs ((bl s).drop 3):=by
        apply l8
        rw [eS,iB,←gU,List.take_length]
        rfl
      rw [Bool.not_true,cond_false,cond_true,aB (rQ (by omega)),he,rq (by rw [List.length_drop,gU];omega),aj,xA]
      cases wk ((bl s).drop 3) with
      | inl e=>rfl
      | inr r=>
        rw [bK,bK]
        unfold fin clP
        cases iEq (r.2.length:Int) 0 with
        | false=>rfl
        | true=>
          rw [cond_true,cond_true,eO]
          dsimp only
          rw [nw,aj]
          by_cases hk:chkP r.1=0
          · rw [bd hk,aQ hk];rfl
          · rw [bn hk,aJ hk];rfl
  · have hc:sEq (bs ((bl s).take 3)) (bs oj)=false:=yh fun h=>by
      have:=congrArg ByteArray.size h
      rw [eY,h3s,List.length_take,gU] at this
      omega
    rw [kA (by omega),hc]
    rfl
end LJ
end
section
namespace LJ
open Go Go.RowKit
set_option linter.unusedVariables false
set_option linter.unusedSimpArgs false
def RdS {α β:Type} (s:ByteArray) (f:α→β) (x:Int ⊕ (α×List UInt8)) (z:Option (β×au×Int)):Prop:=match x with
  | .inl e=>e≠0∧∃ a R,z=some (a,R,e)
  | .inr r=>r.2<:+bl s∧z=some (f r.1,mkR s r.2 0,0)
theorem Db {s:ByteArray} (hs:s.size≤9007199254740992) {l:List UInt8} (hl:l<:+bl s):RdS s id (gI l) (jf (mkR s l 0)):=by
  obtain ⟨l',e',h1,h2⟩:=sS hs hl
  by_cases he:(getI l).2.1=0
  · obtain ⟨rfl,rfl,h3⟩:=h2 he
    rw [gI,iI he]
    exact ⟨h3,by rw [h1,he];rfl⟩
  · rw [gI,eJ he]
    exact ⟨he,_,_,h1⟩
theorem BD {s:ByteArray} (hs:s.size≤9007199254740992) {l:List UInt8} (hl:l<:+bl s):RdS s id (gD l) (je (mkR s l 0)):=by
  obtain ⟨l',e',h1,h2⟩:=sM hs hl
  by_cases he:(ja l).2.1=0
  · obtain ⟨rfl,rfl,h3⟩:=h2 he
    rw [gD,iI he]
    exact ⟨h3,by rw [h1,he];rfl⟩
  · rw [gD,eJ he]
    exact ⟨he,_,_,h1⟩
theorem BE {D:List ab} (hD:(chkL D).2=0) {s:ByteArray} (hs:s.size≤9007199254740992) {l:List UInt8} (hl:l<:+bl s):RdS s id (gW D l) (kc D (mkR s l 0)):=by
  have h0:RdOK s l 0:=⟨hl,fun h=>absurd rfl h⟩
  unfold kc
  rw [cX hs h0,aj]
  dsimp only
  by_cases h4:4<((rdN l 0).2.1:Int)
  · have hM:rdM l=(0,4,[]):=by unfold rdM;rw [aR h4,cond_true]
    have hg:ke D l=([],4,[]):=by unfold ke;rw [hM];rfl
    rw [aR h4,cond_true,gW,hg]
    exact ⟨by decide,_,_,rfl⟩
  · rw [aU (by omega),cond_false]
    have hM:rdM l=((rdN l 0).2.1,(rdN l 0).1,(rdN l 0).2.2):=by unfold rdM;rw [aU (by omega),cond_false]
    by_cases he:(rdN l 0).1=0
    · have hn:=h0.num
      obtain ⟨g1,g2,g3⟩:Said D s (cG (rdN l 0).2.1 (rdN l 0).2.2 []) (bP D (((rdN l 0).2.1:Int),mkR s (rdN l 0).2.2 0) fuel (0,(mkR s (rdN l 0).2.2 0).S,(mkR s (rdN l 0).2.2 0).At,(mkR s (rdN l 0).2.2 0).Err,[])):=rl4 (L:=D) hs (x1:=(((rdN l 0).2.1:Int),mkR s (rdN l 0).2.2 0)) (N:=(rdN l 0).2.1) rfl (by omega) (rdN l 0).2.1 0 fuel [] (rdN l 0).2.2 (by omega) (by have:=aL;omega) rfl hn.suf
      have hg:ke D l=cond (iEq (cG (rdN l 0).2.1 (rdN l 0).2.2 []).2.1 0) (cond (iEq (chkW D (cG (rdN l 0).2.1 (rdN l 0).2.2 []).1) 0) ((cG (rdN l 0).2.1 (rdN l 0).2.2 []).1,0,(cG (rdN l 0).2.1 (rdN l 0).2.2 []).2.2) ([],chkW D (cG (rdN l 0).2.1 (rdN l 0).2.2 []).1,[])) ([],(cG (rdN l 0).2.1 (rdN l 0).2.2 []).2.1,[]):=by
        unfold ke
        rw [hM]
        dsimp only
        rw [aQ he,cond_true]
      have hsuf:∀ r,gW D l= .inr r→r.2<:+bl s:=fun r h=>(Suf.wait hD l r h).trans hl
      rw [he]
      revert g1 g2 g3 hsuf
      unfold gW
      rw [hg]
      generalize cG (rdN l 0).2.1 (rdN l 0).2.2 []=r
      intro g1 g2 g3 hsuf
      by_cases h1:r.2.1=0
      · by_cases h2:chkW D r.1=0
        · rw [aQ h1,cond_true,aQ h2,cond_true] at hsuf ⊢
          rw [iI rfl] at hsuf ⊢
          exact ⟨hsuf _ rfl,g1 h1 h2⟩
        · obtain ⟨R,hR⟩:=g2 h1 h2
          rw [aQ h1,cond_true,aJ h2,cond_false,eJ h2]
          exact ⟨h2,_,_,hR⟩
      · obtain ⟨R,hR⟩:=g3 h1
        rw [aJ h1,cond_false,eJ (r:=([],r.2.1,[])) h1]
        exact ⟨h1,_,_,hR⟩
    · obtain ⟨R,hR⟩:=xz (L:=D) (x1:=(((rdN l 0).2.1:Int),mkR s (rdN l 0).2.2 (rdN l 0).1)) (Nat.pred fuel) 0 (mkR s (rdN l 0).2.2 (rdN l 0).1).S (mkR s (rdN l 0).2.2 (rdN l 0).1).At (rdN l 0).1 [] he
      rw [show Nat.pred fuel+1=fuel by have:=aL;exact Nat.succ_pred (by omega)] at hR
      have hg:ke D l=([],(rdN l 0).1,[]):=by
        unfold ke
        rw [hM]
        dsimp only
        rw [aJ he,cond_false]
      rw [gW,hg,eJ he]
      exact ⟨he,_,_,hR⟩
theorem ta {s:ByteArray} (hs:s.size≤9007199254740992) {l:List UInt8} (hl:l<:+bl s):match numP l with
    | .inl e=>e≠0∧bj (mkR s l 0)=some (0,mkR s [] e)
    | .inr r=>r.1<18446744073709551616∧r.2<:+bl s∧bj (mkR s l 0)=some ((r.1:Int),mkR s r.2 0):=by
  have h0:RdOK s l 0:=⟨hl,fun h=>absurd rfl h⟩
  rw [cX hs h0]
  by_cases he:(rdN l 0).1=0
  · rw [numP,iI he]
    exact ⟨jP l 0,h0.num.suf,by rw [he]⟩
  · have:=h0.num.err he
    rw [numP,eJ he]
    refine ⟨he,?_⟩
    have hv:(rdN l 0).2.1=0:=by
      unfold rdN at he ⊢
      rw [if_pos rfl] at he ⊢
      rw [(jF l 0 he).1]
    rw [this,hv]
    rfl
theorem xB (s:ByteArray) {m e:Int} (hm:0≤m) (he:e≠0):fC (mkR s [] e) m=some (0,mkR s [] e,e):=by
  unfold fC
  rw [gC s e he,aj]
  dsimp only
  rw [aU (by omega),cond_false]
  rfl
theorem tb {s:ByteArray} (hs:s.size≤9007199254740992) {l:List UInt8} (hl:l<:+bl s) {m:Nat} (hm:m≤1000):RdS s (fun n:Nat=>(n:Int)) (j3 m l) (fC (mkR s l 0) (m:Int)):=by
  have hn:=ta hs hl
  unfold fC j3
  cases h1:numP l with
  | inl e=>
    rw [h1] at hn
    obtain ⟨he,hn⟩:=hn
    rw [hn,aj,eg]
    dsimp only
    rw [aU (by omega),cond_false]
    exact ⟨he,_,_,rfl⟩
  | inr r=>
    rw [h1] at hn
    obtain ⟨hlt,hr,hn⟩:=hn
    rw [hn,aj,bK]
    dsimp only
    by_cases h:m<r.1
    · rw [aR (by omega),cond_true,cond_true]
      exact ⟨by decide,_,_,rfl⟩
    · rw [aU (by omega),cond_false,cond_false,w64 (by omega)]
      exact ⟨hr,rfl⟩
theorem AH {s:ByteArray} (hs:s.size≤9007199254740992) (x1 x2:Int×au) (x3:Int×au×Int) {N:Nat} (hN:x3.1=(N:Int)) (hN2:N≤200):∀ (n i f:Nat) (l:List UInt8) (acc:List ar),i+n=N→n<f→acc.length=i→l<:+bl s→
    RdS s (fun c=>(⟨IntKind.i64.wrap (iMin x1.1 (2147483648:Int)),IntKind.i64.wrap (iMin x2.1 (2147483648:Int)),c⟩:aq)) (repP gI n l acc) (cF x1 x2 x3 f ((i:Int),(mkR s l 0).S,(mkR s l 0).At,(mkR s l 0).Err,acc))
  | n,i,0,l,acc,hi,hf,ha,hl=>by omega
  | 0,i,f+1,l,acc,hi,hf,ha,hl=>by
    rw [cF]
    dsimp only
    rw [hN,aU (by omega),cond_false]
    exact ⟨hl,rfl⟩
  | n+1,i,f+1,l,acc,hi,hf,ha,hl=>by
    have hr:=Db hs hl
    rw [cF]
    dsimp only
    rw [hN,aR (by omega),cond_true,sY,repP]
    cases hg:gI l with
    | inl e=>
      rw [hg] at hr
      obtain ⟨he,a,R,hr⟩:=hr
      rw [hr,aj,eg]
      dsimp only
      rw [bn he,cond_true]
      exact ⟨he,_,_,rfl⟩
    | inr r=>
      rw [hg] at hr
      obtain ⟨hsf,hr⟩:=hr
      rw [hr,aj,bK]
      dsimp only
      rw [bd rfl,cond_false,aB (fG (by simp only [List.length_cons,List.length_nil];omega)),w64 (a:=(i:Int)+1) (by omega),show (i:Int)+1=((i+1:Nat):Int) by omega]
      exact AH hs x1 x2 x3 hN hN2 n (i+1) f _ _ (by omega) (by omega) (by simp;omega) hsf
theorem DX {s:ByteArray} (hs:s.size≤9007199254740992) {l:List UInt8} (hl:l<:+bl s):RdS s id (fnP l) (fm (mkR s l 0)):=by
  have hn:=ta hs hl
  unfold fm fnP
  cases h1:numP l with
  | inl e=>
    rw [h1] at hn
    obtain ⟨he,hn⟩:=hn
    rw [hn,aj,eg]
    dsimp only
    rw [gC s e he,aj]
    dsimp only
    rw [xB s (by decide) he,aj,dp,bn he,cond_true]
    exact ⟨he,_,_,rfl⟩
  | inr a=>
    rw [h1] at hn
    obtain ⟨ha,hla,hn⟩:=hn
    rw [hn,aj,bK]
    dsimp only
    have hn2:=ta hs hla
    cases h2:numP a.2 with
    | inl e=>
      rw [h2] at hn2
      obtain ⟨he,hn2⟩:=hn2
      rw [hn2,aj,eg]
      dsimp only
      rw [xB s (by decide) he,aj,dp,bn he,cond_true]
      exact ⟨he,_,_,rfl⟩
    | inr b=>
      rw [h2] at hn2
      obtain ⟨hb,hlb,hn2⟩:=hn2
      rw [hn2,aj,bK]
      dsimp only
      have h3:=tb hs hlb (m:=200) (by omega)
      rw [show (200:Int)=((200:Nat):Int) from rfl]
      cases h4:j3 200 b.2 with
      | inl e=>
        rw [h4] at h3
        obtain ⟨he,c,R,h3⟩:=h3
        rw [h3,aj,eg,dp,bd rfl,cond_false]
        dsimp only
        rw [bn he,cond_true]
        exact ⟨he,_,_,rfl⟩
      | inr n=>
        have hle:=(ir h4).1
        rw [h4] at h3
        obtain ⟨hln,h3⟩:=h3
        rw [h3,aj,bK,dp,bd rfl,cond_false]
        dsimp only
        rw [cond_false]
        have h5:=AH hs ((a.1:Int),mkR s a.2 0) ((b.1:Int),mkR s b.2 0) ((n.1:Int),mkR s n.2 0,0) (N:=n.1) rfl hle n.1 0 fuel n.2 [] (by omega) (by have:=aL;omega) rfl hln
        rw [qF ha,qF hb] at h5
        cases h6:repP gI n.1 n.2 [] with
        | inl e=>
          rw [h6] at h5
          rw [eg]
          exact h5
        | inr c=>
          rw [h6] at h5
          rw [bK]
          exact h5
theorem xC {s:ByteArray} (hs:s.size≤9007199254740992) (x3:(List ab)×au×Int) (s8:Int×ByteArray×Int×Int×(List (List (List af)))) (x13:Int×au×Int) {N:Nat} (hN:x13.1=(N:Int)) (hN2:N≤16):∀ (n i f:Nat) (l:List UInt8) (acc:List aq),i+n=N→n<f→acc.length=i→l<:+bl s→
    eH s x3 s8 x13 f ((i:Int),(mkR s l 0).S,(mkR s l 0).At,(mkR s l 0).Err,acc)=some (outP (sb (repP fnP n l acc) fun r=>clP (⟨x3.1,s8.2.2.2.2,r.1⟩,r.2)))
  | n,i,0,l,acc,hi,hf,ha,hl=>by omega
  | 0,i,f+1,l,acc,hi,hf,ha,hl=>by
    have hle:=iY hl
    rw [eH]
    dsimp only
    rw [hN,aU (by omega),cond_false,repP,bK]
    unfold clP
    dsimp only
    by_cases h0:l.length=0
    · rw [show (mkR s l 0).At=(s.size:Int) by show (s.size:Int) - l.length=_;omega,aU (by omega),cond_false,aQ (by omega),cond_true,j0,aj]
      by_cases hk:chkP ⟨x3.1,s8.2.2.2.2,acc⟩=0
      · rw [bd hk,aQ hk];rfl
      · rw [bn hk,aJ hk];rfl
    · rw [aR (by show (s.size:Int) - l.length<_;omega),cond_true,aJ (by omega),cond_false]
      rfl
  | n+1,i,f+1,l,acc,hi,hf,ha,hl=>by
    have hr:=DX hs hl
    rw [eH]
    dsimp only
    rw [hN,aR (by omega),cond_true,sY,repP,wj]
    cases hg:fnP l with
    | inl e=>
      rw [hg] at hr
      obtain ⟨he,a,R,hr⟩:=hr
      rw [hr,aj,eg]
      dsimp only
      rw [bn he,cond_true]
      rfl
    | inr r=>
      rw [hg] at hr
      obtain ⟨hsf,hr⟩:=hr
      rw [hr,aj,bK]
      dsimp only
      rw [bd rfl,cond_false,aB (fG (by simp only [List.length_cons,List.length_nil];omega)),w64 (by omega),show (i:Int)+1=((i+1:Nat):Int) by omega]
      exact xC hs x3 s8 x13 hN hN2 n (i+1) f _ _ (by omega) (by omega) (by simp;omega) hsf
theorem AI {s:ByteArray} (hs:s.size≤9007199254740992) (x3:(List ab)×au×Int) (hD:(chkL x3.1).2=0) (x5:Int×au×Int) {N:Nat} (hN:x5.1=(N:Int)) (hN2:N≤32):∀ (n i f:Nat) (l:List UInt8) (acc:List (List (List af))),i+n=N→n<f→acc.length=i→l<:+bl s→
    fp s x3 x5 f ((i:Int),(mkR s l 0).S,(mkR s l 0).At,(mkR s l 0).Err,acc)=some (outP (sb (repP (gW x3.1) n l acc) fun w=>sb (j3 16 w.2) fun m=>sb (repP fnP m.1 m.2 []) fun r=>clP (⟨x3.1,w.1,r.1⟩,r.2)))
  | n,i,0,l,acc,hi,hf,ha,hl=>by omega
  | 0,i,f+1,l,acc,hi,hf,ha,hl=>by
    have hm:=tb hs hl (m:=16) (by omega)
    rw [fp]
    dsimp only
    rw [hN,aU (by omega),cond_false,sY,show (16:Int)=((16:Nat):Int) from rfl,repP,bK]
    dsimp only
    cases h1:j3 16 l with
    | inl e=>
      rw [h1] at hm
      obtain ⟨he,a,R,hm⟩:=hm
      rw [hm,aj,eg]
      dsimp only
      rw [bn he,cond_true]
      rfl
    | inr m=>
      have hle:=(ir h1).1
      rw [h1] at hm
      obtain ⟨hsf,hm⟩:=hm
      rw [hm,aj,bK]
      dsimp only
      rw [bd rfl,cond_false]
      exact xC hs x3 ((i:Int),(mkR s l 0).S,(mkR s l 0).At,(mkR s l 0).Err,acc) ((m.1:Int),mkR s m.2 0,0) (N:=m.1) rfl hle m.1 0 fuel m.2 [] (by omega) (by have:=aL;omega) rfl hsf
  | n+1,i,f+1,l,acc,hi,hf,ha,hl=>by
    have hr:=BE hD hs hl
    rw [fp]
    dsimp only
    rw [hN,aR (by omega),cond_true,sY,repP,wj]
    cases hg:gW x3.1 l with
    | inl e=>
      rw [hg] at hr
      obtain ⟨he,a,R,hr⟩:=hr
      rw [hr,aj,eg]
      dsimp only
      rw [bn he,cond_true]
      rfl
    | inr r=>
      rw [hg] at hr
      obtain ⟨hsf,hr⟩:=hr
      rw [hr,aj,bK]
      dsimp only
      rw [bd rfl,cond_false,aB (fG (by simp only [List.length_cons,List.length_nil];omega)),w64 (by omega),show (i:Int)+1=((i+1:Nat):Int) by omega]
      exact AI hs x3 hD x5 hN hN2 n (i+1) f _ _ (by omega) (by omega) (by simp;omega) hsf
theorem uP {s:ByteArray} (hs:s.size≤9007199254740992):lx s=some (getP (bl s)):=by
  have h3:(⟨#[76,74,1]⟩:ByteArray)=bs oj:=rfl
  have h3s:(bs oj).size=3:=rfl
  unfold lx getP
  rw [h3]
  by_cases hl:3≤s.size
  · have hx:s.extract 0 (3:Int).toNat=bs ((bl s).take 3):=by
      apply l8
      rw [eS,iB,List.drop_zero]
      rfl
    rw [aU (by omega),rQ (by omega),hx,Bool.or_true,aB rfl,Bool.false_or]
    cases hc:sEq (bs ((bl s).take 3)) (bs oj) with
    | false=>rfl
    | true=>
      have hsd:(bl s).drop 3<:+bl s:=List.drop_suffix 3 (bl s)
      have hm3:(⟨s,3,0⟩:au)=mkR s ((bl s).drop 3) 0:=by
        unfold mkR
        rw [List.length_drop,gU]
        congr 1
        omega
      have hr:=BD hs hsd
      rw [Bool.not_true,cond_false,cond_true,hm3,←xA]
      unfold yA
      cases hg:gD ((bl s).drop 3) with
      | inl e=>
        rw [hg] at hr
        obtain ⟨he,a,R,hr⟩:=hr
        rw [hr,aj,eg]
        dsimp only
        rw [bn he,cond_true]
        rfl
      | inr d=>
        have hD:=AE hg
        rw [hg] at hr
        obtain ⟨hsf,hr⟩:=hr
        rw [hr,aj,bK]
        dsimp only
        rw [bd rfl,cond_false,show (32:Int)=((32:Nat):Int) from rfl]
        have hm:=tb hs hsf (m:=32) (by omega)
        cases h1:j3 32 d.2 with
        | inl e=>
          rw [h1] at hm
          obtain ⟨he,a,R,hm⟩:=hm
          rw [hm,aj,eg]
          dsimp only
          rw [bn he,cond_true]
          rfl
        | inr m=>
          have hle:=(ir h1).1
          rw [h1] at hm
          obtain ⟨hsf2,hm⟩:=hm
          rw [hm,aj,bK]
          dsimp only
          rw [bd rfl,cond_false]
          exact AI hs (d.1,mkR s d.2 0,0) hD ((m.1:Int),mkR s m.2 0,0) (N:=m.1) rfl hle m.1 0 fuel m.2 [] (by omega) (by have:=aL;omega) rfl hsf2
  · have hc:sEq (bs ((bl s).take 3)) (bs oj)=false:=yh fun h=>by
      have:=congrArg ByteArray.size h
      rw [eY,h3s,List.length_take,gU] at this
      omega
    rw [aR (by omega),hc]
    rfl
end LJ
end
section
namespace LJ
open Go Go.RowKit
set_option linter.unusedVariables false
set_option linter.unusedSimpArgs false
def AJ (p:ah):List UInt8:=Bv p.Decls++(numL p.Waits.length++(p.Waits.flatMap Ay++(numL p.Funcs.length++p.Funcs.flatMap putF)))
theorem Dc (p:ah):putP p=oj++AJ p:=rfl
theorem pP {α:Type} {g:List UInt8→Int ⊕ (α×List UInt8)} {put:α→List UInt8} {P:α→Prop} (hg:∀ l x t,g l= .inr (x,t)→P x→l=put x++t):∀ (n:Nat) (l:List UInt8) (acc r:List α) (t:List UInt8),repP g n l acc= .inr (r,t)→(∀ x∈r,P x)→∃ L,r=acc++L∧L.length=n∧l=L.flatMap put++t
  | 0,l,acc,r,t,h,hP=>by
    cases h
    exact ⟨[],by simp,rfl,rfl⟩
  | n+1,l,acc,r,t,h,hP=>by
    obtain ⟨⟨x,l'⟩,h1,h2⟩:=fI h
    obtain ⟨L,e1,e2,e3⟩:=pP hg n _ _ _ _ h2 hP
    have hx:P x:=hP x (by rw [e1];simp)
    refine ⟨x::L,by rw [e1];simp,by rw [List.length_cons,e2],?_⟩
    rw [hg _ _ _ h1 hx,List.flatMap_cons,List.append_assoc]
    exact congrArg _ e3
theorem iu {l:List UInt8} {r:Nat×List UInt8} (h:numP l= .inr r):l=numL r.1++r.2:=by
  obtain ⟨h1,rfl⟩:=e8 h
  exact (eI h1).1
theorem Dd (l:List UInt8) (F:aq) (t:List UInt8) (h:fnP l= .inr (F,t)) (g:yz F):l=putF F++t:=by
  obtain ⟨a,h1,h⟩:=fI h
  obtain ⟨b,h2,h⟩:=fI h
  obtain ⟨n,h3,h⟩:=fI h
  obtain ⟨⟨c,t'⟩,h4,h⟩:=fI h
  cases h
  have ⟨g1,g2,g3,g4⟩:=g
  dsimp only at*
  obtain ⟨L,e1,e2,e3⟩:=pP (g:=gI) (put:=putI) (P:=fun _=>True) (fun l x t hh _=>by
    obtain ⟨k1,k2⟩:=e8 hh
    cases k2
    exact (xv k1).2) _ _ _ _ _ h4 (fun _ _=>trivial)
  rw [List.nil_append] at e1
  subst e1
  unfold cap at g1 g2
  unfold putF cap
  dsimp only
  rw [iu h1,iu h2,iu (ir h3).2,e3,←e2,show ((min a.1 2147483648:Nat):Int).toNat=a.1 by omega,show ((min b.1 2147483648:Nat):Int).toNat=b.1 by omega]
  simp only [List.append_assoc]
theorem AK {l:List UInt8} {p:ah} {t:List UInt8} (h:wk l= .inr (p,t)) (g:uN p):l=AJ p++t:=by
  obtain ⟨⟨d,l1⟩,h1,h⟩:=fI h
  obtain ⟨n,h2,h⟩:=fI h
  obtain ⟨⟨w,l3⟩,h3,h⟩:=fI h
  obtain ⟨m,h4,h⟩:=fI h
  obtain ⟨⟨f,l5⟩,h5,h⟩:=fI h
  cases h
  have ⟨g1,g2,g3,g4⟩:=g
  dsimp only at*
  have hD:=AE h1
  obtain ⟨k1,k2⟩:=e8 h1
  cases k2
  have e1:=(qx k1).2
  obtain ⟨W,w1,w2,w3⟩:=pP (g:=gW _) (put:=Ay) (P:=fun _=>True) (fun l x t hh _=>by
    obtain ⟨k1,k2⟩:=e8 hh
    cases k2
    exact (uM hD k1).2) _ _ _ _ _ h3 (fun _ _=>trivial)
  obtain ⟨F,f1,f2,f3⟩:=pP (g:=fnP) (put:=putF) (P:=yz) (fun l x t hh hx=>Dd l x t hh hx) _ _ _ _ _ h5 g4
  rw [List.nil_append] at w1 f1
  subst w1 f1
  unfold AJ
  dsimp only
  rw [w2,f2]
  have e2:=iu (ir h2).2
  have e4:=iu (ir h4).2
  simp only [List.append_assoc]
  rw [←f3,←e4,←w3,←e2]
  exact e1
def NZ {α:Type} (x:Int ⊕ α):Prop:=∀ e,x= .inl e→e≠0
theorem NZ.two {α:Type} (r:α×Int×List UInt8):NZ (two r):=fun e h=>(mw h).2
theorem NZ.inr {α:Type} (y:α):NZ (.inr y:Int ⊕ α):=fun e h=>by cases h
theorem NZ.sb {α β:Type} {x:Int ⊕ α} {k:α→Int ⊕ β} (h:NZ x) (hk:∀ y,NZ (k y)):NZ (sb x k):=by
  cases x with
  | inl e=>exact fun e' h'=>by cases h';exact h _ rfl
  | inr y=>exact hk y
theorem NZ.many (m:Nat) (l:List UInt8):NZ (j3 m l):=NZ.sb (NZ.two _) fun y=>by
  cases iLt (m:Int) (y.1:Int) with
  | true=>exact fun e h=>by cases h;decide
  | false=>exact NZ.inr _
theorem NZ.rep {α:Type} {g:List UInt8→Int ⊕ (α×List UInt8)} (hg:∀ l,NZ (g l)):∀ (n:Nat) (l:List UInt8) (acc:List α),NZ (repP g n l acc)
  | 0,l,acc=>NZ.inr _
  | n+1,l,acc=>NZ.sb (hg l) fun r=>NZ.rep hg n _ _
theorem NZ.fn (l:List UInt8):NZ (fnP l):=NZ.sb (NZ.two _) fun _=>NZ.sb (NZ.two _) fun _=>NZ.sb (NZ.many _ _) fun _=>NZ.sb (NZ.rep (fun _=>NZ.two _) _ _ _) fun _=>NZ.inr _
theorem BF (l:List UInt8):NZ (wk l):=NZ.sb (NZ.two _) fun _=>NZ.sb (NZ.many _ _) fun _=>NZ.sb (NZ.rep (fun _=>NZ.two _) _ _ _) fun _=>NZ.sb (NZ.many _ _) fun _=>NZ.sb (NZ.rep NZ.fn _ _ _) fun _=>NZ.inr _
theorem BG {l:List UInt8} (h:(getP l).2=0):chkP (getP l).1=0∧l=putP (getP l).1:=by
  unfold getP at h ⊢
  cases hc:sEq (bs (l.take 3)) (bs oj) with
  | false=>rw [hc] at h;exact absurd h (by decide:(2:Int)≠0)
  | true=>
    rw [hc,cond_true] at h
    rw [cond_true]
    have hh:l.take 3=oj:=by
      have:=congrArg bl (zR.1 hc)
      rwa [iB,iB] at this
    cases hp:wk (l.drop 3) with
    | inl e=>
      rw [hp] at h
      exact absurd h (BF _ _ hp)
    | inr r=>
      rw [hp,bK] at h
      rw [bK]
      unfold clP at h ⊢
      cases h0:iEq (r.2.length:Int) 0 with
      | false=>rw [h0] at h;exact absurd h (by decide:(2:Int)≠0)
      | true=>
        rw [h0,cond_true] at h
        rw [cond_true]
        by_cases hk:chkP r.1=0
        · rw [aQ hk,cond_true]
          refine ⟨hk,?_⟩
          have h3:=AK (p:=r.1) (t:=r.2) hp (uN.of hk)
          rw [cy] at h0
          rw [List.length_eq_zero_iff.1 (show r.2.length=0 by omega),List.append_nil] at h3
          show l=putP r.1
          rw [Dc,←h3,←hh,List.take_append_drop]
        · rw [aJ hk] at h
          exact absurd h hk
theorem xD (W:List (List af)) (i:Nat) (hi:i<W.length) (K:Unit→Option Bool) (hl:(W.getD i default).length≤1000):∀ (n j f:Nat),j+n=(W.getD i default).length→n<f→dY W W (i:Int) K f (j:Int)=K ()
  | n,j,0,h,hf=>by omega
  | 0,j,f+1,h,hf=>by
    rw [dY,aB (aN ⟨by omega,by omega⟩),Int.toNat_natCast,aU (by omega),cond_false]
  | n+1,j,f+1,h,hf=>by
    have h1:nIn (i:Int) (W.length:Int)=true:=aN ⟨by omega,by omega⟩
    have h2:nIn (j:Int) ((W.getD i default).length:Int)=true:=aN ⟨by omega,by omega⟩
    rw [dY,Int.toNat_natCast,aB h1,aR (by omega),cond_true,aB h1,aB h2,aB h1,aB h2,aQ rfl,aQ rfl,aQ rfl]
    simp only [Bool.and_self,Bool.not_true,cond_false]
    rw [w64 (by omega),show (j:Int)+1=((j+1:Nat):Int) by omega]
    exact xD W i hi K hl n (j+1) f (by omega) (by omega)
theorem AL (W:List (List af)) (hW:W.length≤1000) (hl:∀ l∈W,l.length≤1000):∀ (n i f:Nat),i+n=W.length→n<f→dP W W f (i:Int)=some true
  | n,i,0,hi,hf=>by omega
  | 0,i,f+1,hi,hf=>by rw [dP,aU (by omega)];rfl
  | n+1,i,f+1,hi,hf=>by
    have h1:nIn (i:Int) (W.length:Int)=true:=aN ⟨by omega,by omega⟩
    have hm:=sZ W i (by omega)
    rw [dP,aR (by omega),cond_true,dR,aB h1,aB h1,bd rfl,cond_false]
    have:=xD W i (by omega) (fun _=>dP W W f (IntKind.i64.wrap ((i:Int)+1))) (hl _ hm) (W.getD i default).length 0 fuel (by omega) (by have:=aL;have:=hl _ hm;omega)
    refine Eq.trans this ?_
    rw [w64 (by omega),show (i:Int)+1=((i+1:Nat):Int) by omega]
    exact AL W hW hl n (i+1) f (by omega) (by omega)
theorem AM {W:List (List af)} (hW:W.length≤1000) (hl:∀ l∈W,l.length≤1000):fB W W=some true:=by
  unfold fB
  rw [bd rfl,cond_false]
  exact AL W hW hl W.length 0 fuel (by omega) (by have:=aL;omega)
theorem AN {W:List (List af)} (g:yx W):fB W W=some true:=
  AM (by have:=g.len;omega) fun l hl=>by have:=(g.ways l hl).1;omega
theorem Cr (p:ah) (k:Nat) (K:Unit→Option Bool) (hl:(p.Funcs.getD k default).Code.length≤200):∀ (n i f:Nat),i+n=(p.Funcs.getD k default).Code.length→n<f→dZ p p (k:Int) K f (i:Int)=K ()
  | n,i,0,hi,hf=>by omega
  | 0,i,f+1,hi,hf=>by rw [dZ,Int.toNat_natCast,aU (by omega),cond_false]
  | n+1,i,f+1,hi,hf=>by
    have h2:nIn (i:Int) ((p.Funcs.getD k default).Code.length:Int)=true:=aN ⟨by omega,by omega⟩
    rw [dZ,Int.toNat_natCast,aR (by omega),cond_true,aB h2,aB h2,aQ rfl,aQ rfl,aQ rfl]
    simp only [Bool.and_self,Bool.not_true,cond_false]
    rw [w64 (by omega),show (i:Int)+1=((i+1:Nat):Int) by omega]
    exact Cr p k K hl n (i+1) f (by omega) (by omega)
theorem Cs (p:ah) (hF:p.Funcs.length≤16) (hc:∀ F∈p.Funcs,F.Code.length≤200):∀ (n i f:Nat),i+n=p.Funcs.length→n<f→dx p p f (i:Int)=some true
  | n,i,0,hi,hf=>by omega
  | 0,i,f+1,hi,hf=>by rw [dx,aU (by omega)];rfl
  | n+1,i,f+1,hi,hf=>by
    have h1:nIn (i:Int) (p.Funcs.length:Int)=true:=aN ⟨by omega,by omega⟩
    have hm:=hc _ (sZ p.Funcs i (by omega))
    rw [dx,aR (by omega),cond_true,dR,aB h1,aB h1,bd rfl,bd rfl,bd rfl]
    simp only [Bool.or_self,cond_false]
    have:=Cr p i (fun _=>dx p p f (IntKind.i64.wrap ((i:Int)+1))) hm (p.Funcs.getD i default).Code.length 0 fuel (by omega) (by have:=aL;omega)
    refine Eq.trans this ?_
    rw [w64 (by omega),show (i:Int)+1=((i+1:Nat):Int) by omega]
    exact Cs p hF hc n (i+1) f (by omega) (by omega)
theorem DY (p:ah) (hF:p.Funcs.length≤16) (hc:∀ F∈p.Funcs,F.Code.length≤200) (hW:p.Waits.length≤32) (hw:∀ w∈p.Waits,fB w w=some true):∀ (n i f:Nat),i+n=p.Waits.length→n<f→eC p p f (i:Int)=some true
  | n,i,0,hi,hf=>by omega
  | 0,i,f+1,hi,hf=>by
    rw [eC,aU (by omega),cond_false]
    exact Cs p hF hc p.Funcs.length 0 fuel (by omega) (by have:=aL;omega)
  | n+1,i,f+1,hi,hf=>by
    have h1:nIn (i:Int) (p.Waits.length:Int)=true:=aN ⟨by omega,by omega⟩
    rw [eC,aR (by omega),cond_true,aB h1,aB h1,Int.toNat_natCast,hw _ (sZ p.Waits i (by omega)),aj,Bool.not_true,cond_false,w64 (by omega),show (i:Int)+1=((i+1:Nat):Int) by omega]
    exact DY p hF hc hW hw n (i+1) f (by omega) (by omega)
theorem DZ (p:ah) (hF:p.Funcs.length≤16) (hc:∀ F∈p.Funcs,F.Code.length≤200) (hW:p.Waits.length≤32) (hw:∀ w∈p.Waits,fB w w=some true) (hD:p.Decls.length≤32):∀ (n i f:Nat),i+n=p.Decls.length→n<f→eD p p f (i:Int)=some true
  | n,i,0,hi,hf=>by omega
  | 0,i,f+1,hi,hf=>by
    rw [eD,aU (by omega),cond_false]
    exact DY p hF hc hW hw p.Waits.length 0 fuel (by omega) (by have:=aL;omega)
  | n+1,i,f+1,hi,hf=>by
    have h1:nIn (i:Int) (p.Decls.length:Int)=true:=aN ⟨by omega,by omega⟩
    rw [eD,aR (by omega),cond_true,aB h1,aB h1,aQ rfl,aQ rfl,aQ rfl]
    simp only [Bool.and_self,Bool.not_true,cond_false]
    rw [w64 (by omega),show (i:Int)+1=((i+1:Nat):Int) by omega]
    exact DZ p hF hc hW hw hD n (i+1) f (by omega) (by omega)
theorem D0 {p:ah} (hF:p.Funcs.length≤16) (hc:∀ F∈p.Funcs,F.Code.length≤200) (hW:p.Waits.length≤32) (hw:∀ w∈p.Waits,fB w w=some true) (hD:p.Decls.length≤32):gn p p=some true:=by
  unfold gn
  rw [bd rfl,bd rfl,bd rfl]
  simp only [Bool.or_self,cond_false]
  exact DZ p hF hc hW hw hD p.Decls.length 0 fuel (by omega) (by have:=aL;omega)
theorem yB {p:ah} (g:uN p):gn p p=some true:=
  D0 g.funcs.2 (fun F hF=>(g.fns F hF).code.2) g.waits.1 (fun w hw=>AN (g.wait w hw)) (pM g.decls).1
theorem BH:gn noP noP=some true:=D0 (by simp [noP]) (by simp [noP]) (by simp [noP]) (by simp [noP]) (by simp [noP])
end LJ
end
