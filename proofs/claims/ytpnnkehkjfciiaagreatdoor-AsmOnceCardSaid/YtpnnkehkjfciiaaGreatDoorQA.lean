/- Several texts of plain Lean, one behind the other. No condition. -/
import Derived.Test.YtpnnkehkjfciiaaGreatDoorPF
import Derived.Test.YtpnnkehkjfciiaaGreatDoorXPB
import Derived.Laws.Bits64b
import Derived.Laws.Bits128
import Derived.Lib.TrailingZeros
section
namespace LJ
open Go Go.RowKit
set_option linter.unusedVariables false
set_option linter.unusedSimpArgs false
end LJ
end
section
namespace LJ
open Go Go.RowKit
set_option linter.unusedVariables false
set_option linter.unusedSimpArgs false
def rdB (l:List UInt8) (e:Int):Int×Nat×List UInt8:=match l with
 | []=>(if e=0 then 3 else e,0,[])
 | b::t=>(e,b.toNat,t)
def rdN (l:List UInt8) (e:Int):Int×Nat×List UInt8:=if e=0 then numR 0 l else (e,0,[])
structure RdOK (s:ByteArray) (l:List UInt8) (e:Int):Prop where
 suf:l<:+bl s
 err:e≠0→l=[]
end LJ
end
section
namespace LJ
open Go Go.RowKit
set_option linter.unusedVariables false
set_option linter.unusedSimpArgs false
def capN (r:Int×Nat×List UInt8):Nat:=min r.2.1 2147483648
end LJ
end
section
namespace LJ
open Go Go.RowKit
set_option linter.unusedVariables false
set_option linter.unusedSimpArgs false
theorem aP {α:Type} (b:Bool) (x y:α):cond b (some x) (some y)=some (cond b x y):=by cases b <;> rfl
theorem uW (a b:Int):iEq a b=iEq b a:=by
 unfold iEq
 by_cases h:a=b
 ·subst h;rfl
 ·rw [decide_eq_false h,decide_eq_false (fun h'=>h h'.symm)]
def fitW (a:Int):Bool:=iLe (-2147483648) a&&iLt a 2147483648
theorem j6 (a:Int):fy a=some (fitW a):=by
 unfold fy fitW
 congr 1
 rw [Bool.eq_iff_iff]
 simp only [fS,Bool.and_eq_true,dW,dx]
 have h:=IntKind.wrap_i32 a
 have h2: -2147483648≤IntKind.i32.wrap a∧IntKind.i32.wrap a<2147483648:=by
  rw [h];omega
 rw [w64 (by omega),h]
 omega
theorem hI {α:Type} (b:Bool) (x y:α):cond (!b) x y=cond b y x:=by cases b <;> rfl
theorem ji (a:Int):fv a=some (fitW a):=rfl
theorem aV {α:Type} [Inhabited α] (L:List α) (i:Nat) (h:i<L.length):L.drop i=L.getD i default::L.drop (i+1):=by
 rw [List.drop_eq_getElem_cons h]
 simp [List.getD_eq_getElem?_getD,h]
end LJ
end
section
namespace LJ
open Go Go.RowKit
set_option linter.unusedVariables false
set_option linter.unusedSimpArgs false
def fitK (c k:Int):Bool:=
 cond (iEq c 117) (iEq k 1||iEq k 2) (cond (iEq c 115) (iEq k 3) (cond (iEq c 112) (iEq k 6) (cond (iEq c 99) (iEq k 4) (cond (iEq c 109) (iEq k 1) (cond (iEq c 98) (iEq k 5) (cond (iEq c 118) (iEq k 7) (cond (iEq c 113) (iEq k 1||iEq k 6) false)))))))
def fitD (L:List af) (c o:Int):Bool:=cond (iLt o 0||iLe (L.length:Int) o) false (fitK c (L.getD o.toNat default).Kind)
theorem j7 (L:List af) (c o:Int):dt L c o=some (fitD L c o):=by
 unfold dt fitD
 cases h:(iLt o 0||iLe (L.length:Int) o) with
 | true=>rfl
 | false=>
  simp only [Bool.or_eq_false_iff,bc,fi] at h
  rw [cond_false,cond_false,an (aH ⟨h.1,h.2⟩)]
  simp only [aP]
  rfl
def j8 (c:Int):List Int:=
 cond (iEq c 117) [1,2] (cond (iEq c 115) [3] (cond (iEq c 112) [6] (cond (iEq c 99) [4] (cond (iEq c 109) [1] (cond (iEq c 98) [5] (cond (iEq c 118) [7] (cond (iEq c 113) [1,6] [])))))))
theorem uX (c:Int):eZ c=some (j8 c):=by
 obtain ⟨f,hf⟩:∃ f,fuel=f+9:=⟨fuel - 9,by have:=aJ;omega⟩
 unfold eZ j8
 rw [hf]
 have w:∀ n:Int,0≤n→n<9→IntKind.i64.wrap (n+1)=n+1:=fun n h0 h1=>w64 (by omega)
 have step:∀ (k:Nat) (i:Int) (b:Int) (l:List Int),0≤i→i<8→bf (⟨#[117,115,112,99,109,98,118,113]⟩:ByteArray) i.toNat=b→([[1,2],[3],[6],[4],[1],[5],[7],[1,6]]:List (List Int)).getD i.toNat default=l→bT c (k+1) i=cond (iEq c b) (some l) (bT c k (i+1)):=fun k i b l h0 h1 hb hl=>by
  rw [bT,show ((⟨#[117,115,112,99,109,98,118,113]⟩:ByteArray).size:Int)=8 from rfl,show (([[1,2],[3],[6],[4],[1],[5],[7],[1,6]]:List (List Int)).length:Int)=8 from rfl,aY h1,cond_true,an (aH ⟨h0,h1⟩),an (aH ⟨h0,h1⟩),hb,hl,uW b c,w i h0 (by omega)]
 rw [step (f+8) 0 117 [1,2] (by decide) (by decide) (by decide) (by decide),step (f+7) (0+1) 115 [3] (by decide) (by decide) (by decide) (by decide),step (f+6) (0+1+1) 112 [6] (by decide) (by decide) (by decide) (by decide),step (f+5) (0+1+1+1) 99 [4] (by decide) (by decide) (by decide) (by decide),step (f+4) (0+1+1+1+1) 109 [1] (by decide) (by decide) (by decide) (by decide),step (f+3) (0+1+1+1+1+1) 98 [5] (by decide) (by decide) (by decide) (by decide),step (f+2) (0+1+1+1+1+1+1) 118 [7] (by decide) (by decide) (by decide) (by decide),step (f+1) (0+1+1+1+1+1+1+1) 113 [1,6] (by decide) (by decide) (by decide) (by decide)]
 rw [bT,bk (by decide),cond_false]
 simp only [aP]
theorem tw (L:List af) (o:Int) (ks:List Int) (ho:0≤o∧o<L.length) (hk:ks.length≤100):∀ (n i f:Nat),i+n=ks.length→n<f→cu L o ks f (i:Int)=some ((ks.drop i).any fun k=>iEq (L.getD o.toNat default).Kind k)
 | n,i,0,hi,hf=>by omega
 | 0,i,f+1,hi,hf=>by
  rw [cu,bk (by omega),List.drop_eq_nil_of_le (by omega)]
  rfl
 | n+1,i,f+1,hi,hf=>by
  rw [cu,aY (by omega),nA ho.1,aY ho.2]
  simp only [Bool.and_self,cond_true]
  rw [an (aH ho),an (aH ⟨by omega,by omega⟩),Int.toNat_natCast,List.drop_eq_getElem_cons (by omega),List.any_cons]
  have e:ks.getD i default=ks[i]:=by simp [List.getD_eq_getElem?_getD,show i<ks.length by omega]
  rw [e]
  cases h:iEq (L.getD o.toNat default).Kind ks[i] with
  | true=>rfl
  | false=>
   rw [cond_false,w64 (by omega),show (i:Int)+1=((i+1:Nat):Int) by omega,tw L o ks ho hk n (i+1) f (by omega) (by omega)]
   rfl
theorem nL (L:List af) (c o:Int):fw L c o=some (fitD L c o):=by
 unfold fw fitD
 rw [uX,ah]
 have hk:(j8 c).length≤100:=by
  unfold j8
  repeat' (first | (cases iEq c _ <;> simp only [cond_true,cond_false]) | decide)
 cases h:(iLt o 0||iLe (L.length:Int) o) with
 | true=>
  obtain ⟨f,hf⟩:=uP
  rw [hf,cu]
  have:((iLt 0 ((j8 c).length:Int)&&iLe 0 o)&&iLt o (L.length:Int))=false:=by
   simp only [Bool.or_eq_true,dx,dW] at h
   simp only [Bool.and_eq_false_iff,bc,fi]
   omega
  rw [this]
  rfl
 | false=>
  simp only [Bool.or_eq_false_iff,bc,fi] at h
  have:=tw L o (j8 c) ⟨h.1,h.2⟩ hk (j8 c).length 0 fuel (by omega) (by have:=aJ;omega)
  rw [show (0:Int)=((0:Nat):Int) from rfl,this,cond_false]
  congr 1
  generalize (L.getD o.toNat default).Kind=k
  unfold j8 fitK
  rw [List.drop_zero]
  repeat' (first | (cases iEq c _ <;> simp only [cond_true,cond_false]) | simp [Bool.or_false])
def badD (L:List af) (d:af):Int:=
 cond (iEq d.Kind 3) (cond (iLe 1 d.B&&iLe d.B 1000&&iLe 0 d.A&&iLe d.A d.B) 0 1) (cond (iEq d.Kind 6) (cond (iLe 1 d.A&&iLe d.A 1000) (cond (iEq d.B 0) 0 2) 1)
  (cond (iEq d.Kind 7) (cond (fitW d.A&&fitD L 117 d.B) 0 1) (cond (iEq d.Kind 1||iEq d.Kind 2||iEq d.Kind 4||iEq d.Kind 5) (cond (iEq d.A 0&&iEq d.B 0) 0 2) 6)))
theorem qe (L:List af) (d:af):i9 L d=some (badD L d):=by
 unfold i9 badD fx
 rw [j6,j7]
 simp only [ah,hI,aP]
 cases h3:iEq d.Kind 3 with
 | true=>simp only [cond_true];
 | false=>
  cases h6:iEq d.Kind 6 with
  | true=>simp only [cond_true,cond_false]
  | false=>
   cases h7:iEq d.Kind 7 with
   | true=>
    simp only [cond_true,cond_false]
    cases fitW d.A <;> simp [aP]
   | false=>
    simp only [cond_false]
    cases h1:iEq d.Kind 1 <;> cases h2:iEq d.Kind 2 <;> cases h4:iEq d.Kind 4 <;> cases h5:iEq d.Kind 5 <;> rfl
theorem oY (L:List af) (d:af):gD L d=some (badD L d):=by
 unfold gD badD
 rw [ji,nL]
 by_cases h:d.Kind<1∨7<d.Kind
 ·rw [show (iLt d.Kind 1||iLt 7 d.Kind)=true by simp only [Bool.or_eq_true,dx];exact h,cond_true]
  rw [cy (show d.Kind≠3 by omega),cy (show d.Kind≠6 by omega),cy (show d.Kind≠7 by omega),cy (show d.Kind≠1 by omega),cy (show d.Kind≠2 by omega),cy (show d.Kind≠4 by omega),cy (show d.Kind≠5 by omega)]
  rfl
 ·rw [show (iLt d.Kind 1||iLt 7 d.Kind)=false by simp only [Bool.or_eq_false_iff,bc];omega,cond_false]
  have ne:∀ a b:Int,iNe a b= !iEq a b:=fun a b=>by unfold iNe iEq;simp
  have lt:∀ a b:Int,iLt a b= !iLe b a:=fun a b=>by
   unfold iLt iLe
   by_cases hab:a<b
   ·rw [decide_eq_true hab,decide_eq_false (by omega)];rfl
   ·rw [decide_eq_false hab,decide_eq_true (by omega)];rfl
  have cases7:d.Kind=1∨d.Kind=2∨d.Kind=3∨d.Kind=4∨d.Kind=5∨d.Kind=6∨d.Kind=7:=by omega
  simp only [ne,lt]
  rcases cases7 with e | e | e | e | e | e | e <;> rw [e] <;> simp only [show iEq 1 3=false from rfl,show iEq 1 6=false from rfl,show iEq 1 7=false from rfl,show iEq 1 1=true from rfl,show iEq 2 3=false from rfl,show iEq 2 6=false from rfl,show iEq 2 7=false from rfl,show iEq 2 1=false from rfl,show iEq 2 2=true from rfl,show iEq 3 3=true from rfl,show iEq 3 6=false from rfl,show iEq 3 7=false from rfl,show iEq 4 3=false from rfl,show iEq 4 6=false from rfl,show iEq 4 7=false from rfl,show iEq 4 1=false from rfl,show iEq 4 2=false from rfl,show iEq 4 4=true from rfl,show iEq 5 3=false from rfl,show iEq 5 6=false from rfl,show iEq 5 7=false from rfl,show iEq 5 1=false from rfl,show iEq 5 2=false from rfl,show iEq 5 4=false from rfl,show iEq 5 5=true from rfl,show iEq 6 3=false from rfl,show iEq 6 6=true from rfl,show iEq 6 7=false from rfl,show iEq 7 3=false from rfl,show iEq 7 6=false from rfl,show iEq 7 7=true from rfl,cond_true,cond_false,Bool.false_and,Bool.true_and,Bool.not_true,Bool.not_false,Bool.or_false,Bool.false_or,Bool.or_true,Bool.true_or,ah,Bool.not_not,Bool.and_false,Bool.and_true]
  all_goals first
   | rfl
   | (cases fitW d.A <;> simp [aP] <;> (cases fitD L 117 d.B <;> rfl))
   | (cases iLe 1 d.B <;> cases iLe d.B 1000 <;> cases iLe 0 d.A <;> cases iLe d.A d.B <;> rfl)
   | (cases iLe 1 d.A <;> cases iLe d.A 1000 <;> cases iEq d.B 0 <;> rfl)
   | (cases iEq d.A 0 <;> cases iEq d.B 0 <;> rfl)
def chkD (L:List af):List af→Int→Int×Int
 | [],_=>(0,0)
 | d::t,i=>cond (iNe (badD L d) 0) (i,badD L d) (chkD L t (i+1))
def chkL (L:List af):Int×Int:=cond (iLt 32 (L.length:Int)) (0,4) (chkD L L 0)
theorem gr (L:List af) (hL:L.length≤32):∀ (n i f:Nat),i+n=L.length→n<f→cP L f (i:Int)=some (chkD L (L.drop i) (i:Int))
 | n,i,0,hi,hf=>by omega
 | 0,i,f+1,hi,hf=>by
  rw [cP,bk (by omega),List.drop_eq_nil_of_le (by omega)]
  rfl
 | n+1,i,f+1,hi,hf=>by
  rw [cP,aY (by omega),cond_true,an (aH ⟨by omega,by omega⟩),Int.toNat_natCast,qe,ah,aV L i (by omega),chkD,w64 (by omega),show (i:Int)+1=((i+1:Nat):Int) by omega,gr L hL n (i+1) f (by omega) (by omega),aP]
theorem nM (L:List af):fz L=some (chkL L):=by
 unfold fz chkL
 by_cases h:32<(L.length:Int)
 ·rw [aY h];rfl
 ·rw [bk (by omega),cond_false,cond_false]
  exact gr L (by omega) L.length 0 fuel (by omega) (by have:=aJ;omega)
theorem fE (L:List af) (hL:L.length≤32):∀ (n i f:Nat),i+n=L.length→n<f→cz L f (i:Int)=some (chkD L (L.drop i) (i:Int))
 | n,i,0,hi,hf=>by omega
 | 0,i,f+1,hi,hf=>by
  rw [cz,bk (by omega),List.drop_eq_nil_of_le (by omega)]
  rfl
 | n+1,i,f+1,hi,hf=>by
  rw [cz,aY (by omega),cond_true,an (aH ⟨by omega,by omega⟩),Int.toNat_natCast,oY,ah,aV L i (by omega),chkD,w64 (by omega),show (i:Int)+1=((i+1:Nat):Int) by omega,fE L hL n (i+1) f (by omega) (by omega),aP]
theorem me (L:List af):e7 L=some (chkL L):=by
 unfold e7 chkL
 by_cases h:32<(L.length:Int)
 ·rw [aY h];rfl
 ·rw [bk (by omega),cond_false,cond_false]
  exact fE L (by omega) L.length 0 fuel (by omega) (by have:=aJ;omega)
end LJ
end
section
namespace LJ
open Go Go.RowKit
set_option linter.unusedVariables false
set_option linter.unusedSimpArgs false
structure RngD (d:af):Prop where
 k:1≤d.Kind∧d.Kind≤7
 a: -2147483648≤d.A∧d.A<2147483648
 b:0≤d.B∧d.B<2147483648
 a0:d.Kind≠7→0≤d.A
 az:d.Kind≠3→d.Kind≠6→d.Kind≠7→d.A=0
 bz:d.Kind≠3→d.Kind≠7→d.B=0
theorem uY {L:List af} {c o:Int} (h:fitD L c o=true):0≤o∧o<L.length:=by
 unfold fitD at h
 cases hb:(iLt o 0||iLe (L.length:Int) o) with
 | true=>rw [hb] at h;cases h
 | false=>simp only [Bool.or_eq_false_iff,bc,fi] at hb;omega
theorem RngD.of {L:List af} (hL:L.length≤32) {d:af} (h:badD L d=0):RngD d:=by
 unfold badD at h
 by_cases h3:d.Kind=3
 ·rw [cW h3,cond_true] at h
  cases hb:(iLe 1 d.B&&iLe d.B 1000&&iLe 0 d.A&&iLe d.A d.B) with
  | false=>rw [hb] at h;cases h
  | true=>
   simp only [Bool.and_eq_true,dW] at hb
   constructor <;> omega
 ·rw [cy h3,cond_false] at h
  by_cases h6:d.Kind=6
  ·rw [cW h6,cond_true] at h
   cases hb:(iLe 1 d.A&&iLe d.A 1000) with
   | false=>rw [hb] at h;cases h
   | true=>
    rw [hb,cond_true] at h
    cases hz:iEq d.B 0 with
    | false=>rw [hz] at h;cases h
    | true=>
     simp only [Bool.and_eq_true,dW] at hb
     rw [fS] at hz
     constructor <;> omega
  ·rw [cy h6,cond_false] at h
   by_cases h7:d.Kind=7
   ·rw [cW h7,cond_true] at h
    cases hb:(fitW d.A&&fitD L 117 d.B) with
    | false=>rw [hb] at h;cases h
    | true=>
     simp only [Bool.and_eq_true] at hb
     have h2:=uY hb.2
     have h1:=hb.1
     unfold fitW at h1
     simp only [Bool.and_eq_true,dW,dx] at h1
     constructor <;> omega
   ·rw [cy h7,cond_false] at h
    cases hb:(iEq d.Kind 1||iEq d.Kind 2||iEq d.Kind 4||iEq d.Kind 5) with
    | false=>rw [hb] at h;cases h
    | true=>
     rw [hb,cond_true] at h
     cases hz:(iEq d.A 0&&iEq d.B 0) with
     | false=>rw [hz] at h;cases h
     | true=>
      simp only [Bool.or_eq_true,Bool.and_eq_true,fS] at hb hz
      constructor <;> omega
theorem qf {L:List af} :∀ {M:List af} {i:Int},(chkD L M i).2=0→∀ d∈M,badD L d=0
 | [],i,h=>fun d hd=>by cases hd
 | x::M,i,h=>by
  unfold chkD at h
  by_cases hx:badD L x=0
  ·rw [df hx,cond_false] at h
   intro d hd
   rcases List.mem_cons.1 hd with rfl | hd
   ·exact hx
   ·exact qf h d hd
  ·rw [eu hx,cond_true] at h
   exact absurd h hx
theorem oZ {L:List af} :∀ {M:List af} {i:Int},(∀ d∈M,badD L d=0)→chkD L M i=(0,0)
 | [],i,h=>rfl
 | x::M,i,h=>by
  unfold chkD
  rw [df (h x (List.mem_cons_self ..)),cond_false]
  exact oZ fun d hd=>h d (List.mem_cons_of_mem _ hd)
theorem qg {L:List af} (h:(chkL L).2=0):L.length≤32∧chkL L=(0,0)∧(∀ d∈L,badD L d=0)∧∀ d∈L,RngD d:=by
 unfold chkL at h ⊢
 by_cases hl:32<(L.length:Int)
 ·rw [aY hl,cond_true] at h;cases h
 ·rw [bk (by omega),cond_false] at h ⊢
  have h1:=qf h
  exact ⟨by omega,oZ h1,h1,fun d hd=>RngD.of (by omega) (h1 d hd)⟩
def putD (d:af):List UInt8:=UInt8.ofNat d.Kind.toNat::(if d.Kind=3 then numL d.A.toNat++numL d.B.toNat else if d.Kind=6 then numL d.A.toNat else if d.Kind=7 then numL (zig d.A)++numL d.B.toNat else [])
def yi (L:List af):List UInt8:=numL L.length++L.flatMap putD
end LJ
end
section
namespace LJ
open Go Go.RowKit
set_option linter.unusedVariables false
set_option linter.unusedSimpArgs false
def wC (b:UInt8) (t:List UInt8):af×Int×List UInt8:=
 cond (iLt (b.toNat:Int) 1||iLt 7 (b.toNat:Int)) (⟨b.toNat,0,0⟩,6,t)
  (cond (iEq (b.toNat:Int) 3) (⟨b.toNat,capN (rdN t 0),capN (rdN (rdN t 0).2.2 (rdN t 0).1)⟩,(rdN (rdN t 0).2.2 (rdN t 0).1).1,(rdN (rdN t 0).2.2 (rdN t 0).1).2.2)
  (cond (iEq (b.toNat:Int) 6) (⟨b.toNat,capN (rdN t 0),0⟩,(rdN t 0).1,(rdN t 0).2.2)
  (cond (iEq (b.toNat:Int) 7) (⟨b.toNat,zag (rdN t 0).2.1,capN (rdN (rdN t 0).2.2 (rdN t 0).1)⟩,(rdN (rdN t 0).2.2 (rdN t 0).1).1,(rdN (rdN t 0).2.2 (rdN t 0).1).2.2)
  (⟨b.toNat,0,0⟩,0,t))))
def ra:List UInt8→af×Int×List UInt8
 | []=>(⟨0,0,0⟩,3,[])
 | b::t=>wC b t
def iw:Nat→List UInt8→List af→List af×Int×List UInt8
 | 0,l,acc=>(acc,0,l)
 | n+1,l,acc=>cond (iEq (ra l).2.1 0) (iw n (ra l).2.2 (acc++[(ra l).1])) ([],(ra l).2.1,[])
def yj (l:List UInt8):List af×Int×List UInt8:=
 cond (iEq (rdN l 0).1 0) (cond (iLt 32 ((rdN l 0).2.1:Int)) ([],4,[])
  (cond (iEq (iw (rdN l 0).2.1 (rdN l 0).2.2 []).2.1 0)
   (cond (iEq (chkL (iw (rdN l 0).2.1 (rdN l 0).2.2 []).1).2 0) ((iw (rdN l 0).2.1 (rdN l 0).2.2 []).1,0,(iw (rdN l 0).2.1 (rdN l 0).2.2 []).2.2) ([],(chkL (iw (rdN l 0).2.1 (rdN l 0).2.2 []).1).2,[]))
   ([],(iw (rdN l 0).2.1 (rdN l 0).2.2 []).2.1,[])))
  ([],(rdN l 0).1,[])
end LJ
end
section
namespace LJ
open Go Go.RowKit
set_option linter.unusedVariables false
set_option linter.unusedSimpArgs false
def ed:List ByteArray:=[(⟨#[112,117,115,104]⟩:ByteArray),(⟨#[108,111,97,100]⟩:ByteArray),(⟨#[115,116,111,114,101]⟩:ByteArray),(⟨#[97,100,100]⟩:ByteArray),(⟨#[115,117,98]⟩:ByteArray),(⟨#[109,117,108]⟩:ByteArray),(⟨#[100,105,118]⟩:ByteArray),(⟨#[109,111,100]⟩:ByteArray),(⟨#[110,101,103]⟩:ByteArray),(⟨#[108,116]⟩:ByteArray),(⟨#[101,113]⟩:ByteArray),(⟨#[97,110,100]⟩:ByteArray),(⟨#[111,114]⟩:ByteArray),(⟨#[120,111,114]⟩:ByteArray),(⟨#[115,104,108]⟩:ByteArray),(⟨#[115,104,114]⟩:ByteArray),(⟨#[100,117,112]⟩:ByteArray),(⟨#[100,114,111,112]⟩:ByteArray),(⟨#[106,117,109,112]⟩:ByteArray),(⟨#[122,101,114,111]⟩:ByteArray),(⟨#[99,97,108,108]⟩:ByteArray),(⟨#[114,101,116]⟩:ByteArray),(⟨#[115,101,108,102]⟩:ByteArray),(⟨#[110,111,119]⟩:ByteArray),(⟨#[111,117,116]⟩:ByteArray),(⟨#[121,105,101,108,100]⟩:ByteArray),(⟨#[119,97,105,116]⟩:ByteArray),(⟨#[119,97,105,116,102,111,114]⟩:ByteArray),(⟨#[115,108,101,101,112]⟩:ByteArray),(⟨#[117,110,108,111,99,107]⟩:ByteArray),(⟨#[112,111,115,116]⟩:ByteArray),(⟨#[103,105,118,101]⟩:ByteArray),(⟨#[99,119,97,105,116]⟩:ByteArray),(⟨#[99,119,97,105,116,102,111,114]⟩:ByteArray),(⟨#[115,105,103,110,97,108]⟩:ByteArray),(⟨#[98,114,111,97,100,99,97,115,116]⟩:ByteArray),(⟨#[101,110,114,111,108]⟩:ByteArray),(⟨#[108,101,97,118,101]⟩:ByteArray),(⟨#[97,114,114,105,118,101]⟩:ByteArray),(⟨#[97,114,114,105,118,101,102,111,114]⟩:ByteArray),(⟨#[115,112,97,119,110]⟩:ByteArray),(⟨#[106,111,105,110]⟩:ByteArray),(⟨#[106,111,105,110,102,111,114]⟩:ByteArray),(⟨#[103,114,97,110,116]⟩:ByteArray),(⟨#[119,97,105,118,101]⟩:ByteArray),(⟨#[114,101,97,100]⟩:ByteArray),(⟨#[119,114,105,116,101]⟩:ByteArray),(⟨#[98,101,103,105,110]⟩:ByteArray),(⟨#[99,111,109,109,105,116]⟩:ByteArray),(⟨#[99,108,97,105,109]⟩:ByteArray),(⟨#[100,101,97,100]⟩:ByteArray),(⟨#[109,101,110,100]⟩:ByteArray)]
def ly:List ByteArray:=[(⟨#[110]⟩:ByteArray),(⟨#[107]⟩:ByteArray),(⟨#[107]⟩:ByteArray),ByteArray.empty,ByteArray.empty,ByteArray.empty,ByteArray.empty,ByteArray.empty,ByteArray.empty,ByteArray.empty,ByteArray.empty,ByteArray.empty,ByteArray.empty,ByteArray.empty,ByteArray.empty,ByteArray.empty,ByteArray.empty,ByteArray.empty,(⟨#[116]⟩:ByteArray),(⟨#[116]⟩:ByteArray),(⟨#[102]⟩:ByteArray),ByteArray.empty,ByteArray.empty,ByteArray.empty,ByteArray.empty,ByteArray.empty,(⟨#[119]⟩:ByteArray),(⟨#[119]⟩:ByteArray),ByteArray.empty,(⟨#[117]⟩:ByteArray),(⟨#[115]⟩:ByteArray),(⟨#[112]⟩:ByteArray),(⟨#[99,109]⟩:ByteArray),(⟨#[99,109]⟩:ByteArray),(⟨#[99]⟩:ByteArray),(⟨#[99]⟩:ByteArray),(⟨#[98]⟩:ByteArray),(⟨#[98]⟩:ByteArray),(⟨#[98]⟩:ByteArray),(⟨#[98]⟩:ByteArray),(⟨#[102]⟩:ByteArray),(⟨#[106,106]⟩:ByteArray),(⟨#[106,106]⟩:ByteArray),ByteArray.empty,ByteArray.empty,(⟨#[118]⟩:ByteArray),(⟨#[118]⟩:ByteArray),ByteArray.empty,ByteArray.empty,(⟨#[113]⟩:ByteArray),(⟨#[109]⟩:ByteArray),(⟨#[109]⟩:ByteArray)]
def jj:List ByteArray:=[(⟨#[110]⟩:ByteArray),(⟨#[107]⟩:ByteArray),(⟨#[107]⟩:ByteArray),(⟨#[46]⟩:ByteArray),(⟨#[46]⟩:ByteArray),(⟨#[46]⟩:ByteArray),(⟨#[46]⟩:ByteArray),(⟨#[46]⟩:ByteArray),(⟨#[46]⟩:ByteArray),(⟨#[46]⟩:ByteArray),(⟨#[46]⟩:ByteArray),(⟨#[46]⟩:ByteArray),(⟨#[46]⟩:ByteArray),(⟨#[46]⟩:ByteArray),(⟨#[46]⟩:ByteArray),(⟨#[46]⟩:ByteArray),(⟨#[46]⟩:ByteArray),(⟨#[46]⟩:ByteArray),(⟨#[116]⟩:ByteArray),(⟨#[116]⟩:ByteArray),(⟨#[102]⟩:ByteArray),(⟨#[46]⟩:ByteArray),(⟨#[46]⟩:ByteArray),(⟨#[46]⟩:ByteArray),(⟨#[46]⟩:ByteArray),(⟨#[46]⟩:ByteArray),(⟨#[119]⟩:ByteArray),(⟨#[119]⟩:ByteArray),(⟨#[46]⟩:ByteArray),(⟨#[117]⟩:ByteArray),(⟨#[115]⟩:ByteArray),(⟨#[112]⟩:ByteArray),(⟨#[99,109]⟩:ByteArray),(⟨#[99,109]⟩:ByteArray),(⟨#[99]⟩:ByteArray),(⟨#[99]⟩:ByteArray),(⟨#[98]⟩:ByteArray),(⟨#[98]⟩:ByteArray),(⟨#[98]⟩:ByteArray),(⟨#[98]⟩:ByteArray),(⟨#[102]⟩:ByteArray),(⟨#[106,106]⟩:ByteArray),(⟨#[106,106]⟩:ByteArray),(⟨#[46]⟩:ByteArray),(⟨#[46]⟩:ByteArray),(⟨#[118]⟩:ByteArray),(⟨#[118]⟩:ByteArray),(⟨#[46]⟩:ByteArray),(⟨#[46]⟩:ByteArray),(⟨#[113]⟩:ByteArray),(⟨#[109]⟩:ByteArray),(⟨#[109]⟩:ByteArray)]
theorem fX:ed.length=52:=by decide
theorem qh:ly.length=52:=by decide
theorem o0:jj.length=52:=by decide
theorem j9:cB (⟨#[112,117,115,104,32,108,111,97,100,32,115,116,111,114,101,32,97,100,100,32,115,117,98,32,109,117,108,32,100,105,118,32,109,111,100,32,110,101,103,32,108,116,32,101,113,32,97,110,100,32,111,114,32,120,111,114,32,115,104,108,32,115,104,114,32,100,117,112,32,100,114,111,112,32,106,117,109,112,32,122,101,114,111,32,99,97,108,108,32,114,101,116,32,115,101,108,102,32,110,111,119,32,111,117,116,32,121,105,101,108,100,32,119,97,105,116,32,119,97,105,116,102,111,114,32,115,108,101,101,112,32,117,110,108,111,99,107,32,112,111,115,116,32,103,105,118,101,32,99,119,97,105,116,32,99,119,97,105,116,102,111,114,32,115,105,103,110,97,108,32,98,114,111,97,100,99,97,115,116,32,101,110,114,111,108,32,108,101,97,118,101,32,97,114,114,105,118,101,32,97,114,114,105,118,101,102,111,114,32,115,112,97,119,110,32,106,111,105,110,32,106,111,105,110,102,111,114,32,103,114,97,110,116,32,119,97,105,118,101,32,114,101,97,100,32,119,114,105,116,101,32,98,101,103,105,110,32,99,111,109,109,105,116,32,99,108,97,105,109,32,100,101,97,100,32,109,101,110,100]⟩:ByteArray)=some ed:=by decide+kernel
theorem o3:cB (⟨#[110,32,107,32,107,32,46,32,46,32,46,32,46,32,46,32,46,32,46,32,46,32,46,32,46,32,46,32,46,32,46,32,46,32,46,32,116,32,116,32,102,32,46,32,46,32,46,32,46,32,46,32,119,32,119,32,46,32,117,32,115,32,112,32,99,109,32,99,109,32,99,32,99,32,98,32,98,32,98,32,98,32,102,32,106,106,32,106,106,32,46,32,46,32,118,32,118,32,46,32,46,32,113,32,109,32,109]⟩:ByteArray)=some jj:=by decide+kernel
def opK (k:Int):Bool:=iLe 0 k&&iLt k 52
theorem eH {k:Int} :opK k=true↔0≤k∧k<52:=by unfold opK;simp only [Bool.and_eq_true,dW,dx]
theorem lz (k:Int):jc k=some (opK k):=rfl
theorem ij (k:Int):dX k=some (opK k):=by
 unfold dX opK
 congr 1
 have:iLe k 51=iLt k 52:=by unfold iLe iLt;congr 1;rw [eq_iff_iff];omega
 rw [this]
def iy (k:Int):ByteArray:=cond (opK k) (ed.getD k.toNat default) ByteArray.empty
def dk (k:Int):ByteArray:=cond (opK k) (ly.getD k.toNat default) ByteArray.empty
theorem mQ (k:Int):jJ k=some (iy k):=by
 unfold jJ iy
 rw [lz,ah,j9,ah]
 cases h:opK k with
 | false=>rfl
 | true=>
  have:=eH.1 h
  rw [Bool.not_true,cond_false,cond_true,an (aH (by rw [fX];omega))]
theorem tx:∀ k:Fin 52,cond (sEq (jj.getD k default) (⟨#[46]⟩:ByteArray)) ByteArray.empty (jj.getD k default)=ly.getD k default:=by decide+kernel
theorem hJ (k:Int):iu k=some (dk k):=by
 unfold iu dk
 rw [lz,ah,o3,ah]
 cases h:opK k with
 | false=>rfl
 | true=>
  have hk:=eH.1 h
  rw [Bool.not_true,cond_false,cond_true,an (aH (by rw [o0];omega))]
  have:=tx ⟨k.toNat,by omega⟩
  dsimp only at this
  rw [←this]
  cases sEq (jj.getD k.toNat default) (⟨#[46]⟩:ByteArray) <;> rfl
theorem uZ:∀ k:Fin 52,ed.getD k default≠ByteArray.empty:=by decide+kernel
theorem qi (k:Int):sEq (iy k) ByteArray.empty= !opK k:=by
 unfold iy
 cases h:opK k with
 | false=>exact pS rfl
 | true=>
  have hk:=eH.1 h
  exact tb (uZ ⟨k.toNat,by omega⟩)
end LJ
end
section
namespace LJ
open Go Go.RowKit
set_option linter.unusedVariables false
set_option linter.unusedSimpArgs false
theorem rM:∀ k:Fin 52,(ly.getD k default).size≤2:=by decide+kernel
theorem fF (k:Int):(dk k).size≤2:=by
 unfold dk
 cases h:opK k with
 | false=>simp
 | true=>
  have hk:=eH.1 h
  exact rM ⟨k.toNat,by omega⟩
theorem mg:fT=some ly:=rfl
theorem nN (k:Int):eW k=some (dk k):=by
 unfold eW dk
 rw [ij,ah,mg,ah]
 cases h:opK k with
 | false=>rfl
 | true=>
  have:=eH.1 h
  rw [Bool.not_true,cond_false,cond_true,an (aH (by rw [qh];omega))]
def inL (c n:Int):Bool:=
 cond (iEq c 110) (fitW n) (cond (iEq c 107) (iLe 0 n&&iLt n 8) (cond (iEq c 116) (iLe 0 n&&iLt n 200) (cond (iEq c 102) (iLe 0 n&&iLt n 16) (cond (iEq c 106) (iLe 1 n&&iLe n 4) (iLe 0 n&&iLt n 32)))))
theorem tz (c n:Int):oV c n=some (inL c n):=by
 unfold oV inL
 rw [j6,ah]
 simp only [aP]
 congr 1
 by_cases h:c=119
 ·subst h;rfl
 ·rw [cy h];rfl
def qj (c:Int):Int:=cond (iEq c 107) 7 (cond (iEq c 116) 199 (cond (iEq c 102) 15 (cond (iEq c 106) 4 31)))
def lA (c:Int):Int:=cond (iEq c 106) 1 0
theorem wD (c:Int):eX c=some (qj c):=by
 unfold eX qj
 simp only [aP]
theorem u0 (c:Int):dY c=some (lA c):=by
 unfold dY lA
 simp only [aP]
theorem o4 (c n:Int):inL c n=cond (iEq c 110) (fitW n) (!(iLt n (lA c))&& !(iLt (qj c) n)):=by
 have key:∀ a b:Int,(!(iLt n a)&& !(iLt b n))=(iLe a n&&iLt n (b+1)):=fun a b=>by
  rw [Bool.eq_iff_iff]
  simp only [Bool.and_eq_true,Bool.not_eq_true',bc,dW,dx]
  omega
 unfold inL lA qj
 cases iEq c 110 with
 | true=>rfl
 | false=>
  rw [cond_false,cond_false]
  by_cases h1:c=107
  ·subst h1;exact (key 0 7).symm
  ·rw [cy h1]
   by_cases h2:c=116
   ·subst h2;exact (key 0 199).symm
   ·rw [cy h2]
    by_cases h3:c=102
    ·subst h3;exact (key 0 15).symm
    ·rw [cy h3]
     by_cases h4:c=106
     ·subst h4
      rw [cW rfl]
      simp only [cond_true,cond_false]
      rw [key 1 4,Bool.eq_iff_iff]
      simp only [Bool.and_eq_true,dW,dx]
      omega
     ·rw [cy h4];exact (key 0 31).symm
theorem nO {c n:Int} (h:inL c n=true): -2147483648≤n∧n<2147483648∧(c≠110→0≤n):=by
 rw [o4] at h
 by_cases hc:c=110
 ·rw [cW hc,cond_true] at h
  unfold fitW at h
  simp only [Bool.and_eq_true,dW,dx] at h
  exact ⟨h.1,h.2,fun h'=>absurd hc h'⟩
 ·rw [cy hc,cond_false] at h
  simp only [Bool.and_eq_true,Bool.not_eq_true',bc] at h
  have h1:0≤lA c∧qj c≤199:=by
   unfold lA qj
   cases iEq c 107 <;> cases iEq c 116 <;> cases iEq c 102 <;> cases iEq c 106 <;> simp only [cond_true,cond_false] <;> omega
  exact ⟨by omega,by omega,fun _=>by omega⟩
def okF (f:ByteArray) (A B:Int):Bool:=(iLe (f.size:Int) 0||inL (bf f 0) A)&&(iLe (f.size:Int) 1||inL (bf f 1) B)
def zF (f:ByteArray) (A B:Int):Bool:=(iLt 0 (f.size:Int)||iEq A 0)&&(iLt 1 (f.size:Int)||iEq B 0)
def jjF (f:ByteArray) (A B:Int):Bool:=sEq f (⟨#[106,106]⟩:ByteArray)&&iLt B A
def chkF (f:ByteArray) (A B:Int):Int:=cond (okF f A B) (cond (jjF f A B) 1 (cond (zF f A B) 0 2)) 1
def chkI (x:ao):Int:=cond (opK x.Op) (chkF (dk x.Op) x.A x.B) 6
theorem wE {f:ByteArray} (hf:f.size≤2):f.size=0∨f.size=1∨f.size=2:=by omega
theorem tA:∃ F,fuel=F+1+1+1:=⟨fuel - 3,by have:=aJ;omega⟩
theorem nP {x:ao} {f:ByteArray} {F i:Nat} (hi:i+f.size<2):bI x f (F+1) (i:Int)=cond (iNe ([x.A,x.B].getD (f.size+i) default) 0) (some 2) (bI x f F ((i+1:Nat):Int)):=by
 rw [bI,aY (by omega),cond_true,an (vD (by omega)),an (aH (by omega)),an (aH (by omega)),w64 (by omega),show ((f.size:Int)+(i:Int)).toNat=f.size+i by omega,show (i:Int)+1=((i+1:Nat):Int) by omega]
theorem qk {x:ao} {f:ByteArray} {F i:Nat} (hi:¬i+f.size<2):bI x f (F+1) (i:Int)=some 0:=by
 rw [bI,bk (by omega),cond_false]
theorem ql (a b:Int):iNe a b= !iEq a b:=by unfold iNe iEq;simp
theorem xh (x:ao) {f:ByteArray} (hf:f.size≤2):bI x f fuel 0=some (cond (zF f x.A x.B) 0 2):=by
 obtain ⟨F,hF⟩:=tA
 rw [hF,show (0:Int)=((0:Nat):Int) from rfl]
 unfold zF
 rcases wE hf with h | h | h
 ·rw [nP (by omega),nP (by omega),qk (by omega),h,ql,ql]
  show cond (!iEq x.A 0) (some 2) (cond (!iEq x.B 0) (some 2) (some 0))=_
  cases iEq x.A 0 <;> cases iEq x.B 0 <;> rfl
 ·rw [nP (by omega),qk (by omega),h,ql]
  show cond (!iEq x.B 0) (some 2) (some 0)=_
  cases iEq x.B 0 <;> rfl
 ·rw [qk (by omega),h]
  rfl
theorem nQ {x:ao} {F i:Nat} (hi:i<2):bn x (F+1) (i:Int)=cond (iNe ([x.A,x.B].getD i default) 0) (some 2) (bn x F ((i+1:Nat):Int)):=by
 rw [bn,aY (by omega),cond_true,an (aH ⟨by omega,by simp only [List.length_cons,List.length_nil];omega⟩),w64 (by omega),Int.toNat_natCast,show (i:Int)+1=((i+1:Nat):Int) by omega]
theorem qm {x:ao} {F i:Nat} (hi:¬i<2):bn x (F+1) (i:Int)=some 0:=by
 rw [bn,bk (by omega),cond_false]
theorem xi (x:ao) {f:ByteArray} (hf:f.size≤2):bn x fuel (f.size:Int)=some (cond (zF f x.A x.B) 0 2):=by
 obtain ⟨F,hF⟩:=tA
 rw [hF]
 unfold zF
 rcases wE hf with h | h | h
 ·rw [h,nQ (by omega),nQ (by omega),qm (by omega),ql,ql]
  show cond (!iEq x.A 0) (some 2) (cond (!iEq x.B 0) (some 2) (some 0))=_
  cases iEq x.A 0 <;> cases iEq x.B 0 <;> rfl
 ·rw [h,nQ (by omega),qm (by omega),ql]
  show cond (!iEq x.B 0) (some 2) (some 0)=_
  cases iEq x.B 0 <;> rfl
 ·rw [h,qm (by omega)]
  rfl
theorem wF {x:ao} {f:ByteArray} {F i:Nat} (hi:i<f.size) (hf:f.size≤2):bV x f (F+1) (i:Int)=cond (inL (bf f i) ([x.A,x.B].getD i default)) (bV x f F ((i+1:Nat):Int)) (some 1):=by
 rw [bV,aY (by omega),cond_true,an (aH (by omega)),an (aH (by omega)),Int.toNat_natCast,tz,ah,hI,w64 (by omega),show (i:Int)+1=((i+1:Nat):Int) by omega]
theorem xj {x:ao} {f:ByteArray} {F i:Nat} (hi:¬i<f.size) (hf:f.size≤2):bV x f (F+1) (i:Int)=some (cond (jjF f x.A x.B) 1 (cond (zF f x.A x.B) 0 2)):=by
 rw [bV,bk (by omega),cond_false,an (j2 (by omega)),xh x hf]
 unfold jjF
 simp only [aP]
theorem wG {x:ao} {f:ByteArray} {F i:Nat} (hi:i<f.size) (hf:f.size≤2):ba x f (F+1) (i:Int)=cond (inL (bf f i) ([x.A,x.B].getD i default)) (ba x f F ((i+1:Nat):Int)) (some 1):=by
 have h2:nIn (i:Int) (([x.A,x.B]:List Int).length:Int)=true:=aH ⟨by omega,by simp only [List.length_cons,List.length_nil];omega⟩
 have h1:nIn (i:Int) (f.size:Int)=true:=aH (by omega)
 rw [ba,aY (by omega),cond_true,h1,h2,ji,u0,wD,o4,w64 (by omega),Int.toNat_natCast,show (i:Int)+1=((i+1:Nat):Int) by omega]
 simp only [an,ah,hI,ql]
 generalize bf f i=c
 generalize ([x.A,x.B].getD i default)=v
 cases iEq c 110 with
 | true=>simp only [cond_true,cond_false]
 | false=>
  simp only [cond_true,cond_false]
  cases iLt v (lA c) <;> cases iLt (qj c) v <;> rfl
theorem xk {x:ao} {f:ByteArray} {F i:Nat} (hi:¬i<f.size) (hf:f.size≤2):ba x f (F+1) (i:Int)=some (cond (jjF f x.A x.B) 1 (cond (zF f x.A x.B) 0 2)):=by
 rw [ba,bk (by omega),cond_false,xi x hf]
 unfold jjF
 simp only [aP]
theorem tB {x:ao} {f:ByteArray} (hf:f.size≤2) (g:Nat→Int→Option Int) (hs:∀ F i:Nat,i<f.size→g (F+1) (i:Int)=cond (inL (bf f i) ([x.A,x.B].getD i default)) (g F ((i+1:Nat):Int)) (some 1)) (he:∀ F i:Nat,¬i<f.size→g (F+1) (i:Int)=some (cond (jjF f x.A x.B) 1 (cond (zF f x.A x.B) 0 2))):g fuel 0=some (chkF f x.A x.B):=by
 obtain ⟨F,hF⟩:=tA
 rw [hF,show (0:Int)=((0:Nat):Int) from rfl]
 unfold chkF okF
 rcases wE hf with h | h | h
 ·rw [he _ _ (by omega),h];rfl
 ·rw [hs _ _ (by omega),he _ _ (by omega),h]
  show cond (inL (bf f 0) x.A) _ _=_
  cases inL (bf f 0) x.A <;> rfl
 ·rw [hs _ _ (by omega),hs _ _ (by omega),he _ _ (by omega),h]
  show cond (inL (bf f 0) x.A) (cond (inL (bf f 1) x.B) _ _) _=_
  cases inL (bf f 0) x.A <;> cases inL (bf f 1) x.B <;> rfl
theorem o5 (x:ao):fB x=some (chkI x):=by
 unfold fB chkI
 rw [mQ,ah,qi,hJ,ah,hI]
 have hf:=fF x.Op
 rw [tB hf (bV x (dk x.Op)) (fun F i hi=>wF hi hf) (fun F i hi=>xj hi hf),aP]
theorem mh (x:ao):dZ x=some (chkI x):=by
 unfold dZ chkI
 rw [ij,ah,nN,ah,hI]
 have hf:=fF x.Op
 rw [tB hf (ba x (dk x.Op)) (fun F i hi=>wG hi hf) (fun F i hi=>xk hi hf),aP]
structure OkI (x:ao):Prop where
 op:0≤x.Op∧x.Op<52
 a1:0<(dk x.Op).size→inL (bf (dk x.Op) 0) x.A=true
 b1:1<(dk x.Op).size→inL (bf (dk x.Op) 1) x.B=true
 a0:(dk x.Op).size=0→x.A=0
 b0:(dk x.Op).size≤1→x.B=0
theorem tC {x:ao} (h:chkI x=0):OkI x:=by
 unfold chkI at h
 cases hk:opK x.Op with
 | false=>rw [hk] at h;cases h
 | true=>
  rw [hk,cond_true] at h
  unfold chkF at h
  cases h1:okF (dk x.Op) x.A x.B with
  | false=>rw [h1] at h;cases h
  | true=>
   rw [h1,cond_true] at h
   cases h2:jjF (dk x.Op) x.A x.B with
   | true=>rw [h2] at h;cases h
   | false=>
    rw [h2,cond_false] at h
    cases h3:zF (dk x.Op) x.A x.B with
    | false=>rw [h3] at h;cases h
    | true=>
     unfold okF at h1
     unfold zF at h3
     simp only [Bool.and_eq_true,Bool.or_eq_true,dW,dx,fS] at h1 h3
     exact ⟨eH.1 hk,fun hs=>h1.1.resolve_left (by omega),fun hs=>h1.2.resolve_left (by omega),fun hs=>h3.1.resolve_left (by omega),fun hs=>h3.2.resolve_left (by omega)⟩
def putA (c n:Int):List UInt8:=cond (iEq c 110) (numL (zig n)) (numL n.toNat)
def putI (x:ao):List UInt8:=UInt8.ofNat x.Op.toNat::(cond (iLt 0 ((dk x.Op).size:Int)) (putA (bf (dk x.Op) 0) x.A) []++cond (iLt 1 ((dk x.Op).size:Int)) (putA (bf (dk x.Op) 1) x.B) [])
end LJ
end
section
namespace LJ
open Go Go.RowKit
set_option linter.unusedVariables false
set_option linter.unusedSimpArgs false
abbrev GI:=ao×Int×List UInt8
def valA (c:Int) (r:Int×Nat×List UInt8):Int:=cond (iEq c 110) (zag r.2.1) (capN r)
def finI (k a b:Int) (t:List UInt8):GI:=cond (iEq (chkI ⟨k,a,b⟩) 0) (⟨k,a,b⟩,0,t) (⟨0,0,0⟩,chkI ⟨k,a,b⟩,[])
def xS (k:Int) (f:ByteArray) (t:List UInt8):GI:=
 cond (iEq (f.size:Int) 0) (finI k 0 0 t)
  (cond (iEq (rdN t 0).1 0)
   (cond (iEq (f.size:Int) 1) (finI k (valA (bf f 0) (rdN t 0)) 0 (rdN t 0).2.2)
    (cond (iEq (rdN (rdN t 0).2.2 0).1 0) (finI k (valA (bf f 0) (rdN t 0)) (valA (bf f 1) (rdN (rdN t 0).2.2 0)) (rdN (rdN t 0).2.2 0).2.2) (⟨0,0,0⟩,(rdN (rdN t 0).2.2 0).1,[])))
   (⟨0,0,0⟩,(rdN t 0).1,[]))
def xT (b:UInt8) (t:List UInt8):GI:=cond (opK (b.toNat:Int)) (xS (b.toNat:Int) (dk (b.toNat:Int)) t) (⟨0,0,0⟩,6,[])
def getI:List UInt8→GI
 | []=>(⟨0,0,0⟩,3,[])
 | b::t=>xT b t
def outI (s:ByteArray) (r:GI):Option (ao×Int×Int):=some (r.1,cond (iEq r.2.1 0) ((s.size:Int) - r.2.2.length) 0,r.2.1)
end LJ
end
section
namespace LJ
open Go Go.RowKit
set_option linter.unusedVariables false
set_option linter.unusedSimpArgs false
theorem nR (x M k c:Nat) (hk:k≤7) (hM:∀ i,i<8→M.testBit i=c.testBit i) (hc:∀ i,c.testBit i=true→i+k<8):(x>>>k&&&M) %2 ^8=(x %2 ^8)>>>k&&&c:=by
 apply Nat.eq_of_testBit_eq
 intro i
 rw [Nat.testBit_mod_two_pow,Nat.testBit_and,Nat.testBit_and,Nat.testBit_shiftRight,Nat.testBit_shiftRight,Nat.testBit_mod_two_pow]
 by_cases hi:i<8
 ·rw [hM i hi]
  cases h:c.testBit i with
  | false=>simp
  | true=>
   have:=hc i h
   simp [hi,show k+i<8 by omega]
 ·cases h:c.testBit i with
  | false=>simp [hi]
  | true=>have:=hc i h;omega
theorem lB (x M k:Nat):(x>>>k&&&M) /2 ^8=(x /2 ^8)>>>k&&&(M /2 ^8):=by
 apply Nat.eq_of_testBit_eq
 intro i
 rw [Nat.testBit_div_two_pow,Nat.testBit_and,Nat.testBit_and,Nat.testBit_shiftRight,Nat.testBit_shiftRight,Nat.testBit_div_two_pow,Nat.testBit_div_two_pow]
 congr 2
def rep (c:Nat):Nat→Nat
 | 0=>0
 | n+1=>c+256*rep c n
def digs:Nat→Nat→List Nat
 | 0,_=>[]
 | n+1,x=>x %256::digs n (x /256)
def c8 (k M x:Nat):Nat:=(x>>>k&&&M)+(x&&&M)
theorem qn {c:Nat} (hc:c<256) (n:Nat):rep c (n+1) %2 ^8=c∧rep c (n+1) /2 ^8=rep c n:=by
 simp only [rep]
 omega
theorem qo {c:Nat} (hc:c<256) (n i:Nat) (hi:i<8):(rep c (n+1)).testBit i=c.testBit i:=by
 have h:=(qn hc n).1
 have:=Nat.testBit_mod_two_pow (rep c (n+1)) 8 i
 rw [h] at this
 rw [this]
 simp [hi]
theorem jK {c k:Nat} (hc:c<256) (hk:k≤7) (hb:∀ i,c.testBit i=true→i+k<8) (hs:∀ b,b<256→c8 k c b<256):∀ n x,digs n (c8 k (rep c n) x)=(digs n x).map (c8 k c)
 | 0,x=>rfl
 | n+1,x=>by
  have h1:=nR x (rep c (n+1)) k c hk (fun i hi=>qo hc n i hi) hb
  have h2:=nR x (rep c (n+1)) 0 c (by omega) (fun i hi=>qo hc n i hi) (fun i h=>by have:=hb i h;omega)
  have h3:=lB x (rep c (n+1)) k
  have h4:=lB x (rep c (n+1)) 0
  rw [(qn hc n).2] at h3 h4
  have h5:=hs (x %256) (by omega)
  simp only [Nat.shiftRight_zero] at h2 h4
  unfold c8 at h5
  have e1:c8 k (rep c (n+1)) x %256=c8 k c (x %256):=by
   unfold c8
   simp only [Nat.reducePow] at h1 h2
   omega
  have e2:c8 k (rep c (n+1)) x /256=c8 k (rep c n) (x /256):=by
   unfold c8
   simp only [Nat.reducePow] at h1 h2 h3 h4
   omega
  simp only [digs,List.map_cons]
  rw [e1,e2,jK hc hk hb hs n (x /256)]
theorem mR:∀ n z,(∀ b∈digs n z,b /16≤4∧b %16≤4)→z<256 ^n→digs n ((z>>>4+z)&&&rep 15 n)=(digs n z).map fun b=>b /16+b %16
 | 0,z,_,_=>rfl
 | n+1,z,hb,hz=>by
  have h2:=nR (z>>>4+z) (rep 15 (n+1)) 0 15 (by omega) (fun i hi=>qo (by decide) n i hi) (fun i h=>by
   by_cases hi:i<8
   ·omega
   ·rw [show (15:Nat)=2 ^4 - 1 from rfl,Nat.testBit_two_pow_sub_one] at h
    simp at h
    omega)
  have h4:=lB (z>>>4+z) (rep 15 (n+1)) 0
  rw [(qn (by decide) n).2] at h4
  simp only [Nat.shiftRight_zero,Nat.reducePow] at h2 h4
  rw [show (15:Nat)=2 ^4 - 1 from rfl,Nat.and_two_pow_sub_one_eq_mod] at h2
  obtain ⟨g1,g2⟩:=hb (z %256) (by simp [digs])
  have hr:(z /256) %16≤4:=by
   cases n with
   | zero=>simp at hz;omega
   | succ n=>
    have:=(hb (z /256 %256) (by simp [digs])).2
    rwa [Nat.mod_mod_of_dvd _ (by decide:16∣256)] at this
  have hs:z>>>4=z /16:=by rw [Nat.shiftRight_eq_div_pow]
  have e3:(z>>>4+z) /256=(z /256)>>>4+z /256:=by
   rw [hs,Nat.shiftRight_eq_div_pow]
   omega
  simp only [digs,List.map_cons]
  have hz':z /256<256 ^n:=by
   rw [Nat.pow_succ] at hz
   exact Nat.div_lt_of_lt_mul (by rw [Nat.mul_comm];exact hz)
  rw [h4,e3,mR n (z /256) (fun b h=>hb b (by simp [digs,h])) hz',h2,hs]
  congr 1
  omega
theorem sum8 {z b0 b1 b2 b3 b4 b5 b6 b7 Z1 Z2 Z3 Z4 Z5 Z6:Nat} (h0:b0≤8) (h1:b1≤8) (h2:b2≤8) (h3:b3≤8) (h4:b4≤8) (h5:b5≤8) (h6:b6≤8) (h7:b7≤8)
  (e0:z=b0+256*Z1) (e1:Z1=b1+256*Z2) (e2:Z2=b2+256*Z3) (e3:Z3=b3+256*Z4) (e4:Z4=b4+256*Z5) (e5:Z5=b5+256*Z6) (e6:Z6=b6+256*b7):
  ∃ y v t,y=z /256+z∧y<2 ^64∧v=y /65536+y∧v<2 ^64∧t=v /4294967296+v∧t<2 ^64∧t %128=b0+b1+b2+b3+b4+b5+b6+b7:=by
 have f0:z /256=Z1:=by omega
 have f2:(z /256+z) /65536=Z2+Z3:=by rw [f0];omega
 have f4:((z /256+z) /65536+(z /256+z)) /4294967296=Z4+Z5+Z6+b7:=by rw [f2,f0];omega
 refine ⟨_,_,_,rfl,by rw [f0];omega,rfl,by rw [f2,f0];omega,rfl,by rw [f4,f2,f0];omega,?_⟩
 rw [f4,f2,f0]
 omega
def popB (b:Nat):Nat:=b %2+b /2 %2+b /4 %2+b /8 %2+b /16 %2+b /32 %2+b /64 %2+b /128 %2
def cntN (x:Nat):Nat:=((digs 8 x).map popB).sum
theorem kS:∀ b:Fin 256,c8 1 85 b<256∧c8 2 51 b<256∧c8 2 51 (c8 1 85 b) /16≤4∧c8 2 51 (c8 1 85 b) %16≤4∧c8 2 51 (c8 1 85 b) /16+c8 2 51 (c8 1 85 b) %16=popB b:=by decide+kernel
theorem qp:∀ n x,∀ b∈digs n x,b<256
 | 0,x,b,h=>by cases h
 | n+1,x,b,h=>by
  simp only [digs,List.mem_cons] at h
  rcases h with rfl | h
  ·omega
  ·exact qp n (x /256) b h
theorem tD (c:Nat) (k:Nat) (hc:c<256) (h:∀ i:Fin 8,c.testBit i=true→(i:Nat)+k<8):∀ i,c.testBit i=true→i+k<8:=fun i hi=>by
 by_cases h8:i<8
 ·exact h ⟨i,h8⟩ hi
 ·exfalso
  have:c.testBit i=false:=Nat.testBit_lt_two_pow (Nat.lt_of_lt_of_le hc (by rw [show 256=2 ^8 from rfl];exact Nat.pow_le_pow_right (by decide) (by omega)))
  rw [this] at hi
  cases hi
theorem mS {x:Nat} :digs 8 ((c8 2 (rep 51 8) (c8 1 (rep 85 8) x)))=(digs 8 x).map fun b=>c8 2 51 (c8 1 85 b):=by
 rw [jK (by decide) (by decide) (tD 51 2 (by decide) (by decide)) (fun b hb=>(kS ⟨b,hb⟩).2.1),jK (by decide) (by decide) (tD 85 1 (by decide) (by decide)) (fun b hb=>(kS ⟨b,hb⟩).1),List.map_map]
 rfl
def ku (x:Nat):Nat:=(c8 2 (rep 51 8) (c8 1 (rep 85 8) x)>>>4+c8 2 (rep 51 8) (c8 1 (rep 85 8) x))&&&rep 15 8
theorem nS {k M x:Nat} (h:M+M<18446744073709551616):c8 k M x<18446744073709551616:=by
 have h1:=Nat.and_le_right (n:=x>>>k) (m:=M)
 have h2:=Nat.and_le_right (n:=x) (m:=M)
 unfold c8
 omega
theorem rN (x:Nat):digs 8 (ku x)=(digs 8 x).map popB:=by
 have hlt:c8 2 (rep 51 8) (c8 1 (rep 85 8) x)<256 ^8:=nS (by decide)
 unfold ku
 rw [mR 8 _ (fun b hb=>?_) hlt,mS,List.map_map]
 ·refine List.map_congr_left fun b hb=>?_
  exact (kS ⟨b,qp 8 x b hb⟩).2.2.2.2
 ·rw [mS] at hb
  obtain ⟨c,hc,rfl⟩:=List.mem_map.1 hb
  have:=kS ⟨c,qp 8 x c hc⟩
  exact ⟨this.2.2.1,this.2.2.2.1⟩
theorem tE (x:Nat):∃ y v t,y=ku x /256+ku x∧y<2 ^64∧v=y /65536+y∧v<2 ^64∧t=v /4294967296+v∧t<2 ^64∧t %128=cntN x:=by
 have hd:=rN x
 have hC:ku x<18446744073709551616:=Nat.lt_of_le_of_lt Nat.and_le_right (by decide:rep 15 8<18446744073709551616)
 have hle:∀ b∈digs 8 (ku x),b≤8:=fun b hb=>by
  rw [hd] at hb
  obtain ⟨c,hc,rfl⟩:=List.mem_map.1 hb
  unfold popB
  omega
 have hs:cntN x=(digs 8 (ku x)).sum:=by rw [hd];rfl
 rw [hs]
 generalize ku x=C at*
 simp only [digs,List.mem_cons,List.not_mem_nil,or_false,forall_eq_or_imp,forall_eq] at hle
 obtain ⟨g0,g1,g2,g3,g4,g5,g6,g7⟩:=hle
 obtain ⟨y,v,t,a1,a2,a3,a4,a5,a6,a7⟩:=sum8 (z:=C) (Z1:=C /256) (Z2:=C /256 /256) (Z3:=C /256 /256 /256) (Z4:=C /256 /256 /256 /256) (Z5:=C /256 /256 /256 /256 /256) (Z6:=C /256 /256 /256 /256 /256 /256) g0 g1 g2 g3 g4 g5 g6 g7 (by omega) (by omega) (by omega) (by omega) (by omega) (by omega) (by omega)
 refine ⟨y,v,t,a1,a2,a3,a4,a5,a6,?_⟩
 rw [a7]
 simp only [digs,List.sum_cons,List.sum_nil]
 omega
theorem wu {n:Nat} (h:n<18446744073709551616):IntKind.u64.wrap (n:Int)=(n:Int):=by rw [IntKind.wrap_u64];omega
theorem sh1 (a:Nat):(a:Int) /(2:Int) ^min (1:Int).toNat IntKind.u64.bits=((a>>>1:Nat):Int):=by
 rw [show min (1:Int).toNat IntKind.u64.bits=1 from rfl,Nat.shiftRight_eq_div_pow];simp
theorem sh2 (a:Nat):(a:Int) /(2:Int) ^min (2:Int).toNat IntKind.u64.bits=((a>>>2:Nat):Int):=by
 rw [show min (2:Int).toNat IntKind.u64.bits=2 from rfl,Nat.shiftRight_eq_div_pow];simp
theorem sh4 (a:Nat):(a:Int) /(2:Int) ^min (4:Int).toNat IntKind.u64.bits=((a>>>4:Nat):Int):=by
 rw [show min (4:Int).toNat IntKind.u64.bits=4 from rfl,Nat.shiftRight_eq_div_pow];simp
theorem sh8 (a:Nat):(a:Int) /(2:Int) ^min (8:Int).toNat IntKind.u64.bits=((a /256:Nat):Int):=by
 rw [show min (8:Int).toNat IntKind.u64.bits=8 from rfl];simp
theorem sh16 (a:Nat):(a:Int) /(2:Int) ^min (16:Int).toNat IntKind.u64.bits=((a /65536:Nat):Int):=by
 rw [show min (16:Int).toNat IntKind.u64.bits=16 from rfl];simp
theorem sh32 (a:Nat):(a:Int) /(2:Int) ^min (32:Int).toNat IntKind.u64.bits=((a /4294967296:Nat):Int):=by
 rw [show min (32:Int).toNat IntKind.u64.bits=32 from rfl];simp
theorem rO {p q:Nat} (h:p+q<18446744073709551616):IntKind.u64.wrap ((p:Int)+(q:Int))=((p+q:Nat):Int):=by
 rw [←Int.natCast_add,wu h]
theorem wH (t:Int):((t+9223372036854775808) %18446744073709551616 - 9223372036854775808) %128=t %128:=by
 rw [Int.emod_def (t+9223372036854775808)]
 generalize (t+9223372036854775808) /18446744073709551616=q
 omega
set_option maxRecDepth 100000 in
theorem wI {x:Nat} (hx:x<18446744073709551616):cX (x:Int)=some ((cntN x:Nat):Int):=by
 obtain ⟨y,v,t,a1,a2,a3,a4,a5,a6,a7⟩:=tE x
 have r0:rep 85 8=6148914691236517205:=by decide
 have r1:rep 51 8=3689348814741910323:=by decide
 have r2:rep 15 8=1085102592571150095:=by decide
 have and_u:∀ (a b:Nat),a<18446744073709551616→b<18446744073709551616→Go.bits .and .u64 (a:Int) (b:Int)=((a&&&b:Nat):Int):=fun a b ha hb=>bits_and_u64_nat a b ha hb
 have shlt:∀ (a k:Nat),a<18446744073709551616→a>>>k<18446744073709551616:=fun a k h=>by rw [Nat.shiftRight_eq_div_pow];exact Nat.lt_of_le_of_lt (Nat.div_le_self _ _) h
 generalize hA:c8 1 (rep 85 8) x=A at*
 have hAlt:A<18446744073709551616:=by rw [←hA];exact nS (by decide)
 have s1:IntKind.u64.wrap (Go.bits .and .u64 ((x:Int) /(2:Int) ^min (1:Int).toNat IntKind.u64.bits) 6148914691236517205+Go.bits .and .u64 (x:Int) 6148914691236517205)=(A:Int):=by
  rw [sh1,show (6148914691236517205:Int)=((6148914691236517205:Nat):Int) from rfl,and_u _ _ (shlt x 1 hx) (by decide),and_u _ _ hx (by decide),←r0]
  unfold c8 at hA
  rw [rO (by rw [hA];exact hAlt),hA]
 generalize hB:c8 2 (rep 51 8) A=B at*
 have hBlt:B<18446744073709551616:=by rw [←hB];exact nS (by decide)
 have s2:IntKind.u64.wrap (Go.bits .and .u64 ((A:Int) /(2:Int) ^min (2:Int).toNat IntKind.u64.bits) 3689348814741910323+Go.bits .and .u64 (A:Int) 3689348814741910323)=(B:Int):=by
  rw [sh2,show (3689348814741910323:Int)=((3689348814741910323:Nat):Int) from rfl,and_u _ _ (shlt A 2 hAlt) (by decide),and_u _ _ hAlt (by decide),←r1]
  unfold c8 at hB
  rw [rO (by rw [hB];exact hBlt),hB]
 have hBB:B≤rep 51 8+rep 51 8:=by
  rw [←hB]
  unfold c8
  exact Nat.add_le_add Nat.and_le_right Nat.and_le_right
 have hS:B>>>4+B<18446744073709551616:=by
  rw [Nat.shiftRight_eq_div_pow]
  rw [r1] at hBB
  omega
 have hCd:ku x=(B>>>4+B)&&&rep 15 8:=by unfold ku;rw [hA,hB]
 have s3:Go.bits .and .u64 (IntKind.u64.wrap ((B:Int) /(2:Int) ^min (4:Int).toNat IntKind.u64.bits+(B:Int))) 1085102592571150095=((ku x:Nat):Int):=by
  rw [sh4,rO hS,show (1085102592571150095:Int)=((1085102592571150095:Nat):Int) from rfl,and_u _ _ hS (by decide),hCd,r2]
 generalize ku x=C at*
 have s4:IntKind.u64.wrap ((C:Int)+(C:Int) /(2:Int) ^min (8:Int).toNat IntKind.u64.bits)=(y:Int):=by
  rw [sh8,rO (by omega),a1,Nat.add_comm]
 have s5:IntKind.u64.wrap ((y:Int)+(y:Int) /(2:Int) ^min (16:Int).toNat IntKind.u64.bits)=(v:Int):=by
  rw [sh16,rO (by omega),a3,Nat.add_comm]
 have s6:IntKind.u64.wrap ((v:Int)+(v:Int) /(2:Int) ^min (32:Int).toNat IntKind.u64.bits)=(t:Int):=by
  rw [sh32,rO (by omega),a5,Nat.add_comm]
 rw [cX]
 rw [s1,s2,s3,s4,s5,s6,i64_and127,IntKind.wrap_i64,←a7,wH]
 rfl
end LJ
end
section
namespace LJ
open Go Go.RowKit
set_option linter.unusedVariables false
set_option linter.unusedSimpArgs false
def pc:Nat→Nat→Nat
 | 0,_=>0
 | k+1,x=>x %2+pc k (x /2)
def ls:Nat→Nat→Nat→List Int
 | 0,_,_=>[]
 | k+1,n,x=>if x %2=1 then (n:Int)::ls k (n+1) (x /2) else ls k (n+1) (x /2)
theorem wJ (m x:Nat):pc (m+8) x=popB (x %256)+pc m (x /256):=by
 simp only [pc]
 rw [show x /2 /2 /2 /2 /2 /2 /2 /2=x /256 by omega]
 unfold popB
 omega
theorem tF:∀ n x,((digs n x).map popB).sum=pc (8*n) x
 | 0,x=>rfl
 | n+1,x=>by
  rw [show 8*(n+1)=8*n+8 by omega,wJ]
  simp only [digs,List.map_cons,List.sum_cons]
  rw [tF n]
theorem xl (x:Nat):cntN x=pc 64 x:=tF 8 x
theorem tG:∀ k,pc k 0=0
 | 0=>rfl
 | k+1=>by rw [pc,tG]
theorem tH (a b:Nat):(a|||b) /2=a /2|||b /2:=by
 have:=Nat.or_div_two_pow (a:=a) (b:=b) (n:=1)
 simpa using this
theorem vE (a b:Nat):(a|||b) %2=max (a %2) (b %2):=by
 have:=Nat.or_mod_two_pow (a:=a) (b:=b) (n:=1)
 simp only [Nat.reducePow] at this
 rw [this]
 rcases Nat.mod_two_eq_zero_or_one a with h | h <;> rcases Nat.mod_two_eq_zero_or_one b with g | g <;> rw [h,g] <;> rfl
theorem vF:∀ (i x:Nat),x|||2 ^i=if x.testBit i then x else x+2 ^i
 | 0,x=>by
  have h1:=tH x 1
  have h2:=vE x 1
  rw [Nat.testBit_zero,Nat.pow_zero]
  have:x /2|||1 /2=x /2:=by simp
  rw [this] at h1
  split
  ·rename_i h;simp at h;omega
  ·rename_i h;simp at h;omega
 | i+1,x=>by
  have h1:=tH x (2 ^(i+1))
  have h2:=vE x (2 ^(i+1))
  have e:2 ^(i+1) /2=2 ^i:=by rw [Nat.pow_succ];omega
  have e':2 ^(i+1) %2=0:=by rw [Nat.pow_succ];omega
  rw [e,vF i (x /2)] at h1
  rw [e'] at h2
  rw [Nat.testBit_succ]
  rw [Nat.pow_succ] at*
  split
  ·rename_i h;rw [if_pos h] at h1;omega
  ·rename_i h;rw [if_neg h] at h1;omega
def rot (k x:Nat):Nat:=x /2 ^(64 - k)+2 ^k*(x %2 ^(64 - k))
end LJ
end
