/- Several texts of plain Lean, one behind the other. No condition. -/
import Derived.Test.YtdebndfaknfefaaGreatDoorPF
import Derived.Test.YtdebndfaknfefaaGreatDoorXPB
import Derived.Laws.Bits64b
import Derived.Laws.Bits128
import Derived.Lib.TrailingZeros
section
namespace LJ
open Go Go.RowKit
set_option linter.unusedVariables false
set_option linter.unusedSimpArgs false
def mkI (s:ByteArray) (l:List UInt8) (e:Int):ao:=⟨s,(s.size:Int) - l.length,e⟩
def mkR (s:ByteArray) (l:List UInt8) (e:Int):au:=⟨s,(s.size:Int) - l.length,e⟩
theorem iY {s:ByteArray} {l:List UInt8} (h:l<:+bl s):l.length≤s.size:=by rw [←gU];exact h.length_le
theorem Ad {s:ByteArray} {b:UInt8} {l:List UInt8} (h:(b::l)<:+bl s):bf s (s.size - (l.length+1))=(b.toNat:Int):=by
 have hl:=iY h
 simp only [List.length_cons] at hl
 rw [zV s _ (by omega)]
 congr 2
 obtain ⟨t,ht⟩:=h
 have hlen:t.length=s.size - (l.length+1):=by
  have:=congrArg List.length ht
  rw [gU] at this
  simp at this
  omega
 simp only [←hlen,←ht]
 simp
theorem jM {b:UInt8} {l k:List UInt8} (h:(b::l)<:+k):l<:+k:=(List.suffix_cons b l).trans h
theorem vJ (s:ByteArray) (l:List UInt8) (e x:Int) (he:e≠0→l=[]):dk (mkI s l e) x=some (mkI s [] (if e=0 then x else e)):=by
 unfold dk mkI
 dsimp only
 by_cases h:e=0
 ·rw [aQ h,cond_true,if_pos h];simp
 ·have:=he h
  subst this
  rw [aJ h,cond_false,if_neg h]
theorem vK (s:ByteArray) (l:List UInt8) (e x:Int) (he:e≠0→l=[]):gp (mkR s l e) x=some (mkR s [] (if e=0 then x else e)):=by
 unfold gp mkR
 dsimp only
 by_cases h:e=0
 ·rw [aQ h,cond_true,if_pos h];simp
 ·have:=he h
  subst this
  rw [aJ h,cond_false,if_neg h]
theorem jr (s:ByteArray) (e:Int):cf (mkI s [] e)=some (0,mkI s [] (if e=0 then 3 else e)):=by
 unfold cf
 rw [l0 (by simp [mkI]),cond_true,vJ s [] e 3 (fun _=>rfl)]
 rfl
theorem jN (s:ByteArray) (hs:s.size≤9007199254740992) (b:UInt8) (l:List UInt8) (e:Int) (h:(b::l)<:+bl s):cf (mkI s (b::l) e)=some ((b.toNat:Int),mkI s l e):=by
 have hl:=iY h
 have hg:=Ad h
 simp only [List.length_cons] at hl
 unfold cf mkI
 simp only [List.length_cons]
 rw [kA (by omega),cond_false,w64 (a:=(s.size:Int) - ((l.length+1:Nat):Int)+1) (by omega),w64 (by omega),aB (aN (by omega)),show ((s.size:Int) - ((l.length+1:Nat):Int)+1 - 1).toNat=s.size - (l.length+1) by omega,hg]
 have:=j4 b
 rw [w64 (by omega)]
 congr 3
 omega
theorem js (s:ByteArray) (e:Int):dL (mkR s [] e)=some (0,mkR s [] (if e=0 then 3 else e)):=by
 unfold dL
 rw [l0 (by simp [mkR]),cond_true,vK s [] e 3 (fun _=>rfl)]
 rfl
theorem jO (s:ByteArray) (hs:s.size≤9007199254740992) (b:UInt8) (l:List UInt8) (e:Int) (h:(b::l)<:+bl s):dL (mkR s (b::l) e)=some ((b.toNat:Int),mkR s l e):=by
 have hl:=iY h
 have hg:=Ad h
 simp only [List.length_cons] at hl
 unfold dL mkR
 simp only [List.length_cons]
 rw [kA (by omega),cond_false,aB (aN (by omega)),w64 (a:=(s.size:Int) - ((l.length+1:Nat):Int)+1) (by omega),show ((s.size:Int) - ((l.length+1:Nat):Int)).toNat=s.size - (l.length+1) by omega,hg]
 have:=j4 b
 rw [w64 (by omega)]
 congr 3
 omega
theorem Cd (l:List UInt8):valN 0 0 (numR 0 l)=((numR 0 l).2.1:Int):=by
 unfold valN
 by_cases he:(numR 0 l).1=0
 ·rw [aQ he,cond_true];simp
 ·rw [aJ he,cond_false,(jF l 0 he).1];rfl
theorem uw (s:ByteArray) (hs:s.size≤9007199254740992):∀ (l:List UInt8) (i f acc:Nat),i≤9→9<f+i→acc<128 ^i→l<:+bl s→
  cZ f ((acc:Int),(i:Int),s,(s.size:Int) - l.length,0)=some (valN acc i (numR i l),mkI s (numR i l).2.2 (numR i l).1)
 | l,i,0,acc,hi,hf,ha,hsuf=>by omega
 | [],i,f+1,acc,hi,hf,ha,hsuf=>by
  rw [cZ]
  dsimp only
  rw [aR (by omega),cond_true]
  have:=jr s 0
  unfold mkI at this
  rw [this,aj]
  dsimp only
  rw [bn (by simp),cond_true]
  rfl
 | b::l,i,f+1,acc,hi,hf,ha,hsuf=>by
  rw [cZ]
  dsimp only
  rw [aR (by omega),cond_true]
  have h1:=jN s hs b l 0 hsuf
  have hb:=j4 b
  unfold mkI at h1
  rw [h1,aj]
  dsimp only
  rw [bd rfl,cond_false]
  by_cases hbad:(i=9∧1<b.toNat)∨(0<i∧b.toNat=0)
  ·rw [xk hbad,show (iEq (i:Int) 9&&iLt 1 (b.toNat:Int)||iLt 0 (i:Int)&&iEq (b.toNat:Int) 0)=true by simp only [Bool.or_eq_true,Bool.and_eq_true,cy,cP];omega,cond_true]
   have h2:=vJ s l 0 2 (fun h=>absurd rfl h)
   unfold mkI at h2
   rw [h2]
   rfl
  ·rw [show (iEq (i:Int) 9&&iLt 1 (b.toNat:Int)||iLt 0 (i:Int)&&iEq (b.toNat:Int) 0)=false by simp only [Bool.or_eq_false_iff,Bool.and_eq_false_iff,fu,bM];omega,cond_false]
   have hst:=DG (acc:=acc) (b:=b.toNat) (i:=i) (by omega) ha (by omega) (by omega)
   rw [aB (zT (by rw [w64 (by omega)];omega))]
   by_cases hlt:b.toNat<128
   ·rw [ug hbad hlt,aR (by omega),cond_true,hst.1,Nat.mod_eq_of_lt hlt]
    rfl
   ·rw [aU (by omega),cond_false,hst.1,w64 (a:=(i:Int)+1) (by omega)]
    have hi9:i<9:=by omega
    have ha2:acc+b.toNat %128*128 ^i<128 ^(i+1):=by
     rw [Nat.pow_succ]
     have:b.toNat %128*128 ^i≤127*128 ^i:=Nat.mul_le_mul_right _ (by omega)
     omega
    have ih:=uw s hs l (i+1) f (acc+b.toNat %128*128 ^i) (by omega) (by omega) ha2 (jM hsuf)
    rw [show ((i+1:Nat):Int)=(i:Int)+1 from by omega] at ih
    rw [ih]
    by_cases he:(numR (i+1) l).1=0
    ·rw [uh hbad hlt he]
     unfold valN
     dsimp only
     rw [aQ he,cond_true,aQ rfl,cond_true,he]
     congr 3
     rw [Nat.pow_succ,Nat.add_mul,Nat.add_assoc]
     congr 1
     rw [Nat.mul_comm (128 ^i) 128,←Nat.mul_assoc,Nat.mul_comm ((numR (i+1) l).2.1) 128]
    ·rw [xl hbad hlt he]
     unfold valN
     dsimp only
     rw [aJ he,(jF l (i+1) he).1]
     rfl
theorem Ce (s:ByteArray) (hs:s.size≤9007199254740992) (l:List UInt8) (h:l<:+bl s):bF (mkI s l 0)=some (((numR 0 l).2.1:Int),mkI s (numR 0 l).2.2 (numR 0 l).1):=by
 unfold bF
 have:=uw s hs l 0 fuel 0 (by omega) (by have:=aL;omega) (by decide) h
 refine Eq.trans this ?_
 rw [Cd]
theorem rY (s:ByteArray) (e:Int) (he:e≠0):bF (mkI s [] e)=some (0,mkI s [] e):=by
 unfold bF
 obtain ⟨f,hf⟩:=pJ
 rw [hf,cZ]
 simp only []
 rw [aR (by decide),cond_true]
 have h1:=jr s e
 rw [if_neg he] at h1
 unfold mkI at h1 ⊢
 dsimp only
 rw [h1,aj]
 dsimp only
 rw [bn he,cond_true]
theorem DL (s:ByteArray) (hs:s.size≤9007199254740992) (l:List UInt8) (h:l<:+bl s):cN (mkI s l 0)=some (zag (numR 0 l).2.1,mkI s (numR 0 l).2.2 (numR 0 l).1):=by
 unfold cN
 rw [Ce s hs l h]
 simp only [Option.bind_some]
 rw [xm (vz l)]
theorem yo (s:ByteArray) (e:Int) (he:e≠0):cN (mkI s [] e)=some (0,mkI s [] e):=by
 unfold cN
 rw [rY s e he]
 simp only [Option.bind_some]
 have:=xm (n:=0) (by decide)
 rw [show ((0:Nat):Int)=0 from rfl] at this
 rw [this]
 rfl
theorem oM (s:ByteArray) (hs:s.size≤9007199254740992):∀ (l:List UInt8) (i f acc:Nat),i≤9→9<f+i→acc<128 ^i→l<:+bl s→
  c8 f ((acc:Int),((128 ^i:Nat):Int),(i:Int),s,(s.size:Int) - l.length,0)=some (valN acc i (numR i l),mkR s (numR i l).2.2 (numR i l).1)
 | l,i,0,acc,hi,hf,ha,hsuf=>by omega
 | [],i,f+1,acc,hi,hf,ha,hsuf=>by
  rw [c8]
  dsimp only
  rw [aR (by omega),cond_true]
  have:=js s 0
  unfold mkR at this
  rw [this,aj]
  dsimp only
  rw [bn (by simp),cond_true]
  rfl
 | b::l,i,f+1,acc,hi,hf,ha,hsuf=>by
  rw [c8]
  dsimp only
  rw [aR (by omega),cond_true]
  have h1:=jO s hs b l 0 hsuf
  have hb:=j4 b
  unfold mkR at h1
  rw [h1,aj]
  dsimp only
  rw [bd rfl,cond_false]
  by_cases hbad:(i=9∧1<b.toNat)∨(0<i∧b.toNat=0)
  ·rw [xk hbad,show (iEq (i:Int) 9&&iLt 1 (b.toNat:Int)||iLt 0 (i:Int)&&iEq (b.toNat:Int) 0)=true by simp only [Bool.or_eq_true,Bool.and_eq_true,cy,cP];omega,cond_true]
   have h2:=vK s l 0 2 (fun h=>absurd rfl h)
   unfold mkR at h2
   rw [h2]
   rfl
  ·rw [show (iEq (i:Int) 9&&iLt 1 (b.toNat:Int)||iLt 0 (i:Int)&&iEq (b.toNat:Int) 0)=false by simp only [Bool.or_eq_false_iff,Bool.and_eq_false_iff,fu,bM];omega,cond_false]
   have hst:=DG (acc:=acc) (b:=b.toNat) (i:=i) (by omega) ha (by omega) (by omega)
   have e1:Int.tmod (b.toNat:Int) 128=((b.toNat %128:Nat):Int):=by rw [Int.tmod_eq_emod_of_nonneg (by omega)];omega
   have e2:IntKind.u64.wrap (IntKind.u64.wrap (Int.tmod (b.toNat:Int) 128)*((128 ^i:Nat):Int))=((b.toNat %128*128 ^i:Nat):Int):=by
    rw [e1,wu64 (a:=((b.toNat %128:Nat):Int)) (by omega),←Int.natCast_mul,wu64 (by omega)]
   have e3:IntKind.u64.wrap ((acc:Int)+IntKind.u64.wrap (IntKind.u64.wrap (Int.tmod (b.toNat:Int) 128)*((128 ^i:Nat):Int)))=((acc+b.toNat %128*128 ^i:Nat):Int):=by
    rw [e2,wu64 (by omega),Int.natCast_add]
   rw [e3]
   by_cases hlt:b.toNat<128
   ·rw [ug hbad hlt,aR (by omega),cond_true,Nat.mod_eq_of_lt hlt]
    rfl
   ·rw [aU (by omega),cond_false,w64 (a:=(i:Int)+1) (by omega)]
    have hi9:i<9:=by omega
    have ha2:acc+b.toNat %128*128 ^i<128 ^(i+1):=by
     rw [Nat.pow_succ]
     have:b.toNat %128*128 ^i≤127*128 ^i:=Nat.mul_le_mul_right _ (by omega)
     omega
    have p9:(128:Nat) ^(i+1)≤128 ^9:=Nat.pow_le_pow_right (by decide) (by omega)
    have e4:IntKind.u64.wrap (((128 ^i:Nat):Int)*128)=((128 ^(i+1):Nat):Int):=by
     rw [show ((128 ^i:Nat):Int)*128=((128 ^(i+1):Nat):Int) by rw [Nat.pow_succ,Int.natCast_mul];rfl]
     exact wu64 (by omega)
    rw [e4]
    have ih:=oM s hs l (i+1) f (acc+b.toNat %128*128 ^i) (by omega) (by omega) ha2 (jM hsuf)
    rw [show ((i+1:Nat):Int)=(i:Int)+1 from by omega] at ih
    rw [ih]
    by_cases he:(numR (i+1) l).1=0
    ·rw [uh hbad hlt he]
     unfold valN
     dsimp only
     rw [aQ he,cond_true,aQ rfl,cond_true,he]
     congr 3
     rw [Nat.pow_succ,Nat.add_mul,Nat.add_assoc]
     congr 1
     rw [Nat.mul_comm (128 ^i) 128,←Nat.mul_assoc,Nat.mul_comm ((numR (i+1) l).2.1) 128]
    ·rw [xl hbad hlt he]
     unfold valN
     dsimp only
     rw [aJ he,(jF l (i+1) he).1]
     rfl
theorem ux (s:ByteArray) (hs:s.size≤9007199254740992) (l:List UInt8) (h:l<:+bl s):bj (mkR s l 0)=some (((numR 0 l).2.1:Int),mkR s (numR 0 l).2.2 (numR 0 l).1):=by
 unfold bj
 have:=oM s hs l 0 fuel 0 (by omega) (by have:=aL;omega) (by decide) h
 refine Eq.trans this ?_
 rw [Cd]
theorem gC (s:ByteArray) (e:Int) (he:e≠0):bj (mkR s [] e)=some (0,mkR s [] e):=by
 unfold bj
 obtain ⟨f,hf⟩:=pJ
 rw [hf,c8]
 simp only []
 rw [aR (by decide),cond_true]
 have h1:=js s e
 rw [if_neg he] at h1
 unfold mkR at h1 ⊢
 dsimp only
 rw [h1,aj]
 dsimp only
 rw [bn he,cond_true]
theorem CZ {n:Nat} (h:n<18446744073709551616):(if Int.tmod (n:Int) 2=0 then IntKind.i64.wrap (IntKind.u64.wrap (Int.tdiv (n:Int) 2)) else IntKind.i64.wrap (IntKind.i64.wrap (0 - IntKind.i64.wrap (IntKind.u64.wrap (Int.tdiv (n:Int) 2))) - 1))=zag n:=by
 rw [Int.tmod_eq_emod_of_nonneg (by omega),Int.tdiv_eq_ediv_of_nonneg (by omega),wu64 (by omega),w64 (a:=(n:Int) /2) (by omega),w64 (a:=0 - (n:Int) /2) (by omega)]
 unfold zag
 split <;> split <;> first | omega | (rw [w64 (by omega)];omega)
theorem Ae (s:ByteArray) (hs:s.size≤9007199254740992) (l:List UInt8) (h:l<:+bl s):cO (mkR s l 0)=some (zag (numR 0 l).2.1,mkR s (numR 0 l).2.2 (numR 0 l).1):=by
 unfold cO
 rw [ux s hs l h]
 simp only [Option.bind_some]
 rw [←CZ (vz l)]
 by_cases hc:Int.tmod ((numR 0 l).2.1:Int) 2=0
 ·rw [aQ hc,cond_true,if_pos hc]
 ·rw [aJ hc,cond_false,if_neg hc]
theorem sK (s:ByteArray) (e:Int) (he:e≠0):cO (mkR s [] e)=some (0,mkR s [] e):=by
 unfold cO
 rw [gC s e he]
 rfl
theorem sL (s:ByteArray) (hs:s.size≤9007199254740992) (l:List UInt8) (e:Int) (h:l<:+bl s):cE (mkI s l e)=some (l.length:Int):=by
 have:=iY h
 unfold cE mkI
 simp only []
 rw [w64 (by omega)]
 congr 1
 omega
theorem qp (s:ByteArray):eU s=some (mkI s (bl s) 0):=by
 unfold eU mkI
 rw [gU]
 simp
end LJ
end
section
namespace LJ
open Go Go.RowKit
set_option linter.unusedVariables false
set_option linter.unusedSimpArgs false
def rdB (l:List UInt8) (e:Int):Int×Nat×List UInt8:=match l with
 | []=>(if e=0 then 3 else e,0,[])
 | b::t=>(e,b.toNat,t)
def rdN (l:List UInt8) (e:Int):Int×Nat×List UInt8:=if e=0 then numR 0 l else (e,0,[])
structure RdOK (s:ByteArray) (l:List UInt8) (e:Int):Prop where
 suf:l<:+bl s
 err:e≠0→l=[]
theorem RdOK.start (s:ByteArray):RdOK s (bl s) 0:=⟨List.suffix_refl _,fun h=>absurd rfl h⟩
theorem RdOK.byte {s:ByteArray} {l:List UInt8} {e:Int} (h:RdOK s l e):RdOK s (rdB l e).2.2 (rdB l e).1:=by
 cases l with
 | nil=>exact ⟨List.nil_suffix,fun _=>rfl⟩
 | cons b t=>
  refine ⟨jM h.suf,fun he=>?_⟩
  have:=h.err he
  cases this
theorem RdOK.num {s:ByteArray} {l:List UInt8} {e:Int} (h:RdOK s l e):RdOK s (rdN l e).2.2 (rdN l e).1:=by
 unfold rdN
 split
 ·refine ⟨(ql l 0).trans h.suf,fun he=>?_⟩
  rw [(jF l 0 he).1]
 ·exact ⟨List.nil_suffix,fun _=>rfl⟩
theorem jP (l:List UInt8) (e:Int):(rdN l e).2.1<18446744073709551616:=by
 unfold rdN
 split
 ·exact vz l
 ·simp
theorem mn {s:ByteArray} (hs:s.size≤9007199254740992) {l:List UInt8} {e:Int} (h:RdOK s l e):cf (mkI s l e)=some (((rdB l e).2.1:Int),mkI s (rdB l e).2.2 (rdB l e).1):=by
 cases l with
 | nil=>rw [jr];rfl
 | cons b t=>rw [jN s hs b t e h.suf];rfl
theorem qq {s:ByteArray} (hs:s.size≤9007199254740992) {l:List UInt8} {e:Int} (h:RdOK s l e):dL (mkR s l e)=some (((rdB l e).2.1:Int),mkR s (rdB l e).2.2 (rdB l e).1):=by
 cases l with
 | nil=>rw [js];rfl
 | cons b t=>rw [jO s hs b t e h.suf];rfl
theorem eX {s:ByteArray} (hs:s.size≤9007199254740992) {l:List UInt8} {e:Int} (h:RdOK s l e):bF (mkI s l e)=some (((rdN l e).2.1:Int),mkI s (rdN l e).2.2 (rdN l e).1):=by
 unfold rdN
 by_cases he:e=0
 ·subst he;rw [if_pos rfl];exact Ce s hs l h.suf
 ·rw [if_neg he,h.err he];exact rY s e he
theorem cX {s:ByteArray} (hs:s.size≤9007199254740992) {l:List UInt8} {e:Int} (h:RdOK s l e):bj (mkR s l e)=some (((rdN l e).2.1:Int),mkR s (rdN l e).2.2 (rdN l e).1):=by
 unfold rdN
 by_cases he:e=0
 ·subst he;rw [if_pos rfl];exact ux s hs l h.suf
 ·rw [if_neg he,h.err he];exact gC s e he
theorem DM:zag 0=0:=by unfold zag;simp
theorem gq {s:ByteArray} (hs:s.size≤9007199254740992) {l:List UInt8} {e:Int} (h:RdOK s l e):cN (mkI s l e)=some (zag (rdN l e).2.1,mkI s (rdN l e).2.2 (rdN l e).1):=by
 unfold rdN
 by_cases he:e=0
 ·subst he;rw [if_pos rfl];exact DL s hs l h.suf
 ·rw [if_neg he,h.err he,show zag (e,0,([]:List UInt8)).2.1=0 from DM];exact yo s e he
theorem gF {s:ByteArray} (hs:s.size≤9007199254740992) {l:List UInt8} {e:Int} (h:RdOK s l e):cO (mkR s l e)=some (zag (rdN l e).2.1,mkR s (rdN l e).2.2 (rdN l e).1):=by
 unfold rdN
 by_cases he:e=0
 ·subst he;rw [if_pos rfl];exact Ae s hs l h.suf
 ·rw [if_neg he,h.err he,show zag (e,0,([]:List UInt8)).2.1=0 from DM];exact sK s e he
theorem qt {s:ByteArray} (hs:s.size≤9007199254740992) {l:List UInt8} {e:Int} (h:RdOK s l e):cE (mkI s l e)=some (l.length:Int):=sL s hs l e h.suf
theorem bL (s:ByteArray) (l:List UInt8) (e:Int):bh (mkI s l e)=some e:=rfl
theorem vL {s:ByteArray} {l:List UInt8} {e:Int} (h:RdOK s l e) (x:Int):dk (mkI s l e) x=some (mkI s [] (if e=0 then x else e)):=vJ s l e x h.err
theorem vM {s:ByteArray} {l:List UInt8} {e:Int} (h:RdOK s l e) (x:Int):gp (mkR s l e) x=some (mkR s [] (if e=0 then x else e)):=vK s l e x h.err
end LJ
end
section
namespace LJ
open Go Go.RowKit
set_option linter.unusedVariables false
set_option linter.unusedSimpArgs false
def capN (r:Int×Nat×List UInt8):Nat:=min r.2.1 2147483648
theorem dp (s:ByteArray) (l:List UInt8) (e:Int):(mkR s l e).Err=e:=rfl
theorem C0 {l:List UInt8} {n:Nat} {t:List UInt8} (h:rdN l 0=(0,n,t)):l=numL n++t∧n<18446744073709551616:=by
 unfold rdN at h
 rw [if_pos rfl] at h
 have:=sD l 0 n t (by omega) h
 exact ⟨this.1,this.2.1⟩
theorem eI {l:List UInt8} (h:(rdN l 0).1=0):l=numL (rdN l 0).2.1++(rdN l 0).2.2∧(rdN l 0).2.1<18446744073709551616:=C0 (Prod.ext h rfl)
theorem vN {l:List UInt8} {e:Int} (h:(rdN l e).1=0):e=0:=by
 unfold rdN at h
 split at h
 ·assumption
 ·exact h
end LJ
end
section
namespace LJ
open Go Go.RowKit
set_option linter.unusedVariables false
set_option linter.unusedSimpArgs false
def rdT (l:List UInt8) (e:Int):Int×List UInt8×List UInt8:=
 if (rdN l e).1≠0 then ((rdN l e).1,[],[]) else if (rdN l e).2.2.length<(rdN l e).2.1 then (3,[],[]) else (0,(rdN l e).2.2.take (rdN l e).2.1,(rdN l e).2.2.drop (rdN l e).2.1)
theorem RdOK.text {s:ByteArray} {l:List UInt8} {e:Int} (h:RdOK s l e):RdOK s (rdT l e).2.2 (rdT l e).1:=by
 unfold rdT
 split
 ·exact ⟨List.nil_suffix,fun _=>rfl⟩
 ·split
  ·exact ⟨List.nil_suffix,fun _=>rfl⟩
  ·exact ⟨(List.drop_suffix _ _).trans h.num.suf,fun he=>absurd rfl he⟩
theorem qu {s:ByteArray} {t:List UInt8} (h:t<:+bl s) (n:Nat) (hn:n≤t.length):s.extract (s.size - t.length) (s.size - t.length+n)=bs (t.take n):=by
 apply l8
 rw [eS,iB]
 obtain ⟨p,hp⟩:=h
 have hlen:p.length=s.size - t.length:=by
  have:=congrArg List.length hp
  rw [gU] at this
  simp at this
  omega
 rw [←hlen,←hp,List.drop_take,List.drop_left]
 congr 1
 omega
theorem xt {l:List UInt8} {e:Int} (h:(rdN l e).1≠0):(rdN l e).2=(0,[]):=by
 unfold rdN at h ⊢
 split at h
 ·rename_i he;rw [if_pos he];exact (jF l 0 h).1
 ·rename_i he;rw [if_neg he]
theorem vO {s:ByteArray} (hs:s.size≤9007199254740992) {l:List UInt8} {e:Int} (h:RdOK s l e):fz (mkI s l e)=some (bs (rdT l e).2.1,mkI s (rdT l e).2.2 (rdT l e).1):=by
 unfold fz
 rw [eX (by omega) h,aj]
 have hn:=h.num
 have hz:=xt (l:=l) (e:=e)
 have hlt:=jP l e
 unfold rdT
 generalize rdN l e=r at*
 obtain ⟨er,n,t⟩:=r
 have hl:=iY hn.suf
 dsimp only at*
 unfold mkI
 dsimp only
 rw [w64 (a:=(s.size:Int) - ((s.size:Int) - t.length)) (by omega),wu64 (by omega)]
 by_cases he:er=0
 ·rw [if_neg (by simpa using he)]
  by_cases hlt2:t.length<n
  ·rw [if_pos hlt2,aR (by omega),cond_true]
   have hf:=vL hn 3
   unfold mkI at hf
   rw [hf,aj,if_pos he]
   rfl
  ·rw [if_neg hlt2,aU (by omega),cond_false,w64 (a:=(n:Int)) (by omega),w64 (a:=(s.size:Int) - t.length+n) (by omega),w64 (by omega),aB (ue (by omega)),he]
   rw [show ((s.size:Int) - t.length+n - n).toNat=s.size - t.length by omega,show ((s.size:Int) - t.length+n).toNat=s.size - t.length+n by omega,qu hn.suf n (by omega)]
   simp only [List.length_drop]
   congr 3
   omega
 ·rw [if_pos he]
  have hz:=hz he
  simp only [Prod.mk.injEq] at hz
  obtain ⟨rfl,rfl⟩:=hz
  rw [aU (by simp),cond_false]
  simp only [List.length_nil]
  rw [show IntKind.i64.wrap ((0:Nat):Int)=0 from by decide,w64 (a:=(s.size:Int) - ((0:Nat):Int)+0) (by omega),w64 (by omega),aB (ue (by omega))]
  have:s.extract ((s.size:Int) - ((0:Nat):Int)+0 - 0).toNat ((s.size:Int) - ((0:Nat):Int)+0).toNat=bs []:=by
   apply l8
   rw [eS,iB]
   apply List.eq_nil_of_length_eq_zero
   simp [gU]
  rw [this]
  congr 3
theorem uy {s:ByteArray} (hs:s.size≤140737488355328) {l:List UInt8} {e:Int} (h:RdOK s l e):jq (mkR s l e)=some (bs (rdT l e).2.1,mkR s (rdT l e).2.2 (rdT l e).1):=by
 unfold jq
 rw [cX (by omega) h,aj]
 have hn:=h.num
 have hz:=xt (l:=l) (e:=e)
 have hlt:=jP l e
 unfold rdT
 generalize rdN l e=r at*
 obtain ⟨er,n,t⟩:=r
 have hl:=iY hn.suf
 dsimp only at*
 unfold mkR
 dsimp only
 rw [w64 (a:=(s.size:Int) - ((s.size:Int) - t.length)) (by omega),wu64 (by omega)]
 by_cases he:er=0
 ·rw [if_neg (by simpa using he)]
  by_cases hlt2:t.length<n
  ·rw [if_pos hlt2,aR (by omega),cond_true]
   have hf:=vM hn 3
   unfold mkR at hf
   rw [hf,aj,if_pos he]
   rfl
  ·rw [if_neg hlt2,aU (by omega),cond_false,w64 (a:=(n:Int)) (by omega),w64 (a:=(s.size:Int) - t.length+n) (by omega),aB (ue (by omega)),he]
   rw [show ((s.size:Int) - t.length).toNat=s.size - t.length by omega,show ((s.size:Int) - t.length+n).toNat=s.size - t.length+n by omega,qu hn.suf n (by omega)]
   simp only [List.length_drop]
   congr 3
   omega
 ·rw [if_pos he]
  have hz:=hz he
  simp only [Prod.mk.injEq] at hz
  obtain ⟨rfl,rfl⟩:=hz
  rw [aU (by simp),cond_false]
  simp only [List.length_nil]
  rw [show IntKind.i64.wrap ((0:Nat):Int)=0 from by decide,w64 (a:=(s.size:Int) - ((0:Nat):Int)+0) (by omega),aB (ue (by omega))]
  have:s.extract ((s.size:Int) - ((0:Nat):Int)).toNat ((s.size:Int) - ((0:Nat):Int)+0).toNat=bs []:=by
   apply l8
   rw [eS,iB]
   apply List.eq_nil_of_length_eq_zero
   simp [gU]
  rw [this]
  congr 3
end LJ
end
section
namespace LJ
open Go Go.RowKit
set_option linter.unusedVariables false
set_option linter.unusedSimpArgs false
theorem bb {α:Type} (b:Bool) (x y:α):cond b (some x) (some y)=some (cond b x y):=by cases b <;> rfl
theorem Bs (a b:Int):iEq a b=iEq b a:=by
 unfold iEq
 by_cases h:a=b
 ·subst h;rfl
 ·rw [decide_eq_false h,decide_eq_false (fun h'=>h h'.symm)]
def fitW (a:Int):Bool:=iLe (-2147483648) a&&iLt a 2147483648
theorem oN (a:Int):j8 a=some (fitW a):=by
 unfold j8 fitW
 congr 1
 rw [Bool.eq_iff_iff]
 simp only [cy,Bool.and_eq_true,dS,cP]
 have h:=IntKind.wrap_i32 a
 have h2: -2147483648≤IntKind.i32.wrap a∧IntKind.i32.wrap a<2147483648:=by
  rw [h];omega
 rw [w64 (by omega),h]
 omega
theorem kK {α:Type} (b:Bool) (x y:α):cond (!b) x y=cond b y x:=by cases b <;> rfl
theorem np (a:Int):jb a=some (fitW a):=rfl
theorem eL {α:Type} [Inhabited α] (L:List α) (i:Nat) (h:i<L.length):L.drop i=L.getD i default::L.drop (i+1):=by
 rw [List.drop_eq_getElem_cons h]
 simp [List.getD_eq_getElem?_getD,h]
end LJ
end
section
namespace LJ
open Go Go.RowKit
set_option linter.unusedVariables false
set_option linter.unusedSimpArgs false
def fitK (c k:Int):Bool:=
 cond (iEq c 117) (iEq k 1||iEq k 2) (cond (iEq c 115) (iEq k 3) (cond (iEq c 112) (iEq k 6) (cond (iEq c 99) (iEq k 4) (cond (iEq c 109) (iEq k 1) (cond (iEq c 98) (iEq k 5) (cond (iEq c 118) (iEq k 7) (cond (iEq c 113) (iEq k 1||iEq k 6) false)))))))
def fitD (L:List ab) (c o:Int):Bool:=cond (iLt o 0||iLe (L.length:Int) o) false (fitK c (L.getD o.toNat default).Kind)
theorem lz (L:List ab) (c o:Int):fi L c o=some (fitD L c o):=by
 unfold fi fitD
 cases h:(iLt o 0||iLe (L.length:Int) o) with
 | true=>rfl
 | false=>
  simp only [Bool.or_eq_false_iff,bM,i6] at h
  rw [cond_false,cond_false,aB (aN ⟨h.1,h.2⟩)]
  simp only [bb]
  rfl
def oO (c:Int):List Int:=
 cond (iEq c 117) [1,2] (cond (iEq c 115) [3] (cond (iEq c 112) [6] (cond (iEq c 99) [4] (cond (iEq c 109) [1] (cond (iEq c 98) [5] (cond (iEq c 118) [7] (cond (iEq c 113) [1,6] [])))))))
theorem Bt (c:Int):hH c=some (oO c):=by
 obtain ⟨f,hf⟩:∃ f,fuel=f+9:=⟨fuel - 9,by have:=aL;omega⟩
 unfold hH oO
 rw [hf]
 have w:∀ n:Int,0≤n→n<9→IntKind.i64.wrap (n+1)=n+1:=fun n h0 h1=>w64 (by omega)
 have step:∀ (k:Nat) (i:Int) (b:Int) (l:List Int),0≤i→i<8→bf (⟨#[117,115,112,99,109,98,118,113]⟩:ByteArray) i.toNat=b→([[1,2],[3],[6],[4],[1],[5],[7],[1,6]]:List (List Int)).getD i.toNat default=l→dr c (k+1) i=cond (iEq c b) (some l) (dr c k (i+1)):=fun k i b l h0 h1 hb hl=>by
  rw [dr,show ((⟨#[117,115,112,99,109,98,118,113]⟩:ByteArray).size:Int)=8 from rfl,show (([[1,2],[3],[6],[4],[1],[5],[7],[1,6]]:List (List Int)).length:Int)=8 from rfl,aR h1,cond_true,aB (aN ⟨h0,h1⟩),aB (aN ⟨h0,h1⟩),hb,hl,Bs b c,w i h0 (by omega)]
 rw [step (f+8) 0 117 [1,2] (by decide) (by decide) (by decide) (by decide),step (f+7) (0+1) 115 [3] (by decide) (by decide) (by decide) (by decide),step (f+6) (0+1+1) 112 [6] (by decide) (by decide) (by decide) (by decide),step (f+5) (0+1+1+1) 99 [4] (by decide) (by decide) (by decide) (by decide),step (f+4) (0+1+1+1+1) 109 [1] (by decide) (by decide) (by decide) (by decide),step (f+3) (0+1+1+1+1+1) 98 [5] (by decide) (by decide) (by decide) (by decide),step (f+2) (0+1+1+1+1+1+1) 118 [7] (by decide) (by decide) (by decide) (by decide),step (f+1) (0+1+1+1+1+1+1+1) 113 [1,6] (by decide) (by decide) (by decide) (by decide)]
 rw [dr,aU (by decide),cond_false]
 simp only [bb]
theorem Af (L:List ab) (o:Int) (ks:List Int) (ho:0≤o∧o<L.length) (hk:ks.length≤100):∀ (n i f:Nat),i+n=ks.length→n<f→cB L o ks f (i:Int)=some ((ks.drop i).any fun k=>iEq (L.getD o.toNat default).Kind k)
 | n,i,0,hi,hf=>by omega
 | 0,i,f+1,hi,hf=>by
  rw [cB,aU (by omega),List.drop_eq_nil_of_le (by omega)]
  rfl
 | n+1,i,f+1,hi,hf=>by
  rw [cB,aR (by omega),l0 ho.1,aR ho.2]
  simp only [Bool.and_self,cond_true]
  rw [aB (aN ho),aB (aN ⟨by omega,by omega⟩),Int.toNat_natCast,List.drop_eq_getElem_cons (by omega),List.any_cons]
  have e:ks.getD i default=ks[i]:=by simp [List.getD_eq_getElem?_getD,show i<ks.length by omega]
  rw [e]
  cases h:iEq (L.getD o.toNat default).Kind ks[i] with
  | true=>rfl
  | false=>
   rw [cond_false,w64 (by omega),show (i:Int)+1=((i+1:Nat):Int) by omega,Af L o ks ho hk n (i+1) f (by omega) (by omega)]
   rfl
theorem nq (L:List ab) (c o:Int):gl L c o=some (fitD L c o):=by
 unfold gl fitD
 rw [Bt,aj]
 have hk:(oO c).length≤100:=by
  unfold oO
  repeat' (first | (cases iEq c _ <;> simp only [cond_true,cond_false]) | decide)
 cases h:(iLt o 0||iLe (L.length:Int) o) with
 | true=>
  obtain ⟨f,hf⟩:=pJ
  rw [hf,cB]
  have:((iLt 0 ((oO c).length:Int)&&iLe 0 o)&&iLt o (L.length:Int))=false:=by
   simp only [Bool.or_eq_true,cP,dS] at h
   simp only [Bool.and_eq_false_iff,bM,i6]
   omega
  rw [this]
  rfl
 | false=>
  simp only [Bool.or_eq_false_iff,bM,i6] at h
  have:=Af L o (oO c) ⟨h.1,h.2⟩ hk (oO c).length 0 fuel (by omega) (by have:=aL;omega)
  rw [show (0:Int)=((0:Nat):Int) from rfl,this,cond_false]
  congr 1
  generalize (L.getD o.toNat default).Kind=k
  unfold oO fitK
  rw [List.drop_zero]
  repeat' (first | (cases iEq c _ <;> simp only [cond_true,cond_false]) | simp [Bool.or_false])
def badD (L:List ab) (d:ab):Int:=
 cond (iEq d.Kind 3) (cond (iLe 1 d.B&&iLe d.B 1000&&iLe 0 d.A&&iLe d.A d.B) 0 1) (cond (iEq d.Kind 6) (cond (iLe 1 d.A&&iLe d.A 1000) (cond (iEq d.B 0) 0 2) 1)
  (cond (iEq d.Kind 7) (cond (fitW d.A&&fitD L 117 d.B) 0 1) (cond (iEq d.Kind 1||iEq d.Kind 2||iEq d.Kind 4||iEq d.Kind 5) (cond (iEq d.A 0&&iEq d.B 0) 0 2) 6)))
theorem vP (L:List ab) (d:ab):nc L d=some (badD L d):=by
 unfold nc badD j7
 rw [oN,lz]
 simp only [aj,kK,bb]
 cases h3:iEq d.Kind 3 with
 | true=>simp only [cond_true];
 | false=>
  cases h6:iEq d.Kind 6 with
  | true=>simp only [cond_true,cond_false]
  | false=>
   cases h7:iEq d.Kind 7 with
   | true=>
    simp only [cond_true,cond_false]
    cases fitW d.A <;> simp [bb]
   | false=>
    simp only [cond_false]
    cases h1:iEq d.Kind 1 <;> cases h2:iEq d.Kind 2 <;> cases h4:iEq d.Kind 4 <;> cases h5:iEq d.Kind 5 <;> rfl
theorem uz (L:List ab) (d:ab):jj L d=some (badD L d):=by
 unfold jj badD
 rw [np,nq]
 by_cases h:d.Kind<1∨7<d.Kind
 ·rw [show (iLt d.Kind 1||iLt 7 d.Kind)=true by simp only [Bool.or_eq_true,cP];exact h,cond_true]
  rw [aJ (show d.Kind≠3 by omega),aJ (show d.Kind≠6 by omega),aJ (show d.Kind≠7 by omega),aJ (show d.Kind≠1 by omega),aJ (show d.Kind≠2 by omega),aJ (show d.Kind≠4 by omega),aJ (show d.Kind≠5 by omega)]
  rfl
 ·rw [show (iLt d.Kind 1||iLt 7 d.Kind)=false by simp only [Bool.or_eq_false_iff,bM];omega,cond_false]
  have ne:∀ a b:Int,iNe a b= !iEq a b:=fun a b=>by unfold iNe iEq;simp
  have lt:∀ a b:Int,iLt a b= !iLe b a:=fun a b=>by
   unfold iLt iLe
   by_cases hab:a<b
   ·rw [decide_eq_true hab,decide_eq_false (by omega)];rfl
   ·rw [decide_eq_false hab,decide_eq_true (by omega)];rfl
  have cases7:d.Kind=1∨d.Kind=2∨d.Kind=3∨d.Kind=4∨d.Kind=5∨d.Kind=6∨d.Kind=7:=by omega
  simp only [ne,lt]
  rcases cases7 with e | e | e | e | e | e | e <;> rw [e] <;> simp only [show iEq 1 3=false from rfl,show iEq 1 6=false from rfl,show iEq 1 7=false from rfl,show iEq 1 1=true from rfl,show iEq 2 3=false from rfl,show iEq 2 6=false from rfl,show iEq 2 7=false from rfl,show iEq 2 1=false from rfl,show iEq 2 2=true from rfl,show iEq 3 3=true from rfl,show iEq 3 6=false from rfl,show iEq 3 7=false from rfl,show iEq 4 3=false from rfl,show iEq 4 6=false from rfl,show iEq 4 7=false from rfl,show iEq 4 1=false from rfl,show iEq 4 2=false from rfl,show iEq 4 4=true from rfl,show iEq 5 3=false from rfl,show iEq 5 6=false from rfl,show iEq 5 7=false from rfl,show iEq 5 1=false from rfl,show iEq 5 2=false from rfl,show iEq 5 4=false from rfl,show iEq 5 5=true from rfl,show iEq 6 3=false from rfl,show iEq 6 6=true from rfl,show iEq 6 7=false from rfl,show iEq 7 3=false from rfl,show iEq 7 6=false from rfl,show iEq 7 7=true from rfl,cond_true,cond_false,Bool.false_and,Bool.true_and,Bool.not_true,Bool.not_false,Bool.or_false,Bool.false_or,Bool.or_true,Bool.true_or,aj,Bool.not_not,Bool.and_false,Bool.and_true]
  all_goals first
   | rfl
   | (cases fitW d.A <;> simp [bb] <;> (cases fitD L 117 d.B <;> rfl))
   | (cases iLe 1 d.B <;> cases iLe d.B 1000 <;> cases iLe 0 d.A <;> cases iLe d.A d.B <;> rfl)
   | (cases iLe 1 d.A <;> cases iLe d.A 1000 <;> cases iEq d.B 0 <;> rfl)
   | (cases iEq d.A 0 <;> cases iEq d.B 0 <;> rfl)
def chkD (L:List ab):List ab→Int→Int×Int
 | [],_=>(0,0)
 | d::t,i=>cond (iNe (badD L d) 0) (i,badD L d) (chkD L t (i+1))
def chkL (L:List ab):Int×Int:=cond (iLt 32 (L.length:Int)) (0,4) (chkD L L 0)
theorem kT (L:List ab) (hL:L.length≤32):∀ (n i f:Nat),i+n=L.length→n<f→ey L f (i:Int)=some (chkD L (L.drop i) (i:Int))
 | n,i,0,hi,hf=>by omega
 | 0,i,f+1,hi,hf=>by
  rw [ey,aU (by omega),List.drop_eq_nil_of_le (by omega)]
  rfl
 | n+1,i,f+1,hi,hf=>by
  rw [ey,aR (by omega),cond_true,aB (aN ⟨by omega,by omega⟩),Int.toNat_natCast,vP,aj,eL L i (by omega),chkD,w64 (by omega),show (i:Int)+1=((i+1:Nat):Int) by omega,kT L hL n (i+1) f (by omega) (by omega),bb]
theorem nr (L:List ab):hX L=some (chkL L):=by
 unfold hX chkL
 by_cases h:32<(L.length:Int)
 ·rw [aR h];rfl
 ·rw [aU (by omega),cond_false,cond_false]
  exact kT L (by omega) L.length 0 fuel (by omega) (by have:=aL;omega)
theorem kd (L:List ab) (hL:L.length≤32):∀ (n i f:Nat),i+n=L.length→n<f→cz L f (i:Int)=some (chkD L (L.drop i) (i:Int))
 | n,i,0,hi,hf=>by omega
 | 0,i,f+1,hi,hf=>by
  rw [cz,aU (by omega),List.drop_eq_nil_of_le (by omega)]
  rfl
 | n+1,i,f+1,hi,hf=>by
  rw [cz,aR (by omega),cond_true,aB (aN ⟨by omega,by omega⟩),Int.toNat_natCast,uz,aj,eL L i (by omega),chkD,w64 (by omega),show (i:Int)+1=((i+1:Nat):Int) by omega,kd L hL n (i+1) f (by omega) (by omega),bb]
theorem ma (L:List ab):ff L=some (chkL L):=by
 unfold ff chkL
 by_cases h:32<(L.length:Int)
 ·rw [aR h];rfl
 ·rw [aU (by omega),cond_false,cond_false]
  exact kd L (by omega) L.length 0 fuel (by omega) (by have:=aL;omega)
end LJ
end
section
namespace LJ
open Go Go.RowKit
set_option linter.unusedVariables false
set_option linter.unusedSimpArgs false
structure RngD (d:ab):Prop where
 k:1≤d.Kind∧d.Kind≤7
 a: -2147483648≤d.A∧d.A<2147483648
 b:0≤d.B∧d.B<2147483648
 a0:d.Kind≠7→0≤d.A
 az:d.Kind≠3→d.Kind≠6→d.Kind≠7→d.A=0
 bz:d.Kind≠3→d.Kind≠7→d.B=0
theorem Bu {L:List ab} {c o:Int} (h:fitD L c o=true):0≤o∧o<L.length:=by
 unfold fitD at h
 cases hb:(iLt o 0||iLe (L.length:Int) o) with
 | true=>rw [hb] at h;cases h
 | false=>simp only [Bool.or_eq_false_iff,bM,i6] at hb;omega
theorem RngD.of {L:List ab} (hL:L.length≤32) {d:ab} (h:badD L d=0):RngD d:=by
 unfold badD at h
 by_cases h3:d.Kind=3
 ·rw [aQ h3,cond_true] at h
  cases hb:(iLe 1 d.B&&iLe d.B 1000&&iLe 0 d.A&&iLe d.A d.B) with
  | false=>rw [hb] at h;cases h
  | true=>
   simp only [Bool.and_eq_true,dS] at hb
   constructor <;> omega
 ·rw [aJ h3,cond_false] at h
  by_cases h6:d.Kind=6
  ·rw [aQ h6,cond_true] at h
   cases hb:(iLe 1 d.A&&iLe d.A 1000) with
   | false=>rw [hb] at h;cases h
   | true=>
    rw [hb,cond_true] at h
    cases hz:iEq d.B 0 with
    | false=>rw [hz] at h;cases h
    | true=>
     simp only [Bool.and_eq_true,dS] at hb
     rw [cy] at hz
     constructor <;> omega
  ·rw [aJ h6,cond_false] at h
   by_cases h7:d.Kind=7
   ·rw [aQ h7,cond_true] at h
    cases hb:(fitW d.A&&fitD L 117 d.B) with
    | false=>rw [hb] at h;cases h
    | true=>
     simp only [Bool.and_eq_true] at hb
     have h2:=Bu hb.2
     have h1:=hb.1
     unfold fitW at h1
     simp only [Bool.and_eq_true,dS,cP] at h1
     constructor <;> omega
   ·rw [aJ h7,cond_false] at h
    cases hb:(iEq d.Kind 1||iEq d.Kind 2||iEq d.Kind 4||iEq d.Kind 5) with
    | false=>rw [hb] at h;cases h
    | true=>
     rw [hb,cond_true] at h
     cases hz:(iEq d.A 0&&iEq d.B 0) with
     | false=>rw [hz] at h;cases h
     | true=>
      simp only [Bool.or_eq_true,Bool.and_eq_true,cy] at hb hz
      constructor <;> omega
theorem vQ {L:List ab} :∀ {M:List ab} {i:Int},(chkD L M i).2=0→∀ d∈M,badD L d=0
 | [],i,h=>fun d hd=>by cases hd
 | x::M,i,h=>by
  unfold chkD at h
  by_cases hx:badD L x=0
  ·rw [bd hx,cond_false] at h
   intro d hd
   rcases List.mem_cons.1 hd with rfl | hd
   ·exact hx
   ·exact vQ h d hd
  ·rw [bn hx,cond_true] at h
   exact absurd h hx
theorem uA {L:List ab} :∀ {M:List ab} {i:Int},(∀ d∈M,badD L d=0)→chkD L M i=(0,0)
 | [],i,h=>rfl
 | x::M,i,h=>by
  unfold chkD
  rw [bd (h x (List.mem_cons_self ..)),cond_false]
  exact uA fun d hd=>h d (List.mem_cons_of_mem _ hd)
theorem C1 {L:List ab} (h:(chkL L).2=0):L.length≤32∧chkL L=(0,0)∧(∀ d∈L,badD L d=0)∧∀ d∈L,RngD d:=by
 unfold chkL at h ⊢
 by_cases hl:32<(L.length:Int)
 ·rw [aR hl,cond_true] at h;cases h
 ·rw [aU (by omega),cond_false] at h ⊢
  have h1:=vQ h
  exact ⟨by omega,uA h1,h1,fun d hd=>RngD.of (by omega) (h1 d hd)⟩
def putD (d:ab):List UInt8:=UInt8.ofNat d.Kind.toNat::(if d.Kind=3 then numL d.A.toNat++numL d.B.toNat else if d.Kind=6 then numL d.A.toNat else if d.Kind=7 then numL (zig d.A)++numL d.B.toNat else [])
def Bv (L:List ab):List UInt8:=numL L.length++L.flatMap putD
end LJ
end
section
namespace LJ
open Go Go.RowKit
set_option linter.unusedVariables false
set_option linter.unusedSimpArgs false
theorem jQ {s:ByteArray} (hs:s.size≤9007199254740992) {l:List UInt8} {e:Int} (h:RdOK s l e):i9 (mkI s l e)=some ((capN (rdN l e):Int),mkI s (rdN l e).2.2 (rdN l e).1):=by
 unfold i9
 rw [eX hs h,aj]
 dsimp only
 congr 2
 unfold capN iMin
 have:=jP l e
 split
 ·rw [w64 (by omega)];omega
 ·rw [w64 (by omega)];omega
theorem gG {s:ByteArray} (hs:s.size≤9007199254740992) {l:List UInt8} {e:Int} (h:RdOK s l e):fL (mkR s l e)=some ((capN (rdN l e):Int),mkR s (rdN l e).2.2 (rdN l e).1):=by
 unfold fL
 rw [cX hs h,aj]
 dsimp only
 congr 2
 unfold capN iMin
 have:=jP l e
 split
 ·rw [w64 (by omega)];omega
 ·rw [w64 (by omega)];omega
def kL (b:UInt8) (t:List UInt8):ab×Int×List UInt8:=
 cond (iLt (b.toNat:Int) 1||iLt 7 (b.toNat:Int)) (⟨b.toNat,0,0⟩,6,t)
  (cond (iEq (b.toNat:Int) 3) (⟨b.toNat,capN (rdN t 0),capN (rdN (rdN t 0).2.2 (rdN t 0).1)⟩,(rdN (rdN t 0).2.2 (rdN t 0).1).1,(rdN (rdN t 0).2.2 (rdN t 0).1).2.2)
  (cond (iEq (b.toNat:Int) 6) (⟨b.toNat,capN (rdN t 0),0⟩,(rdN t 0).1,(rdN t 0).2.2)
  (cond (iEq (b.toNat:Int) 7) (⟨b.toNat,zag (rdN t 0).2.1,capN (rdN (rdN t 0).2.2 (rdN t 0).1)⟩,(rdN (rdN t 0).2.2 (rdN t 0).1).1,(rdN (rdN t 0).2.2 (rdN t 0).1).2.2)
  (⟨b.toNat,0,0⟩,0,t))))
def eN:List UInt8→ab×Int×List UInt8
 | []=>(⟨0,0,0⟩,3,[])
 | b::t=>kL b t
theorem gh (b:UInt8) (t:List UInt8):eN (b::t)=kL b t:=rfl
theorem qv {k:Int} :∃ z,lv k=some z∧sEq z ByteArray.empty=(iLt k 1||iLt 7 k):=by
 by_cases h:1≤k∧k≤7
 ·have h7:k=1∨k=2∨k=3∨k=4∨k=5∨k=6∨k=7:=by omega
  rcases h7 with rfl | rfl | rfl | rfl | rfl | rfl | rfl <;> exact ⟨_,rfl,by decide+kernel⟩
 ·refine ⟨ByteArray.empty,?_,?_⟩
  ·unfold lv
   rw [aJ (show k≠1 by omega),aJ (show k≠2 by omega),aJ (show k≠3 by omega),aJ (show k≠4 by omega),aJ (show k≠5 by omega),aJ (show k≠6 by omega),aJ (show k≠7 by omega)]
   rfl
  ·rw [CQ rfl]
   exact (by simp only [Bool.or_eq_true,cP];omega:(iLt k 1||iLt 7 k)=true).symm
theorem uB {s:ByteArray} (hs:s.size≤9007199254740992) {l:List UInt8} (h:l<:+bl s):∃ er,ka (mkI s l 0)=some ((eN l).1,(eN l).2.1,mkI s (eN l).2.2 er)∧((eN l).2.1=0→er=0∧(eN l).2.2<:+bl s):=by
 have h0:RdOK s l 0:=⟨h,fun h=>absurd rfl h⟩
 unfold ka
 cases l with
 | nil=>
  rw [jr,aj]
  dsimp only
  rw [bL,aj,if_pos rfl,aJ (by decide),cond_false,aj,Bool.false_and,cond_false,aJ (by decide),cond_false,aJ (by decide),cond_false,aJ (by decide),cond_false]
  exact ⟨3,rfl,fun h=>absurd h (by decide:(3:Int)≠0)⟩
 | cons b t=>
  have ht:RdOK s t 0:=h0.byte
  have hb:=j4 b
  rw [jN s hs b t 0 h,aj]
  dsimp only
  rw [bL,aj,aQ rfl,cond_true]
  obtain ⟨z,hz,hz2⟩:=qv (k:=(b.toNat:Int))
  rw [hz,aj,Bool.true_and,hz2,gh]
  unfold kL
  cases hk:(iLt (b.toNat:Int) 1||iLt 7 (b.toNat:Int)) with
  | true=>exact ⟨_,rfl,fun h=>absurd h (by decide:(6:Int)≠0)⟩
  | false=>
   rw [cond_false,cond_false]
   cases k3:iEq (b.toNat:Int) 3 with
   | true=>
    rw [cond_true,cond_true,jQ hs ht,aj,jQ hs ht.num,aj,bL,aj]
    exact ⟨_,rfl,fun h=>⟨h,ht.num.num.suf⟩⟩
   | false=>
    rw [cond_false,cond_false]
    cases k6:iEq (b.toNat:Int) 6 with
    | true=>
     rw [cond_true,cond_true,jQ hs ht,aj,bL,aj]
     exact ⟨_,rfl,fun h=>⟨h,ht.num.suf⟩⟩
    | false=>
     rw [cond_false,cond_false]
     cases k7:iEq (b.toNat:Int) 7 with
     | true=>
      rw [cond_true,cond_true,gq hs ht,aj,jQ hs ht.num,aj,bL,aj]
      exact ⟨_,rfl,fun h=>⟨h,ht.num.num.suf⟩⟩
     | false=>
      rw [cond_false,cond_false]
      exact ⟨_,rfl,fun h=>⟨rfl,ht.suf⟩⟩
def bI:Nat→List UInt8→List ab→List ab×Int×List UInt8
 | 0,l,acc=>(acc,0,l)
 | n+1,l,acc=>cond (iEq (eN l).2.1 0) (bI n (eN l).2.2 (acc++[(eN l).1])) ([],(eN l).2.1,[])
def ja (l:List UInt8):List ab×Int×List UInt8:=
 cond (iEq (rdN l 0).1 0) (cond (iLt 32 ((rdN l 0).2.1:Int)) ([],4,[])
  (cond (iEq (bI (rdN l 0).2.1 (rdN l 0).2.2 []).2.1 0)
   (cond (iEq (chkL (bI (rdN l 0).2.1 (rdN l 0).2.2 []).1).2 0) ((bI (rdN l 0).2.1 (rdN l 0).2.2 []).1,0,(bI (rdN l 0).2.1 (rdN l 0).2.2 []).2.2) ([],(chkL (bI (rdN l 0).2.1 (rdN l 0).2.2 []).1).2,[]))
   ([],(bI (rdN l 0).2.1 (rdN l 0).2.2 []).2.1,[])))
  ([],(rdN l 0).1,[])
theorem Cf {s:ByteArray} (hs:s.size≤9007199254740992) (x2:Int×ao) (N:Nat) (hN:x2.1=(N:Int)) (hN2:N≤32):∀ (n i f:Nat) (acc:List ab) (l:List UInt8),i+n=N→n<f→acc.length=i→l<:+bl s→
  gg s x2 f ((i:Int),acc,(mkI s l 0).s,(mkI s l 0).at_,(mkI s l 0).err)=
   cond (iEq (bI n l acc).2.1 0) (cond (iEq (chkL (bI n l acc).1).2 0) (some ((bI n l acc).1,(s.size:Int) - (bI n l acc).2.2.length,0)) (some ([],0,(chkL (bI n l acc).1).2))) (some ([],0,(bI n l acc).2.1))
 | n,i,0,acc,l,hi,hf,ha,hl=>by omega
 | 0,i,f+1,acc,l,hi,hf,ha,hl=>by
  have:=iY hl
  rw [gg]
  dsimp only
  have hI:(⟨(mkI s l 0).s,(mkI s l 0).at_,(mkI s l 0).err⟩:ao)=mkI s l 0:=rfl
  rw [hN,aU (by omega),cond_false,nr,aj,hI,show bI 0 l acc=(acc,0,l) from rfl,aQ rfl,cond_true]
  dsimp only
  by_cases hc:(chkL acc).2=0
  ·rw [bd hc,cond_false,aQ hc,cond_true,sL s hs l 0 hl,aj,w64 (by omega)]
  ·rw [bn hc,cond_true,aJ hc,cond_false]
 | n+1,i,f+1,acc,l,hi,hf,ha,hl=>by
  rw [gg]
  dsimp only
  have hI:(⟨(mkI s l 0).s,(mkI s l 0).at_,(mkI s l 0).err⟩:ao)=mkI s l 0:=rfl
  obtain ⟨er,h1,h2⟩:=uB hs hl
  rw [hN,aR (by omega),cond_true,hI,h1,aj]
  dsimp only
  rw [bI]
  by_cases he:(eN l).2.1=0
  ·obtain ⟨rfl,h3⟩:=h2 he
   rw [bd he,cond_false,aQ he,cond_true,aB (fG (by simp only [List.length_cons,List.length_nil];omega)),wu64 (by omega),show (i:Int)+1=((i+1:Nat):Int) by omega]
   exact Cf hs x2 N hN hN2 n (i+1) f _ _ (by omega) (by omega) (by simp;omega) h3
  ·rw [bn he,cond_true,aJ he,cond_false,aJ he,cond_false]
theorem vR {s:ByteArray} (hs:s.size≤9007199254740992):nk s=some ((ja (bl s)).1,cond (iEq (ja (bl s)).2.1 0) ((s.size:Int) - (ja (bl s)).2.2.length) 0,(ja (bl s)).2.1):=by
 unfold nk
 have h0:=RdOK.start s
 rw [qp,aj,eX hs h0,aj,bL,aj]
 have hn:=h0.num
 dsimp only
 unfold ja
 by_cases he:(rdN (bl s) 0).1=0
 ·rw [bd he,cond_false,aQ he,cond_true]
  by_cases hl:32<((rdN (bl s) 0).2.1:Int)
  ·rw [aR hl,cond_true,cond_true];rfl
  ·rw [aU (by omega),cond_false,cond_false,he]
   have:=Cf hs (((rdN (bl s) 0).2.1:Int),mkI s (rdN (bl s) 0).2.2 0) (rdN (bl s) 0).2.1 rfl (by omega) (rdN (bl s) 0).2.1 0 fuel [] (rdN (bl s) 0).2.2 (by omega) (by have:=aL;omega) rfl hn.suf
   refine Eq.trans this ?_
   generalize bI (rdN (bl s) 0).2.1 (rdN (bl s) 0).2.2 []=r
   by_cases h1:r.2.1=0
   ·rw [aQ h1,cond_true,cond_true]
    by_cases h2:(chkL r.1).2=0
    ·rw [aQ h2,cond_true,cond_true];rfl
    ·rw [aJ h2,cond_false,cond_false];dsimp only;rw [aJ h2,cond_false]
   ·rw [aJ h1,cond_false,cond_false];dsimp only;rw [aJ h1,cond_false]
 ·rw [bn he,cond_true,aJ he,cond_false];dsimp only;rw [aJ he,cond_false]
def outR (s:ByteArray) (r:List ab×Int×List UInt8) (l':List UInt8) (e':Int):Option (List ab×au×Int):=
 cond (iEq r.2.1 0) (cond (iEq (chkL r.1).2 0) (some (r.1,mkR s l' e',0)) (some ([],mkR s l' e',(chkL r.1).2))) (some ([],mkR s l' e',r.2.1))
theorem Ag {s:ByteArray} (hs:s.size≤9007199254740992) (x1:Int×au) (N:Nat) (hN:x1.1=(N:Int)) (hN2:N≤32):∀ (n i f:Nat) (acc:List ab) (l:List UInt8),i+n=N→n<f→acc.length=i→l<:+bl s→
  ∃ l' e',dQ x1 f ((i:Int),(mkR s l 0).S,(mkR s l 0).At,(mkR s l 0).Err,acc)=outR s (bI n l acc) l' e'∧((bI n l acc).2.1=0→l'=(bI n l acc).2.2∧e'=0∧l'<:+bl s)
 | n,i,0,acc,l,hi,hf,ha,hl=>by omega
 | 0,i,f+1,acc,l,hi,hf,ha,hl=>by
  have hR:(⟨(mkR s l 0).S,(mkR s l 0).At,(mkR s l 0).Err⟩:au)=mkR s l 0:=rfl
  refine ⟨l,0,?_,fun _=>⟨rfl,rfl,hl⟩⟩
  rw [dQ]
  dsimp only
  rw [hN,aU (by omega),cond_false,ma,aj,hR,show bI 0 l acc=(acc,0,l) from rfl]
  unfold outR
  dsimp only
  rw [aQ rfl,cond_true]
  by_cases hc:(chkL acc).2=0
  ·rw [bd hc,cond_false,aQ hc,cond_true]
  ·rw [bn hc,cond_true,aJ hc,cond_false]
 | n+1,i,f+1,acc,l,hi,hf,ha,hl=>by
  have hR:(⟨(mkR s l 0).S,(mkR s l 0).At,(mkR s l 0).Err⟩:au)=mkR s l 0:=rfl
  have h0:RdOK s l 0:=⟨hl,fun h=>absurd rfl h⟩
  have go:∀ (d:ab) (l2:List UInt8),eN l=(d,0,l2)→l2<:+bl s→∃ l' e',need (nCap ((acc.length+([d]:List ab).length)*24)) (dQ x1 f (IntKind.i64.wrap ((i:Int)+1),(mkR s l2 0).S,(mkR s l2 0).At,(mkR s l2 0).Err,acc++[d]))=
   outR s (bI (n+1) l acc) l' e'∧((bI (n+1) l acc).2.1=0→l'=(bI (n+1) l acc).2.2∧e'=0∧l'<:+bl s):=fun d l2 he h2=>by
   obtain ⟨l',e',h3,h4⟩:=Ag hs x1 N hN hN2 n (i+1) f (acc++[d]) l2 (by omega) (by omega) (by simp;omega) h2
   have e:bI (n+1) l acc=bI n l2 (acc++[d]):=by rw [bI,he];rfl
   rw [e]
   refine ⟨l',e',?_,h4⟩
   rw [aB (fG (by simp only [List.length_cons,List.length_nil];omega)),w64 (by omega),show (i:Int)+1=((i+1:Nat):Int) by omega,h3]
  have stop:∀ (d:ab) (er:Int) (l2 l3:List UInt8) (e3:Int),eN l=(d,er,l2)→er≠0→∃ l' e',some (([]:List ab),mkR s l3 e3,er)=
   outR s (bI (n+1) l acc) l' e'∧((bI (n+1) l acc).2.1=0→l'=(bI (n+1) l acc).2.2∧e'=0∧l'<:+bl s):=fun d er l2 l3 e3 he hne=>by
   have e:bI (n+1) l acc=([],er,[]):=by rw [bI,he];dsimp only;rw [aJ hne,cond_false]
   rw [e]
   refine ⟨l3,e3,?_,fun h=>absurd h hne⟩
   unfold outR
   dsimp only
   rw [aJ hne,cond_false]
  rw [dQ]
  dsimp only
  rw [hN,aR (by omega),cond_true,gR,hR]
  cases l with
  | nil=>
   rw [js,aj,if_pos rfl]
   dsimp only
   rw [dp,aJ (by decide),Bool.false_and,cond_false,aJ (show (0:Int)≠3 by decide),aJ (show (0:Int)≠6 by decide),aJ (show (0:Int)≠7 by decide)]
   simp only [Bool.or_false,cond_false]
   rw [bn (by decide),cond_true]
   exact stop _ 3 _ [] 3 rfl (by decide)
  | cons b t=>
   have ht:RdOK s t 0:=h0.byte
   have hb:=j4 b
   rw [jO s hs b t 0 hl,aj]
   dsimp only
   rw [dp,aQ rfl,Bool.true_and]
   cases hk:(iLt (b.toNat:Int) 1||iLt 7 (b.toNat:Int)) with
   | true=>
    rw [cond_true]
    have hd:eN (b::t)=(⟨b.toNat,0,0⟩,6,t):=by rw [gh];unfold kL;rw [hk,cond_true]
    exact stop _ 6 _ _ _ hd (by decide)
   | false=>
    rw [cond_false]
    by_cases k3:b.toNat=3
    ·have hd:eN (b::t)=(⟨b.toNat,capN (rdN t 0),capN (rdN (rdN t 0).2.2 (rdN t 0).1)⟩,(rdN (rdN t 0).2.2 (rdN t 0).1).1,(rdN (rdN t 0).2.2 (rdN t 0).1).2.2):=by
      rw [gh];unfold kL;rw [hk,cond_false,aQ (by omega),cond_true]
     rw [aQ (show (b.toNat:Int)=3 by omega),aJ (show (b.toNat:Int)≠6 by omega),aJ (show (b.toNat:Int)≠7 by omega)]
     simp only [Bool.true_or,cond_true,cond_false]
     rw [gG hs ht,aj,gG hs ht.num,aj,dp]
     by_cases he:(rdN (rdN t 0).2.2 (rdN t 0).1).1=0
     ·rw [bd he,cond_false]
      have:=ht.num.num
      rw [he] at hd this ⊢
      exact go _ _ hd this.suf
     ·rw [bn he,cond_true]
      exact stop _ _ _ _ _ hd he
    ·by_cases k6:b.toNat=6
     ·have hd:eN (b::t)=(⟨b.toNat,capN (rdN t 0),0⟩,(rdN t 0).1,(rdN t 0).2.2):=by
       rw [gh];unfold kL;rw [hk,cond_false,aJ (by omega),cond_false,aQ (by omega),cond_true]
      rw [aJ (show (b.toNat:Int)≠3 by omega),aQ (show (b.toNat:Int)=6 by omega),aJ (show (b.toNat:Int)≠7 by omega)]
      simp only [Bool.or_true,Bool.or_false,cond_true,cond_false]
      rw [gG hs ht,aj,dp]
      by_cases he:(rdN t 0).1=0
      ·rw [bd he,cond_false]
       have:=ht.num
       rw [he] at hd this ⊢
       exact go _ _ hd this.suf
      ·rw [bn he,cond_true]
       exact stop _ _ _ _ _ hd he
     ·by_cases k7:b.toNat=7
      ·have hd:eN (b::t)=(⟨b.toNat,zag (rdN t 0).2.1,capN (rdN (rdN t 0).2.2 (rdN t 0).1)⟩,(rdN (rdN t 0).2.2 (rdN t 0).1).1,(rdN (rdN t 0).2.2 (rdN t 0).1).2.2):=by
        rw [gh];unfold kL;rw [hk,cond_false,aJ (by omega),cond_false,aJ (by omega),cond_false,aQ (by omega),cond_true]
       rw [aJ (show (b.toNat:Int)≠3 by omega),aJ (show (b.toNat:Int)≠6 by omega),aQ (show (b.toNat:Int)=7 by omega)]
       simp only [Bool.or_true,Bool.or_false,cond_true,cond_false]
       rw [gF hs ht,aj,gG hs ht.num,aj,dp]
       by_cases he:(rdN (rdN t 0).2.2 (rdN t 0).1).1=0
       ·rw [bd he,cond_false]
        have:=ht.num.num
        rw [he] at hd this ⊢
        exact go _ _ hd this.suf
       ·rw [bn he,cond_true]
        exact stop _ _ _ _ _ hd he
      ·have hd:eN (b::t)=(⟨b.toNat,0,0⟩,0,t):=by
        rw [gh];unfold kL;rw [hk,cond_false,aJ (by omega),cond_false,aJ (by omega),cond_false,aJ (by omega),cond_false]
       rw [aJ (show (b.toNat:Int)≠3 by omega),aJ (show (b.toNat:Int)≠6 by omega),aJ (show (b.toNat:Int)≠7 by omega)]
       simp only [Bool.or_false,cond_false]
       rw [bd rfl,cond_false]
       exact go _ _ hd ht.suf
theorem sM {s:ByteArray} (hs:s.size≤9007199254740992) {l:List UInt8} (h:l<:+bl s):∃ l' e',je (mkR s l 0)=some ((ja l).1,mkR s l' e',(ja l).2.1)∧((ja l).2.1=0→l'=(ja l).2.2∧e'=0∧l'<:+bl s):=by
 have h0:RdOK s l 0:=⟨h,fun h=>absurd rfl h⟩
 unfold je
 rw [gG hs h0,aj]
 have hn:=h0.num
 dsimp only
 rw [dp]
 unfold ja
 by_cases he:(rdN l 0).1=0
 ·rw [bd he,cond_false,aQ he,cond_true]
  by_cases hl:32<((rdN l 0).2.1:Int)
  ·rw [aR (by unfold capN;omega),cond_true,aR hl,cond_true]
   exact ⟨_,_,rfl,fun h=>absurd h (by decide:(4:Int)≠0)⟩
  ·have hc:capN (rdN l 0)=(rdN l 0).2.1:=by unfold capN;omega
   rw [aU (by rw [hc];omega),cond_false,aU (by omega),cond_false,he]
   obtain ⟨l',e',h1,h2⟩:=Ag hs ((capN (rdN l 0):Int),mkR s (rdN l 0).2.2 0) (rdN l 0).2.1 (by rw [hc]) (by omega) (rdN l 0).2.1 0 fuel [] (rdN l 0).2.2 (by omega) (by have:=aL;omega) rfl hn.suf
   refine ⟨l',e',Eq.trans h1 ?_,?_⟩
   ·unfold outR
    generalize bI (rdN l 0).2.1 (rdN l 0).2.2 []=r
    by_cases g1:r.2.1=0
    ·rw [aQ g1,cond_true,cond_true]
     by_cases g2:(chkL r.1).2=0
     ·rw [aQ g2,cond_true,cond_true]
     ·rw [aJ g2,cond_false,cond_false]
    ·rw [aJ g1,cond_false,cond_false]
   ·generalize bI (rdN l 0).2.1 (rdN l 0).2.2 []=r at*
    by_cases g1:r.2.1=0
    ·rw [aQ g1,cond_true]
     by_cases g2:(chkL r.1).2=0
     ·rw [aQ g2,cond_true];exact fun _=>h2 g1
     ·rw [aJ g2,cond_false];exact fun h=>absurd h g2
    ·rw [aJ g1,cond_false];exact fun h=>absurd h g1
 ·rw [bn he,cond_true,aJ he,cond_false]
  exact ⟨_,_,rfl,fun h=>absurd h he⟩
theorem yp {l:List UInt8} (h:(eN l).2.1=0) (hr:RngD (eN l).1):l=putD (eN l).1++(eN l).2.2:=by
 cases l with
 | nil=>exact absurd h (by decide:(3:Int)≠0)
 | cons b t=>
  have hu:UInt8.ofNat b.toNat=b:=fX b
  have hb:=j4 b
  rw [gh] at h hr ⊢
  unfold kL at h hr ⊢
  cases hk:(iLt (b.toNat:Int) 1||iLt 7 (b.toNat:Int)) with
  | true=>rw [hk,cond_true] at h;exact absurd h (by decide:(6:Int)≠0)
  | false=>
   rw [hk,cond_false] at h hr
   rw [cond_false]
   by_cases k3:(b.toNat:Int)=3
   ·rw [aQ k3,cond_true] at h hr ⊢
    dsimp only at h
    have e1:=vN h
    obtain ⟨i1,j1⟩:=eI (l:=t) e1
    rw [e1] at h
    obtain ⟨i2,j2⟩:=eI (l:=(rdN t 0).2.2) h
    rw [e1] at hr ⊢
    have ⟨_,ha,hbb,_,_,_⟩:=hr
    generalize (rdN (rdN t 0).2.2 0)=r2 at*
    generalize (rdN t 0)=r1 at*
    obtain ⟨x1,n1,t1⟩:=r1
    obtain ⟨x2,n2,t2⟩:=r2
    unfold putD capN at*
    dsimp only at*
    rw [if_pos k3,Int.toNat_natCast,hu,show ((min n1 2147483648:Nat):Int).toNat=n1 by omega,show ((min n2 2147483648:Nat):Int).toNat=n2 by omega,List.cons_append,List.append_assoc,←i2,←i1]
   ·rw [aJ k3,cond_false] at h hr ⊢
    by_cases k6:(b.toNat:Int)=6
    ·rw [aQ k6,cond_true] at h hr ⊢
     dsimp only at h
     obtain ⟨i1,j1⟩:=eI (l:=t) h
     have ⟨_,ha,hbb,_,_,_⟩:=hr
     generalize (rdN t 0)=r1 at*
     obtain ⟨x1,n1,t1⟩:=r1
     unfold putD capN at*
     dsimp only at*
     rw [if_neg k3,if_pos k6,Int.toNat_natCast,hu,show ((min n1 2147483648:Nat):Int).toNat=n1 by omega,List.cons_append,←i1]
    ·rw [aJ k6,cond_false] at h hr ⊢
     by_cases k7:(b.toNat:Int)=7
     ·rw [aQ k7,cond_true] at h hr ⊢
      dsimp only at h
      have e1:=vN h
      obtain ⟨i1,j1⟩:=eI (l:=t) e1
      rw [e1] at h
      obtain ⟨i2,j2⟩:=eI (l:=(rdN t 0).2.2) h
      rw [e1] at hr ⊢
      have ⟨_,ha,hbb,_,_,_⟩:=hr
      generalize (rdN (rdN t 0).2.2 0)=r2 at*
      generalize (rdN t 0)=r1 at*
      obtain ⟨x1,n1,t1⟩:=r1
      obtain ⟨x2,n2,t2⟩:=r2
      unfold putD capN at*
      dsimp only at*
      rw [if_neg k3,if_neg k6,if_pos k7,Int.toNat_natCast,hu,vA,show ((min n2 2147483648:Nat):Int).toNat=n2 by omega,List.cons_append,List.append_assoc,←i2,←i1]
     ·rw [aJ k7,cond_false]
      unfold putD
      dsimp only
      rw [if_neg k3,if_neg k6,if_neg k7,Int.toNat_natCast,hu]
      rfl
theorem qw:∀ (n:Nat) (l:List UInt8) (acc:List ab),(bI n l acc).2.1=0→(∀ d∈(bI n l acc).1,RngD d)→∃ L,(bI n l acc).1=acc++L∧L.length=n∧l=L.flatMap putD++(bI n l acc).2.2
 | 0,l,acc,h,hr=>⟨[],by simp [bI]⟩
 | n+1,l,acc,h,hr=>by
  rw [bI] at h hr ⊢
  by_cases he:(eN l).2.1=0
  ·rw [aQ he,cond_true] at h hr ⊢
   obtain ⟨L,h1,h2,h3⟩:=qw n _ _ h hr
   have hd:RngD (eN l).1:=hr _ (by rw [h1];simp)
   refine ⟨(eN l).1::L,by rw [h1];simp,by simp [h2],?_⟩
   rw [List.flatMap_cons,List.append_assoc,←h3]
   exact yp he hd
  ·rw [aJ he,cond_false] at h
   exact absurd h he
theorem qx {l:List UInt8} (h:(ja l).2.1=0):(chkL (ja l).1).2=0∧l=Bv (ja l).1++(ja l).2.2:=by
 unfold ja at h ⊢
 by_cases a1:(rdN l 0).1=0
 ·rw [aQ a1,cond_true] at h ⊢
  cases a2:iLt 32 ((rdN l 0).2.1:Int) with
  | true=>rw [a2,cond_true] at h;exact absurd h (by decide:(4:Int)≠0)
  | false=>
   rw [a2,cond_false] at h
   rw [cond_false]
   by_cases a3:(bI (rdN l 0).2.1 (rdN l 0).2.2 []).2.1=0
   ·rw [aQ a3,cond_true] at h ⊢
    by_cases a4:(chkL (bI (rdN l 0).2.1 (rdN l 0).2.2 []).1).2=0
    ·rw [aQ a4,cond_true]
     refine ⟨a4,?_⟩
     obtain ⟨c1,c2,c3,c4⟩:=C1 a4
     obtain ⟨L,h1,h2,h3⟩:=qw _ _ _ a3 c4
     obtain ⟨i1,j1⟩:=eI (l:=l) a1
     dsimp only
     unfold Bv
     rw [h1,List.nil_append,h2,List.append_assoc,←h3]
     exact i1
    ·rw [aJ a4,cond_false] at h;exact absurd h a4
   ·rw [aJ a3,cond_false] at h;exact absurd h a3
 ·rw [aJ a1,cond_false] at h;exact absurd h a1
end LJ
end
section
namespace LJ
open Go Go.RowKit
set_option linter.unusedVariables false
set_option linter.unusedSimpArgs false
def sN:List ByteArray:=[(⟨#[112,117,115,104]⟩:ByteArray),(⟨#[108,111,97,100]⟩:ByteArray),(⟨#[115,116,111,114,101]⟩:ByteArray),(⟨#[97,100,100]⟩:ByteArray),(⟨#[115,117,98]⟩:ByteArray),(⟨#[109,117,108]⟩:ByteArray),(⟨#[100,105,118]⟩:ByteArray),(⟨#[109,111,100]⟩:ByteArray),(⟨#[110,101,103]⟩:ByteArray),(⟨#[108,116]⟩:ByteArray),(⟨#[101,113]⟩:ByteArray),(⟨#[97,110,100]⟩:ByteArray),(⟨#[111,114]⟩:ByteArray),(⟨#[120,111,114]⟩:ByteArray),(⟨#[115,104,108]⟩:ByteArray),(⟨#[115,104,114]⟩:ByteArray),(⟨#[100,117,112]⟩:ByteArray),(⟨#[100,114,111,112]⟩:ByteArray),(⟨#[106,117,109,112]⟩:ByteArray),(⟨#[122,101,114,111]⟩:ByteArray),(⟨#[99,97,108,108]⟩:ByteArray),(⟨#[114,101,116]⟩:ByteArray),(⟨#[115,101,108,102]⟩:ByteArray),(⟨#[110,111,119]⟩:ByteArray),(⟨#[111,117,116]⟩:ByteArray),(⟨#[121,105,101,108,100]⟩:ByteArray),(⟨#[119,97,105,116]⟩:ByteArray),(⟨#[119,97,105,116,102,111,114]⟩:ByteArray),(⟨#[115,108,101,101,112]⟩:ByteArray),(⟨#[117,110,108,111,99,107]⟩:ByteArray),(⟨#[112,111,115,116]⟩:ByteArray),(⟨#[103,105,118,101]⟩:ByteArray),(⟨#[99,119,97,105,116]⟩:ByteArray),(⟨#[99,119,97,105,116,102,111,114]⟩:ByteArray),(⟨#[115,105,103,110,97,108]⟩:ByteArray),(⟨#[98,114,111,97,100,99,97,115,116]⟩:ByteArray),(⟨#[101,110,114,111,108]⟩:ByteArray),(⟨#[108,101,97,118,101]⟩:ByteArray),(⟨#[97,114,114,105,118,101]⟩:ByteArray),(⟨#[97,114,114,105,118,101,102,111,114]⟩:ByteArray),(⟨#[115,112,97,119,110]⟩:ByteArray),(⟨#[106,111,105,110]⟩:ByteArray),(⟨#[106,111,105,110,102,111,114]⟩:ByteArray),(⟨#[103,114,97,110,116]⟩:ByteArray),(⟨#[119,97,105,118,101]⟩:ByteArray),(⟨#[114,101,97,100]⟩:ByteArray),(⟨#[119,114,105,116,101]⟩:ByteArray),(⟨#[98,101,103,105,110]⟩:ByteArray),(⟨#[99,111,109,109,105,116]⟩:ByteArray),(⟨#[99,108,97,105,109]⟩:ByteArray),(⟨#[100,101,97,100]⟩:ByteArray),(⟨#[109,101,110,100]⟩:ByteArray)]
def qy:List ByteArray:=[(⟨#[110]⟩:ByteArray),(⟨#[107]⟩:ByteArray),(⟨#[107]⟩:ByteArray),ByteArray.empty,ByteArray.empty,ByteArray.empty,ByteArray.empty,ByteArray.empty,ByteArray.empty,ByteArray.empty,ByteArray.empty,ByteArray.empty,ByteArray.empty,ByteArray.empty,ByteArray.empty,ByteArray.empty,ByteArray.empty,ByteArray.empty,(⟨#[116]⟩:ByteArray),(⟨#[116]⟩:ByteArray),(⟨#[102]⟩:ByteArray),ByteArray.empty,ByteArray.empty,ByteArray.empty,ByteArray.empty,ByteArray.empty,(⟨#[119]⟩:ByteArray),(⟨#[119]⟩:ByteArray),ByteArray.empty,(⟨#[117]⟩:ByteArray),(⟨#[115]⟩:ByteArray),(⟨#[112]⟩:ByteArray),(⟨#[99,109]⟩:ByteArray),(⟨#[99,109]⟩:ByteArray),(⟨#[99]⟩:ByteArray),(⟨#[99]⟩:ByteArray),(⟨#[98]⟩:ByteArray),(⟨#[98]⟩:ByteArray),(⟨#[98]⟩:ByteArray),(⟨#[98]⟩:ByteArray),(⟨#[102]⟩:ByteArray),(⟨#[106,106]⟩:ByteArray),(⟨#[106,106]⟩:ByteArray),ByteArray.empty,ByteArray.empty,(⟨#[118]⟩:ByteArray),(⟨#[118]⟩:ByteArray),ByteArray.empty,ByteArray.empty,(⟨#[113]⟩:ByteArray),(⟨#[109]⟩:ByteArray),(⟨#[109]⟩:ByteArray)]
def nu:List ByteArray:=[(⟨#[110]⟩:ByteArray),(⟨#[107]⟩:ByteArray),(⟨#[107]⟩:ByteArray),(⟨#[46]⟩:ByteArray),(⟨#[46]⟩:ByteArray),(⟨#[46]⟩:ByteArray),(⟨#[46]⟩:ByteArray),(⟨#[46]⟩:ByteArray),(⟨#[46]⟩:ByteArray),(⟨#[46]⟩:ByteArray),(⟨#[46]⟩:ByteArray),(⟨#[46]⟩:ByteArray),(⟨#[46]⟩:ByteArray),(⟨#[46]⟩:ByteArray),(⟨#[46]⟩:ByteArray),(⟨#[46]⟩:ByteArray),(⟨#[46]⟩:ByteArray),(⟨#[46]⟩:ByteArray),(⟨#[116]⟩:ByteArray),(⟨#[116]⟩:ByteArray),(⟨#[102]⟩:ByteArray),(⟨#[46]⟩:ByteArray),(⟨#[46]⟩:ByteArray),(⟨#[46]⟩:ByteArray),(⟨#[46]⟩:ByteArray),(⟨#[46]⟩:ByteArray),(⟨#[119]⟩:ByteArray),(⟨#[119]⟩:ByteArray),(⟨#[46]⟩:ByteArray),(⟨#[117]⟩:ByteArray),(⟨#[115]⟩:ByteArray),(⟨#[112]⟩:ByteArray),(⟨#[99,109]⟩:ByteArray),(⟨#[99,109]⟩:ByteArray),(⟨#[99]⟩:ByteArray),(⟨#[99]⟩:ByteArray),(⟨#[98]⟩:ByteArray),(⟨#[98]⟩:ByteArray),(⟨#[98]⟩:ByteArray),(⟨#[98]⟩:ByteArray),(⟨#[102]⟩:ByteArray),(⟨#[106,106]⟩:ByteArray),(⟨#[106,106]⟩:ByteArray),(⟨#[46]⟩:ByteArray),(⟨#[46]⟩:ByteArray),(⟨#[118]⟩:ByteArray),(⟨#[118]⟩:ByteArray),(⟨#[46]⟩:ByteArray),(⟨#[46]⟩:ByteArray),(⟨#[113]⟩:ByteArray),(⟨#[109]⟩:ByteArray),(⟨#[109]⟩:ByteArray)]
theorem vS:sN.length=52:=by decide
theorem vT:qy.length=52:=by decide
theorem uC:nu.length=52:=by decide
theorem uD:eT (⟨#[112,117,115,104,32,108,111,97,100,32,115,116,111,114,101,32,97,100,100,32,115,117,98,32,109,117,108,32,100,105,118,32,109,111,100,32,110,101,103,32,108,116,32,101,113,32,97,110,100,32,111,114,32,120,111,114,32,115,104,108,32,115,104,114,32,100,117,112,32,100,114,111,112,32,106,117,109,112,32,122,101,114,111,32,99,97,108,108,32,114,101,116,32,115,101,108,102,32,110,111,119,32,111,117,116,32,121,105,101,108,100,32,119,97,105,116,32,119,97,105,116,102,111,114,32,115,108,101,101,112,32,117,110,108,111,99,107,32,112,111,115,116,32,103,105,118,101,32,99,119,97,105,116,32,99,119,97,105,116,102,111,114,32,115,105,103,110,97,108,32,98,114,111,97,100,99,97,115,116,32,101,110,114,111,108,32,108,101,97,118,101,32,97,114,114,105,118,101,32,97,114,114,105,118,101,102,111,114,32,115,112,97,119,110,32,106,111,105,110,32,106,111,105,110,102,111,114,32,103,114,97,110,116,32,119,97,105,118,101,32,114,101,97,100,32,119,114,105,116,101,32,98,101,103,105,110,32,99,111,109,109,105,116,32,99,108,97,105,109,32,100,101,97,100,32,109,101,110,100]⟩:ByteArray)=some sN:=by decide+kernel
theorem uE:eT (⟨#[110,32,107,32,107,32,46,32,46,32,46,32,46,32,46,32,46,32,46,32,46,32,46,32,46,32,46,32,46,32,46,32,46,32,46,32,116,32,116,32,102,32,46,32,46,32,46,32,46,32,46,32,119,32,119,32,46,32,117,32,115,32,112,32,99,109,32,99,109,32,99,32,99,32,98,32,98,32,98,32,98,32,102,32,106,106,32,106,106,32,46,32,46,32,118,32,118,32,46,32,46,32,113,32,109,32,109]⟩:ByteArray)=some nu:=by decide+kernel
def opK (k:Int):Bool:=iLe 0 k&&iLt k 52
theorem jY {k:Int} :opK k=true↔0≤k∧k<52:=by unfold opK;simp only [Bool.and_eq_true,dS,cP]
theorem xu {k:Int} :opK k=false↔¬(0≤k∧k<52):=by rw [←jY];simp
theorem kM (k:Int):kC k=some (opK k):=rfl
theorem fM (k:Int):dA k=some (opK k):=by
 unfold dA opK
 congr 1
 have:iLe k 51=iLt k 52:=by unfold iLe iLt;congr 1;rw [eq_iff_iff];omega
 rw [this]
def Bw (k:Int):ByteArray:=cond (opK k) (sN.getD k.toNat default) ByteArray.empty
def dq (k:Int):ByteArray:=cond (opK k) (qy.getD k.toNat default) ByteArray.empty
theorem rZ (k:Int):mm k=some (Bw k):=by
 unfold mm Bw
 rw [kM,aj,uD,aj]
 cases h:opK k with
 | false=>rfl
 | true=>
  have:=jY.1 h
  rw [Bool.not_true,cond_false,cond_true,aB (aN (by rw [vS];omega))]
theorem Ah:∀ k:Fin 52,cond (sEq (nu.getD k default) (⟨#[46]⟩:ByteArray)) ByteArray.empty (nu.getD k default)=qy.getD k default:=by decide+kernel
theorem og (k:Int):kD k=some (dq k):=by
 unfold kD dq
 rw [kM,aj,uE,aj]
 cases h:opK k with
 | false=>rfl
 | true=>
  have hk:=jY.1 h
  rw [Bool.not_true,cond_false,cond_true,aB (aN (by rw [uC];omega))]
  have:=Ah ⟨k.toNat,by omega⟩
  dsimp only at this
  rw [←this]
  cases sEq (nu.getD k.toNat default) (⟨#[46]⟩:ByteArray) <;> rfl
theorem Bx:∀ k:Fin 52,sN.getD k default≠ByteArray.empty:=by decide+kernel
theorem qz (k:Int):sEq (Bw k) ByteArray.empty= !opK k:=by
 unfold Bw
 cases h:opK k with
 | false=>exact CQ rfl
 | true=>
  have hk:=jY.1 h
  exact yh (Bx ⟨k.toNat,by omega⟩)
end LJ
end
section
namespace LJ
open Go Go.RowKit
set_option linter.unusedVariables false
set_option linter.unusedSimpArgs false
theorem yq:∀ k:Fin 52,(qy.getD k default).size≤2:=by decide+kernel
theorem fD (k:Int):(dq k).size≤2:=by
 unfold dq
 cases h:opK k with
 | false=>simp
 | true=>
  have hk:=jY.1 h
  exact yq ⟨k.toNat,by omega⟩
theorem rn:kB=some qy:=rfl
theorem kN (k:Int):gm k=some (dq k):=by
 unfold gm dq
 rw [fM,aj,rn,aj]
 cases h:opK k with
 | false=>rfl
 | true=>
  have:=jY.1 h
  rw [Bool.not_true,cond_false,cond_true,aB (aN (by rw [vT];omega))]
def inL (c n:Int):Bool:=
 cond (iEq c 110) (fitW n) (cond (iEq c 107) (iLe 0 n&&iLt n 8) (cond (iEq c 116) (iLe 0 n&&iLt n 200) (cond (iEq c 102) (iLe 0 n&&iLt n 16) (cond (iEq c 106) (iLe 1 n&&iLe n 4) (iLe 0 n&&iLt n 32)))))
theorem Ai (c n:Int):uv c n=some (inL c n):=by
 unfold uv inL
 rw [oN,aj]
 simp only [bb]
 congr 1
 by_cases h:c=119
 ·subst h;rfl
 ·rw [aJ h];rfl
def vU (c:Int):Int:=cond (iEq c 107) 7 (cond (iEq c 116) 199 (cond (iEq c 102) 15 (cond (iEq c 106) 4 31)))
def qA (c:Int):Int:=cond (iEq c 106) 1 0
theorem C2 (c:Int):jc c=some (vU c):=by
 unfold jc vU
 simp only [bb]
theorem Bz (c:Int):hJ c=some (qA c):=by
 unfold hJ qA
 simp only [bb]
theorem uF (c n:Int):inL c n=cond (iEq c 110) (fitW n) (!(iLt n (qA c))&& !(iLt (vU c) n)):=by
 have key:∀ a b:Int,(!(iLt n a)&& !(iLt b n))=(iLe a n&&iLt n (b+1)):=fun a b=>by
  rw [Bool.eq_iff_iff]
  simp only [Bool.and_eq_true,Bool.not_eq_true',bM,dS,cP]
  omega
 unfold inL qA vU
 cases iEq c 110 with
 | true=>rfl
 | false=>
  rw [cond_false,cond_false]
  by_cases h1:c=107
  ·subst h1;exact (key 0 7).symm
  ·rw [aJ h1]
   by_cases h2:c=116
   ·subst h2;exact (key 0 199).symm
   ·rw [aJ h2]
    by_cases h3:c=102
    ·subst h3;exact (key 0 15).symm
    ·rw [aJ h3]
     by_cases h4:c=106
     ·subst h4
      rw [aQ rfl]
      simp only [cond_true,cond_false]
      rw [key 1 4,Bool.eq_iff_iff]
      simp only [Bool.and_eq_true,dS,cP]
      omega
     ·rw [aJ h4];exact (key 0 31).symm
theorem mo {c n:Int} (h:inL c n=true): -2147483648≤n∧n<2147483648∧(c≠110→0≤n):=by
 rw [uF] at h
 by_cases hc:c=110
 ·rw [aQ hc,cond_true] at h
  unfold fitW at h
  simp only [Bool.and_eq_true,dS,cP] at h
  exact ⟨h.1,h.2,fun h'=>absurd hc h'⟩
 ·rw [aJ hc,cond_false] at h
  simp only [Bool.and_eq_true,Bool.not_eq_true',bM] at h
  have h1:0≤qA c∧vU c≤199:=by
   unfold qA vU
   cases iEq c 107 <;> cases iEq c 116 <;> cases iEq c 102 <;> cases iEq c 106 <;> simp only [cond_true,cond_false] <;> omega
  exact ⟨by omega,by omega,fun _=>by omega⟩
def okF (f:ByteArray) (A B:Int):Bool:=(iLe (f.size:Int) 0||inL (bf f 0) A)&&(iLe (f.size:Int) 1||inL (bf f 1) B)
def zF (f:ByteArray) (A B:Int):Bool:=(iLt 0 (f.size:Int)||iEq A 0)&&(iLt 1 (f.size:Int)||iEq B 0)
def jjF (f:ByteArray) (A B:Int):Bool:=sEq f (⟨#[106,106]⟩:ByteArray)&&iLt B A
def chkF (f:ByteArray) (A B:Int):Int:=cond (okF f A B) (cond (jjF f A B) 1 (cond (zF f A B) 0 2)) 1
def chkI (x:ar):Int:=cond (opK x.Op) (chkF (dq x.Op) x.A x.B) 6
theorem yr {f:ByteArray} (hf:f.size≤2):f.size=0∨f.size=1∨f.size=2:=by omega
theorem Aj:∃ F,fuel=F+1+1+1:=⟨fuel - 3,by have:=aL;omega⟩
theorem sO {x:ar} {f:ByteArray} {F i:Nat} (hi:i+f.size<2):cU x f (F+1) (i:Int)=cond (iNe ([x.A,x.B].getD (f.size+i) default) 0) (some 2) (cU x f F ((i+1:Nat):Int)):=by
 rw [cU,aR (by omega),cond_true,aB (zT (by omega)),aB (aN (by omega)),aB (aN (by omega)),w64 (by omega),show ((f.size:Int)+(i:Int)).toNat=f.size+i by omega,show (i:Int)+1=((i+1:Nat):Int) by omega]
theorem vV {x:ar} {f:ByteArray} {F i:Nat} (hi:¬i+f.size<2):cU x f (F+1) (i:Int)=some 0:=by
 rw [cU,aU (by omega),cond_false]
theorem mq (a b:Int):iNe a b= !iEq a b:=by unfold iNe iEq;simp
theorem DN (x:ar) {f:ByteArray} (hf:f.size≤2):cU x f fuel 0=some (cond (zF f x.A x.B) 0 2):=by
 obtain ⟨F,hF⟩:=Aj
 rw [hF,show (0:Int)=((0:Nat):Int) from rfl]
 unfold zF
 rcases yr hf with h | h | h
 ·rw [sO (by omega),sO (by omega),vV (by omega),h,mq,mq]
  show cond (!iEq x.A 0) (some 2) (cond (!iEq x.B 0) (some 2) (some 0))=_
  cases iEq x.A 0 <;> cases iEq x.B 0 <;> rfl
 ·rw [sO (by omega),vV (by omega),h,mq]
  show cond (!iEq x.B 0) (some 2) (some 0)=_
  cases iEq x.B 0 <;> rfl
 ·rw [vV (by omega),h]
  rfl
theorem sP {x:ar} {F i:Nat} (hi:i<2):cm x (F+1) (i:Int)=cond (iNe ([x.A,x.B].getD i default) 0) (some 2) (cm x F ((i+1:Nat):Int)):=by
 rw [cm,aR (by omega),cond_true,aB (aN ⟨by omega,by simp only [List.length_cons,List.length_nil];omega⟩),w64 (by omega),Int.toNat_natCast,show (i:Int)+1=((i+1:Nat):Int) by omega]
theorem vW {x:ar} {F i:Nat} (hi:¬i<2):cm x (F+1) (i:Int)=some 0:=by
 rw [cm,aU (by omega),cond_false]
theorem DP (x:ar) {f:ByteArray} (hf:f.size≤2):cm x fuel (f.size:Int)=some (cond (zF f x.A x.B) 0 2):=by
 obtain ⟨F,hF⟩:=Aj
 rw [hF]
 unfold zF
 rcases yr hf with h | h | h
 ·rw [h,sP (by omega),sP (by omega),vW (by omega),mq,mq]
  show cond (!iEq x.A 0) (some 2) (cond (!iEq x.B 0) (some 2) (some 0))=_
  cases iEq x.A 0 <;> cases iEq x.B 0 <;> rfl
 ·rw [h,sP (by omega),vW (by omega),mq]
  show cond (!iEq x.B 0) (some 2) (some 0)=_
  cases iEq x.B 0 <;> rfl
 ·rw [h,vW (by omega)]
  rfl
theorem C3 {x:ar} {f:ByteArray} {F i:Nat} (hi:i<f.size) (hf:f.size≤2):dv x f (F+1) (i:Int)=cond (inL (bf f i) ([x.A,x.B].getD i default)) (dv x f F ((i+1:Nat):Int)) (some 1):=by
 rw [dv,aR (by omega),cond_true,aB (aN (by omega)),aB (aN (by omega)),Int.toNat_natCast,Ai,aj,kK,w64 (by omega),show (i:Int)+1=((i+1:Nat):Int) by omega]
theorem DQ {x:ar} {f:ByteArray} {F i:Nat} (hi:¬i<f.size) (hf:f.size≤2):dv x f (F+1) (i:Int)=some (cond (jjF f x.A x.B) 1 (cond (zF f x.A x.B) 0 2)):=by
 rw [dv,aU (by omega),cond_false,aB (ue (by omega)),DN x hf]
 unfold jjF
 simp only [bb]
theorem C4 {x:ar} {f:ByteArray} {F i:Nat} (hi:i<f.size) (hf:f.size≤2):bV x f (F+1) (i:Int)=cond (inL (bf f i) ([x.A,x.B].getD i default)) (bV x f F ((i+1:Nat):Int)) (some 1):=by
 have h2:nIn (i:Int) (([x.A,x.B]:List Int).length:Int)=true:=aN ⟨by omega,by simp only [List.length_cons,List.length_nil];omega⟩
 have h1:nIn (i:Int) (f.size:Int)=true:=aN (by omega)
 rw [bV,aR (by omega),cond_true,h1,h2,np,Bz,C2,uF,w64 (by omega),Int.toNat_natCast,show (i:Int)+1=((i+1:Nat):Int) by omega]
 simp only [aB,aj,kK,mq]
 generalize bf f i=c
 generalize ([x.A,x.B].getD i default)=v
 cases iEq c 110 with
 | true=>simp only [cond_true,cond_false]
 | false=>
  simp only [cond_true,cond_false]
  cases iLt v (qA c) <;> cases iLt (vU c) v <;> rfl
theorem DR {x:ar} {f:ByteArray} {F i:Nat} (hi:¬i<f.size) (hf:f.size≤2):bV x f (F+1) (i:Int)=some (cond (jjF f x.A x.B) 1 (cond (zF f x.A x.B) 0 2)):=by
 rw [bV,aU (by omega),cond_false,DP x hf]
 unfold jjF
 simp only [bb]
theorem Ak {x:ar} {f:ByteArray} (hf:f.size≤2) (g:Nat→Int→Option Int) (hs:∀ F i:Nat,i<f.size→g (F+1) (i:Int)=cond (inL (bf f i) ([x.A,x.B].getD i default)) (g F ((i+1:Nat):Int)) (some 1)) (he:∀ F i:Nat,¬i<f.size→g (F+1) (i:Int)=some (cond (jjF f x.A x.B) 1 (cond (zF f x.A x.B) 0 2))):g fuel 0=some (chkF f x.A x.B):=by
 obtain ⟨F,hF⟩:=Aj
 rw [hF,show (0:Int)=((0:Nat):Int) from rfl]
 unfold chkF okF
 rcases yr hf with h | h | h
 ·rw [he _ _ (by omega),h];rfl
 ·rw [hs _ _ (by omega),he _ _ (by omega),h]
  show cond (inL (bf f 0) x.A) _ _=_
  cases inL (bf f 0) x.A <;> rfl
 ·rw [hs _ _ (by omega),hs _ _ (by omega),he _ _ (by omega),h]
  show cond (inL (bf f 0) x.A) (cond (inL (bf f 1) x.B) _ _) _=_
  cases inL (bf f 0) x.A <;> cases inL (bf f 1) x.B <;> rfl
theorem oP (x:ar):jn x=some (chkI x):=by
 unfold jn chkI
 rw [rZ,aj,qz,og,aj,kK]
 have hf:=fD x.Op
 rw [Ak hf (dv x (dq x.Op)) (fun F i hi=>C3 hi hf) (fun F i hi=>DQ hi hf),bb]
theorem jZ (x:ar):fY x=some (chkI x):=by
 unfold fY chkI
 rw [fM,aj,kN,aj,kK]
 have hf:=fD x.Op
 rw [Ak hf (bV x (dq x.Op)) (fun F i hi=>C4 hi hf) (fun F i hi=>DR hi hf),bb]
structure OkI (x:ar):Prop where
 op:0≤x.Op∧x.Op<52
 a1:0<(dq x.Op).size→inL (bf (dq x.Op) 0) x.A=true
 b1:1<(dq x.Op).size→inL (bf (dq x.Op) 1) x.B=true
 a0:(dq x.Op).size=0→x.A=0
 b0:(dq x.Op).size≤1→x.B=0
theorem vX {x:ar} (h:chkI x=0):OkI x:=by
 unfold chkI at h
 cases hk:opK x.Op with
 | false=>rw [hk] at h;cases h
 | true=>
  rw [hk,cond_true] at h
  unfold chkF at h
  cases h1:okF (dq x.Op) x.A x.B with
  | false=>rw [h1] at h;cases h
  | true=>
   rw [h1,cond_true] at h
   cases h2:jjF (dq x.Op) x.A x.B with
   | true=>rw [h2] at h;cases h
   | false=>
    rw [h2,cond_false] at h
    cases h3:zF (dq x.Op) x.A x.B with
    | false=>rw [h3] at h;cases h
    | true=>
     unfold okF at h1
     unfold zF at h3
     simp only [Bool.and_eq_true,Bool.or_eq_true,dS,cP,cy] at h1 h3
     exact ⟨jY.1 hk,fun hs=>h1.1.resolve_left (by omega),fun hs=>h1.2.resolve_left (by omega),fun hs=>h3.1.resolve_left (by omega),fun hs=>h3.2.resolve_left (by omega)⟩
def putA (c n:Int):List UInt8:=cond (iEq c 110) (numL (zig n)) (numL n.toNat)
def putI (x:ar):List UInt8:=UInt8.ofNat x.Op.toNat::(cond (iLt 0 ((dq x.Op).size:Int)) (putA (bf (dq x.Op) 0) x.A) []++cond (iLt 1 ((dq x.Op).size:Int)) (putA (bf (dq x.Op) 1) x.B) [])
end LJ
end
section
namespace LJ
open Go Go.RowKit
set_option linter.unusedVariables false
set_option linter.unusedSimpArgs false
abbrev GI:=ar×Int×List UInt8
def valA (c:Int) (r:Int×Nat×List UInt8):Int:=cond (iEq c 110) (zag r.2.1) (capN r)
def finI (k a b:Int) (t:List UInt8):GI:=cond (iEq (chkI ⟨k,a,b⟩) 0) (⟨k,a,b⟩,0,t) (⟨0,0,0⟩,chkI ⟨k,a,b⟩,[])
def BA (k:Int) (f:ByteArray) (t:List UInt8):GI:=
 cond (iEq (f.size:Int) 0) (finI k 0 0 t)
  (cond (iEq (rdN t 0).1 0)
   (cond (iEq (f.size:Int) 1) (finI k (valA (bf f 0) (rdN t 0)) 0 (rdN t 0).2.2)
    (cond (iEq (rdN (rdN t 0).2.2 0).1 0) (finI k (valA (bf f 0) (rdN t 0)) (valA (bf f 1) (rdN (rdN t 0).2.2 0)) (rdN (rdN t 0).2.2 0).2.2) (⟨0,0,0⟩,(rdN (rdN t 0).2.2 0).1,[])))
   (⟨0,0,0⟩,(rdN t 0).1,[]))
def Al (b:UInt8) (t:List UInt8):GI:=cond (opK (b.toNat:Int)) (BA (b.toNat:Int) (dq (b.toNat:Int)) t) (⟨0,0,0⟩,6,[])
def getI:List UInt8→GI
 | []=>(⟨0,0,0⟩,3,[])
 | b::t=>Al b t
theorem qB (b:UInt8) (t:List UInt8):getI (b::t)=Al b t:=rfl
def outI (s:ByteArray) (r:GI):Option (ar×Int×Int):=some (r.1,cond (iEq r.2.1 0) ((s.size:Int) - r.2.2.length) 0,r.2.1)
theorem uG (r:Int×Nat×List UInt8) (h:r.2.1<18446744073709551616):IntKind.i64.wrap (iMin (r.2.1:Int) 2147483648)=(capN r:Int):=by
 unfold capN iMin
 split
 ·rw [w64 (by omega)];omega
 ·rw [w64 (by omega)];omega
theorem sQ {s:ByteArray} (hs:s.size≤9007199254740992) {x2:Int×ao} {f:ByteArray} {F i:Nat} {acc:List Int} {l:List UInt8} (hi:i<f.size) (hf:f.size≤2) (hl:l<:+bl s):
  eV s x2 f (F+1) ((i:Int),acc,(mkI s l 0).s,(mkI s l 0).at_,(mkI s l 0).err)=cond (iEq (rdN l 0).1 0) (eV s x2 f F (((i+1:Nat):Int),aset 2 acc i (valA (bf f i) (rdN l 0)),(mkI s (rdN l 0).2.2 0).s,(mkI s (rdN l 0).2.2 0).at_,(mkI s (rdN l 0).2.2 0).err)) (outI s (⟨0,0,0⟩,(rdN l 0).1,[])):=by
 have h0:RdOK s l 0:=⟨hl,fun h=>absurd rfl h⟩
 have hI:(⟨(mkI s l 0).s,(mkI s l 0).at_,(mkI s l 0).err⟩:ao)=mkI s l 0:=rfl
 rw [eV]
 dsimp only
 rw [aR (by omega),cond_true,aB (aN (by omega)),Int.toNat_natCast,hI,gq hs h0,eX hs h0,aj,aj,aB (aN (by omega)),aB (aN (by omega)),bL,aj,aj,w64 (by omega),show (i:Int)+1=((i+1:Nat):Int) by omega]
 dsimp only
 rw [uG _ (jP l 0)]
 unfold valA outI
 by_cases he:(rdN l 0).1=0
 ·rw [bd he,aQ he,cond_true,cond_false,cond_false,he]
  cases iEq (bf f i) 110 <;> rfl
 ·rw [bn he,aJ he,cond_false,cond_true,cond_true]
  cases iEq (bf f i) 110 <;> rfl
theorem vY {s:ByteArray} (hs:s.size≤9007199254740992) {x2:Int×ao} {f:ByteArray} {F i:Nat} {acc:List Int} {l:List UInt8} (hi:¬i<f.size) (hl:l<:+bl s):
  eV s x2 f (F+1) ((i:Int),acc,(mkI s l 0).s,(mkI s l 0).at_,(mkI s l 0).err)=outI s (finI x2.1 (acc.getD 0 default) (acc.getD 1 default) l):=by
 have hI:(⟨(mkI s l 0).s,(mkI s l 0).at_,(mkI s l 0).err⟩:ao)=mkI s l 0:=rfl
 have:=iY hl
 rw [eV]
 dsimp only
 rw [aU (by omega),cond_false,aB (aN (by decide)),aB (aN (by decide)),oP,aj,hI,sL s hs l 0 hl,aj,w64 (by omega)]
 show cond (iNe (chkI ⟨x2.1,acc.getD 0 default,acc.getD 1 default⟩) 0) _ _=_
 unfold outI finI
 by_cases he:chkI ⟨x2.1,acc.getD 0 default,acc.getD 1 default⟩=0
 ·rw [bd he,aQ he,cond_false,cond_true]
  rfl
 ·rw [bn he,aJ he,cond_true,cond_false]
  dsimp only
  rw [aJ he,cond_false]
  rfl
theorem lA {s:ByteArray} {l:List UInt8} (h:l<:+bl s):(rdN l 0).2.2<:+bl s:=(RdOK.num (s:=s) (l:=l) (e:=0) ⟨h,fun h=>absurd rfl h⟩).suf
theorem yt {s:ByteArray} (hs:s.size≤9007199254740992):qo s=outI s (getI (bl s)):=by
 unfold qo
 have h0:=RdOK.start s
 rw [qp,aj,mn hs h0,aj,bL,aj]
 cases hb:bl s with
 | nil=>rfl
 | cons b t=>
  have hl:(b::t)<:+bl s:=by rw [hb];exact List.suffix_refl _
  have ht:=jM hl
  have hbb:=j4 b
  show cond (iNe (0:Int) 0) _ ((mm (b.toNat:Int)).bind _)=_
  rw [bd rfl,cond_false,rZ,aj,qz,qB]
  unfold Al
  dsimp only [rdB]
  rw [og,aj]
  cases hk:opK (b.toNat:Int) with
  | false=>rfl
  | true=>
   rw [Bool.not_true,cond_false,cond_true]
   have hf:=fD (b.toNat:Int)
   generalize dq (b.toNat:Int)=f at*
   obtain ⟨F,hF⟩:=Aj
   rw [hF]
   unfold BA
   have e0:((0:Nat):Int)=0:=rfl
   rcases yr hf with h | h | h
   ·refine (vY hs (f:=f) (i:=0) (by omega) ht).trans ?_
    rw [aQ (show (f.size:Int)=0 by omega),cond_true]
    rfl
   ·refine (sQ hs (f:=f) (i:=0) (by omega) hf ht).trans ?_
    rw [aJ (show (f.size:Int)≠0 by omega),cond_false,aQ (show (f.size:Int)=1 by omega),cond_true,vY hs (by omega) (lA ht)]
    cases iEq (rdN t 0).1 0 <;> rfl
   ·refine (sQ hs (f:=f) (i:=0) (by omega) hf ht).trans ?_
    rw [aJ (show (f.size:Int)≠0 by omega),cond_false,aJ (show (f.size:Int)≠1 by omega),cond_false,sQ hs (by omega) hf (lA ht),vY hs (by omega) (lA (lA ht))]
    cases iEq (rdN t 0).1 0 <;> cases iEq (rdN (rdN t 0).2.2 0).1 0 <;> rfl
def RdI (s:ByteArray) (r:GI) (z:Option (ar×au×Int)):Prop:=∃ l' e',z=some (r.1,mkR s l' e',r.2.1)∧(r.2.1=0→l'=r.2.2∧e'=0∧l'<:+bl s)
theorem qC {s:ByteArray} (hs:s.size≤9007199254740992) {x1:Int×au} {f:ByteArray} {F i:Nat} {acc:List Int} {l:List UInt8} (hi:i<f.size) (hf:f.size≤2) (ha:acc.length=2) (hl:l<:+bl s):
  cW x1 f (F+1) ((i:Int),(mkR s l 0).S,(mkR s l 0).At,(mkR s l 0).Err,acc)=cond (iEq (rdN l 0).1 0) (cW x1 f F (((i+1:Nat):Int),(mkR s (rdN l 0).2.2 0).S,(mkR s (rdN l 0).2.2 0).At,(mkR s (rdN l 0).2.2 0).Err,acc.set i (valA (bf f i) (rdN l 0)))) (some (⟨0,0,0⟩,mkR s (rdN l 0).2.2 (rdN l 0).1,(rdN l 0).1)):=by
 have h0:RdOK s l 0:=⟨hl,fun h=>absurd rfl h⟩
 have hR:(⟨(mkR s l 0).S,(mkR s l 0).At,(mkR s l 0).Err⟩:au)=mkR s l 0:=rfl
 rw [cW]
 dsimp only
 rw [aR (by omega),cond_true,aB (aN (by omega)),Int.toNat_natCast,hR,gF hs h0,cX hs h0,aj,aj,aB (aN (by omega)),aB (aN (by omega)),w64 (by omega),show (i:Int)+1=((i+1:Nat):Int) by omega]
 dsimp only
 rw [dp,uG _ (jP l 0)]
 unfold valA
 by_cases he:(rdN l 0).1=0
 ·rw [bd he,aQ he,cond_true,cond_false,cond_false,he]
  cases iEq (bf f i) 110 <;> rfl
 ·rw [bn he,aJ he,cond_false,cond_true,cond_true]
  cases iEq (bf f i) 110 <;> rfl
theorem sR {s:ByteArray} {x1:Int×au} {f:ByteArray} {F i:Nat} {acc:List Int} {l:List UInt8} (hi:¬i<f.size) (ha:acc.length=2) (hl:l<:+bl s):
  RdI s (finI x1.1 (acc.getD 0 default) (acc.getD 1 default) l) (cW x1 f (F+1) ((i:Int),(mkR s l 0).S,(mkR s l 0).At,(mkR s l 0).Err,acc)):=by
 have hR:(⟨(mkR s l 0).S,(mkR s l 0).At,(mkR s l 0).Err⟩:au)=mkR s l 0:=rfl
 rw [cW]
 dsimp only
 rw [aU (by omega),cond_false,aB (aN (by omega)),aB (aN (by omega)),jZ,aj,hR]
 show RdI s _ (cond (iNe (chkI ⟨x1.1,acc.getD 0 default,acc.getD 1 default⟩) 0) _ _)
 unfold RdI finI
 by_cases he:chkI ⟨x1.1,acc.getD 0 default,acc.getD 1 default⟩=0
 ·rw [bd he,aQ he,cond_false,cond_true]
  exact ⟨l,0,rfl,fun _=>⟨rfl,rfl,hl⟩⟩
 ·rw [bn he,aJ he,cond_true,cond_false]
  exact ⟨l,0,rfl,fun h=>absurd h he⟩
theorem RdI.cond {s:ByteArray} {b:Bool} {r r':GI} {z z':Option (ar×au×Int)} (h:b=true→RdI s r z) (h':b=false→RdI s r' z'):RdI s (cond b r r') (cond b z z'):=by
 cases b with
 | true=>exact h rfl
 | false=>exact h' rfl
theorem RdI.err {s:ByteArray} {e:Int} {l':List UInt8} {e':Int} (h:e≠0):RdI s (⟨0,0,0⟩,e,[]) (some (⟨0,0,0⟩,mkR s l' e',e)):=⟨l',e',rfl,fun h'=>absurd h' h⟩
theorem sS {s:ByteArray} (hs:s.size≤9007199254740992) {l:List UInt8} (hl:l<:+bl s):RdI s (getI l) (jf (mkR s l 0)):=by
 have h0:RdOK s l 0:=⟨hl,fun h=>absurd rfl h⟩
 unfold jf
 rw [qq hs h0,aj]
 dsimp only
 rw [dp]
 cases l with
 | nil=>exact RdI.err (by decide)
 | cons b t=>
  have ht:=jM hl
  have hbb:=j4 b
  rw [qB]
  unfold Al
  dsimp only [rdB]
  rw [bd rfl,cond_false,fM,aj,kN,aj,kK]
  refine RdI.cond (fun hk=>?_) (fun _=>RdI.err (by decide))
  have hf:=fD (b.toNat:Int)
  generalize dq (b.toNat:Int)=f at*
  obtain ⟨F,hF⟩:=Aj
  rw [hF]
  unfold BA
  rcases yr hf with h | h | h
  ·rw [aQ (show (f.size:Int)=0 by omega),cond_true]
   exact sR (i:=0) (by omega) rfl ht
  ·rw [aJ (show (f.size:Int)≠0 by omega),cond_false,aQ (show (f.size:Int)=1 by omega),cond_true]
   have:=qC hs (x1:=((b.toNat:Int),mkR s t 0)) (F:=F+1+1) (i:=0) (acc:=[0,0]) (by omega) hf rfl ht
   rw [show ((0:Nat):Int)=0 from rfl,show (mkR s t 0).Err=0 from dp _ _ _] at this
   rw [this]
   refine RdI.cond (fun he=>?_) (fun he=>RdI.err (by rw [fu] at he;exact he))
   exact sR (i:=1) (by omega) rfl (lA ht)
  ·rw [aJ (show (f.size:Int)≠0 by omega),cond_false,aJ (show (f.size:Int)≠1 by omega),cond_false]
   have:=qC hs (x1:=((b.toNat:Int),mkR s t 0)) (F:=F+1+1) (i:=0) (acc:=[0,0]) (by omega) hf rfl ht
   rw [show ((0:Nat):Int)=0 from rfl,show (mkR s t 0).Err=0 from dp _ _ _] at this
   rw [this]
   refine RdI.cond (fun he=>?_) (fun he=>RdI.err (by rw [fu] at he;exact he))
   rw [qC hs (by omega) hf rfl (lA ht)]
   refine RdI.cond (fun he=>?_) (fun he=>RdI.err (by rw [fu] at he;exact he))
   exact sR (i:=2) (by omega) rfl (lA (lA ht))
theorem vZ {c:Int} {l:List UInt8} (h:(rdN l 0).1=0) (hin:inL c (valA c (rdN l 0))=true):l=putA c (valA c (rdN l 0))++(rdN l 0).2.2:=by
 obtain ⟨h1,h2⟩:=eI h
 obtain ⟨g1,g2,g3⟩:=mo hin
 unfold putA valA at*
 by_cases hc:c=110
 ·rw [aQ hc,cond_true,cond_true,vA]
  exact h1
 ·have:=g3 hc
  rw [aJ hc,cond_false] at*
  rw [cond_false]
  have:((capN (rdN l 0):Nat):Int).toNat=(rdN l 0).2.1:=by unfold capN at*;omega
  rw [this]
  exact h1
theorem sU {k a b:Int} {t:List UInt8} (h:(finI k a b t).2.1=0):chkI ⟨k,a,b⟩=0∧finI k a b t=(⟨k,a,b⟩,0,t):=by
 unfold finI at h ⊢
 by_cases hc:chkI ⟨k,a,b⟩=0
 ·rw [aQ hc,cond_true];exact ⟨hc,rfl⟩
 ·rw [aJ hc,cond_false] at h;exact absurd h hc
theorem xv {l:List UInt8} (h:(getI l).2.1=0):chkI (getI l).1=0∧l=putI (getI l).1++(getI l).2.2:=by
 cases l with
 | nil=>exact absurd h (by decide:(3:Int)≠0)
 | cons b t=>
  have hu:UInt8.ofNat b.toNat=b:=fX b
  rw [qB] at h ⊢
  unfold Al at h ⊢
  cases hk:opK (b.toNat:Int) with
  | false=>rw [hk,cond_false] at h;exact absurd h (by decide:(6:Int)≠0)
  | true=>
   rw [hk,cond_true] at h
   rw [cond_true]
   have hf:=fD (b.toNat:Int)
   unfold BA at h ⊢
   rcases yr hf with hs | hs | hs
   ·rw [aQ (show ((dq (b.toNat:Int)).size:Int)=0 by omega),cond_true] at h ⊢
    obtain ⟨c1,c2⟩:=sU h
    rw [c2]
    refine ⟨c1,?_⟩
    unfold putI
    dsimp only
    rw [aU (by omega),aU (by omega),Int.toNat_natCast,hu]
    rfl
   ·rw [aJ (show ((dq (b.toNat:Int)).size:Int)≠0 by omega),cond_false] at h ⊢
    by_cases h2:(rdN t 0).1=0
    ·rw [aQ h2,cond_true,aQ (show ((dq (b.toNat:Int)).size:Int)=1 by omega),cond_true] at h ⊢
     obtain ⟨c1,c2⟩:=sU h
     rw [c2]
     refine ⟨c1,?_⟩
     have ho:=vX c1
     have:=vZ h2 (ho.a1 (by dsimp only;omega))
     unfold putI
     dsimp only at this ⊢
     rw [aR (by omega),aU (by omega),Int.toNat_natCast,hu,cond_true,cond_false,List.append_nil,List.cons_append,←this]
    ·rw [aJ h2,cond_false] at h;exact absurd h h2
   ·rw [aJ (show ((dq (b.toNat:Int)).size:Int)≠0 by omega),cond_false] at h ⊢
    by_cases h2:(rdN t 0).1=0
    ·rw [aQ h2,cond_true,aJ (show ((dq (b.toNat:Int)).size:Int)≠1 by omega),cond_false] at h ⊢
     by_cases h3:(rdN (rdN t 0).2.2 0).1=0
     ·rw [aQ h3,cond_true] at h ⊢
      obtain ⟨c1,c2⟩:=sU h
      rw [c2]
      refine ⟨c1,?_⟩
      have ho:=vX c1
      have v1:=vZ h2 (ho.a1 (by dsimp only;omega))
      have v2:=vZ h3 (ho.b1 (by dsimp only;omega))
      unfold putI
      dsimp only at v1 v2 ⊢
      rw [aR (by omega),aR (by omega),Int.toNat_natCast,hu,cond_true,cond_true,List.cons_append,List.append_assoc,←v2,←v1]
     ·rw [aJ h3,cond_false] at h;exact absurd h h3
    ·rw [aJ h2,cond_false] at h;exact absurd h h2
end LJ
end
section
namespace LJ
open Go Go.RowKit
set_option linter.unusedVariables false
set_option linter.unusedSimpArgs false
theorem sV (x M k c:Nat) (hk:k≤7) (hM:∀ i,i<8→M.testBit i=c.testBit i) (hc:∀ i,c.testBit i=true→i+k<8):(x>>>k&&&M) %2 ^8=(x %2 ^8)>>>k&&&c:=by
 apply Nat.eq_of_testBit_eq
 intro i
 rw [Nat.testBit_mod_two_pow,Nat.testBit_and,Nat.testBit_and,Nat.testBit_shiftRight,Nat.testBit_shiftRight,Nat.testBit_mod_two_pow]
 by_cases hi:i<8
 ·rw [hM i hi]
  cases h:c.testBit i with
  | false=>simp
  | true=>
   have:=hc i h
   simp [hi,show k+i<8 by omega]
 ·cases h:c.testBit i with
  | false=>simp [hi]
  | true=>have:=hc i h;omega
theorem qD (x M k:Nat):(x>>>k&&&M) /2 ^8=(x /2 ^8)>>>k&&&(M /2 ^8):=by
 apply Nat.eq_of_testBit_eq
 intro i
 rw [Nat.testBit_div_two_pow,Nat.testBit_and,Nat.testBit_and,Nat.testBit_shiftRight,Nat.testBit_shiftRight,Nat.testBit_div_two_pow,Nat.testBit_div_two_pow]
 congr 2
def rep (c:Nat):Nat→Nat
 | 0=>0
 | n+1=>c+256*rep c n
def digs:Nat→Nat→List Nat
 | 0,_=>[]
 | n+1,x=>x %256::digs n (x /256)
def eZ (k M x:Nat):Nat:=(x>>>k&&&M)+(x&&&M)
theorem v8 {c:Nat} (hc:c<256) (n:Nat):rep c (n+1) %2 ^8=c∧rep c (n+1) /2 ^8=rep c n:=by
 simp only [rep]
 omega
theorem wa {c:Nat} (hc:c<256) (n i:Nat) (hi:i<8):(rep c (n+1)).testBit i=c.testBit i:=by
 have h:=(v8 hc n).1
 have:=Nat.testBit_mod_two_pow (rep c (n+1)) 8 i
 rw [h] at this
 rw [this]
 simp [hi]
theorem oh {c k:Nat} (hc:c<256) (hk:k≤7) (hb:∀ i,c.testBit i=true→i+k<8) (hs:∀ b,b<256→eZ k c b<256):∀ n x,digs n (eZ k (rep c n) x)=(digs n x).map (eZ k c)
 | 0,x=>rfl
 | n+1,x=>by
  have h1:=sV x (rep c (n+1)) k c hk (fun i hi=>wa hc n i hi) hb
  have h2:=sV x (rep c (n+1)) 0 c (by omega) (fun i hi=>wa hc n i hi) (fun i h=>by have:=hb i h;omega)
  have h3:=qD x (rep c (n+1)) k
  have h4:=qD x (rep c (n+1)) 0
  rw [(v8 hc n).2] at h3 h4
  have h5:=hs (x %256) (by omega)
  simp only [Nat.shiftRight_zero] at h2 h4
  unfold eZ at h5
  have e1:eZ k (rep c (n+1)) x %256=eZ k c (x %256):=by
   unfold eZ
   simp only [Nat.reducePow] at h1 h2
   omega
  have e2:eZ k (rep c (n+1)) x /256=eZ k (rep c n) (x /256):=by
   unfold eZ
   simp only [Nat.reducePow] at h1 h2 h3 h4
   omega
  simp only [digs,List.map_cons]
  rw [e1,e2,oh hc hk hb hs n (x /256)]
theorem r8:∀ n z,(∀ b∈digs n z,b /16≤4∧b %16≤4)→z<256 ^n→digs n ((z>>>4+z)&&&rep 15 n)=(digs n z).map fun b=>b /16+b %16
 | 0,z,_,_=>rfl
 | n+1,z,hb,hz=>by
  have h2:=sV (z>>>4+z) (rep 15 (n+1)) 0 15 (by omega) (fun i hi=>wa (by decide) n i hi) (fun i h=>by
   by_cases hi:i<8
   ·omega
   ·rw [show (15:Nat)=2 ^4 - 1 from rfl,Nat.testBit_two_pow_sub_one] at h
    simp at h
    omega)
  have h4:=qD (z>>>4+z) (rep 15 (n+1)) 0
  rw [(v8 (by decide) n).2] at h4
  simp only [Nat.shiftRight_zero,Nat.reducePow] at h2 h4
  rw [show (15:Nat)=2 ^4 - 1 from rfl,Nat.and_two_pow_sub_one_eq_mod] at h2
  obtain ⟨g1,g2⟩:=hb (z %256) (by simp [digs])
  have hr:(z /256) %16≤4:=by
   cases n with
   | zero=>simp at hz;omega
   | succ n=>
    have:=(hb (z /256 %256) (by simp [digs])).2
    rwa [Nat.mod_mod_of_dvd _ (by decide:16∣256)] at this
  have hs:z>>>4=z /16:=by rw [Nat.shiftRight_eq_div_pow]
  have e3:(z>>>4+z) /256=(z /256)>>>4+z /256:=by
   rw [hs,Nat.shiftRight_eq_div_pow]
   omega
  simp only [digs,List.map_cons]
  have hz':z /256<256 ^n:=by
   rw [Nat.pow_succ] at hz
   exact Nat.div_lt_of_lt_mul (by rw [Nat.mul_comm];exact hz)
  rw [h4,e3,r8 n (z /256) (fun b h=>hb b (by simp [digs,h])) hz',h2,hs]
  congr 1
  omega
theorem sum8 {z b0 b1 b2 b3 b4 b5 b6 b7 Z1 Z2 Z3 Z4 Z5 Z6:Nat} (h0:b0≤8) (h1:b1≤8) (h2:b2≤8) (h3:b3≤8) (h4:b4≤8) (h5:b5≤8) (h6:b6≤8) (h7:b7≤8)
  (e0:z=b0+256*Z1) (e1:Z1=b1+256*Z2) (e2:Z2=b2+256*Z3) (e3:Z3=b3+256*Z4) (e4:Z4=b4+256*Z5) (e5:Z5=b5+256*Z6) (e6:Z6=b6+256*b7):
  ∃ y v t,y=z /256+z∧y<2 ^64∧v=y /65536+y∧v<2 ^64∧t=v /4294967296+v∧t<2 ^64∧t %128=b0+b1+b2+b3+b4+b5+b6+b7:=by
 have f0:z /256=Z1:=by omega
 have f2:(z /256+z) /65536=Z2+Z3:=by rw [f0];omega
 have f4:((z /256+z) /65536+(z /256+z)) /4294967296=Z4+Z5+Z6+b7:=by rw [f2,f0];omega
 refine ⟨_,_,_,rfl,by rw [f0];omega,rfl,by rw [f2,f0];omega,rfl,by rw [f4,f2,f0];omega,?_⟩
 rw [f4,f2,f0]
 omega
def popB (b:Nat):Nat:=b %2+b /2 %2+b /4 %2+b /8 %2+b /16 %2+b /32 %2+b /64 %2+b /128 %2
def cntN (x:Nat):Nat:=((digs 8 x).map popB).sum
theorem pL:∀ b:Fin 256,eZ 1 85 b<256∧eZ 2 51 b<256∧eZ 2 51 (eZ 1 85 b) /16≤4∧eZ 2 51 (eZ 1 85 b) %16≤4∧eZ 2 51 (eZ 1 85 b) /16+eZ 2 51 (eZ 1 85 b) %16=popB b:=by decide+kernel
theorem wb:∀ n x,∀ b∈digs n x,b<256
 | 0,x,b,h=>by cases h
 | n+1,x,b,h=>by
  simp only [digs,List.mem_cons] at h
  rcases h with rfl | h
  ·omega
  ·exact wb n (x /256) b h
theorem Am (c:Nat) (k:Nat) (hc:c<256) (h:∀ i:Fin 8,c.testBit i=true→(i:Nat)+k<8):∀ i,c.testBit i=true→i+k<8:=fun i hi=>by
 by_cases h8:i<8
 ·exact h ⟨i,h8⟩ hi
 ·exfalso
  have:c.testBit i=false:=Nat.testBit_lt_two_pow (Nat.lt_of_lt_of_le hc (by rw [show 256=2 ^8 from rfl];exact Nat.pow_le_pow_right (by decide) (by omega)))
  rw [this] at hi
  cases hi
theorem r9 {x:Nat} :digs 8 ((eZ 2 (rep 51 8) (eZ 1 (rep 85 8) x)))=(digs 8 x).map fun b=>eZ 2 51 (eZ 1 85 b):=by
 rw [oh (by decide) (by decide) (Am 51 2 (by decide) (by decide)) (fun b hb=>(pL ⟨b,hb⟩).2.1),oh (by decide) (by decide) (Am 85 1 (by decide) (by decide)) (fun b hb=>(pL ⟨b,hb⟩).1),List.map_map]
 rfl
def pb (x:Nat):Nat:=(eZ 2 (rep 51 8) (eZ 1 (rep 85 8) x)>>>4+eZ 2 (rep 51 8) (eZ 1 (rep 85 8) x))&&&rep 15 8
theorem sW {k M x:Nat} (h:M+M<18446744073709551616):eZ k M x<18446744073709551616:=by
 have h1:=Nat.and_le_right (n:=x>>>k) (m:=M)
 have h2:=Nat.and_le_right (n:=x) (m:=M)
 unfold eZ
 omega
theorem yu (x:Nat):digs 8 (pb x)=(digs 8 x).map popB:=by
 have hlt:eZ 2 (rep 51 8) (eZ 1 (rep 85 8) x)<256 ^8:=sW (by decide)
 unfold pb
 rw [r8 8 _ (fun b hb=>?_) hlt,r9,List.map_map]
 ·refine List.map_congr_left fun b hb=>?_
  exact (pL ⟨b,wb 8 x b hb⟩).2.2.2.2
 ·rw [r9] at hb
  obtain ⟨c,hc,rfl⟩:=List.mem_map.1 hb
  have:=pL ⟨c,wb 8 x c hc⟩
  exact ⟨this.2.2.1,this.2.2.2.1⟩
theorem An (x:Nat):∃ y v t,y=pb x /256+pb x∧y<2 ^64∧v=y /65536+y∧v<2 ^64∧t=v /4294967296+v∧t<2 ^64∧t %128=cntN x:=by
 have hd:=yu x
 have hC:pb x<18446744073709551616:=Nat.lt_of_le_of_lt Nat.and_le_right (by decide:rep 15 8<18446744073709551616)
 have hle:∀ b∈digs 8 (pb x),b≤8:=fun b hb=>by
  rw [hd] at hb
  obtain ⟨c,hc,rfl⟩:=List.mem_map.1 hb
  unfold popB
  omega
 have hs:cntN x=(digs 8 (pb x)).sum:=by rw [hd];rfl
 rw [hs]
 generalize pb x=C at*
 simp only [digs,List.mem_cons,List.not_mem_nil,or_false,forall_eq_or_imp,forall_eq] at hle
 obtain ⟨g0,g1,g2,g3,g4,g5,g6,g7⟩:=hle
 obtain ⟨y,v,t,a1,a2,a3,a4,a5,a6,a7⟩:=sum8 (z:=C) (Z1:=C /256) (Z2:=C /256 /256) (Z3:=C /256 /256 /256) (Z4:=C /256 /256 /256 /256) (Z5:=C /256 /256 /256 /256 /256) (Z6:=C /256 /256 /256 /256 /256 /256) g0 g1 g2 g3 g4 g5 g6 g7 (by omega) (by omega) (by omega) (by omega) (by omega) (by omega) (by omega)
 refine ⟨y,v,t,a1,a2,a3,a4,a5,a6,?_⟩
 rw [a7]
 simp only [digs,List.sum_cons,List.sum_nil]
 omega
theorem wu {n:Nat} (h:n<18446744073709551616):IntKind.u64.wrap (n:Int)=(n:Int):=by rw [IntKind.wrap_u64];omega
theorem sh1 (a:Nat):(a:Int) /(2:Int) ^min (1:Int).toNat IntKind.u64.bits=((a>>>1:Nat):Int):=by
 rw [show min (1:Int).toNat IntKind.u64.bits=1 from rfl,Nat.shiftRight_eq_div_pow];simp
theorem sh2 (a:Nat):(a:Int) /(2:Int) ^min (2:Int).toNat IntKind.u64.bits=((a>>>2:Nat):Int):=by
 rw [show min (2:Int).toNat IntKind.u64.bits=2 from rfl,Nat.shiftRight_eq_div_pow];simp
theorem sh4 (a:Nat):(a:Int) /(2:Int) ^min (4:Int).toNat IntKind.u64.bits=((a>>>4:Nat):Int):=by
 rw [show min (4:Int).toNat IntKind.u64.bits=4 from rfl,Nat.shiftRight_eq_div_pow];simp
theorem sh8 (a:Nat):(a:Int) /(2:Int) ^min (8:Int).toNat IntKind.u64.bits=((a /256:Nat):Int):=by
 rw [show min (8:Int).toNat IntKind.u64.bits=8 from rfl];simp
theorem sh16 (a:Nat):(a:Int) /(2:Int) ^min (16:Int).toNat IntKind.u64.bits=((a /65536:Nat):Int):=by
 rw [show min (16:Int).toNat IntKind.u64.bits=16 from rfl];simp
theorem sh32 (a:Nat):(a:Int) /(2:Int) ^min (32:Int).toNat IntKind.u64.bits=((a /4294967296:Nat):Int):=by
 rw [show min (32:Int).toNat IntKind.u64.bits=32 from rfl];simp
theorem yw {p q:Nat} (h:p+q<18446744073709551616):IntKind.u64.wrap ((p:Int)+(q:Int))=((p+q:Nat):Int):=by
 rw [←Int.natCast_add,wu h]
theorem C5 (t:Int):((t+9223372036854775808) %18446744073709551616 - 9223372036854775808) %128=t %128:=by
 rw [Int.emod_def (t+9223372036854775808)]
 generalize (t+9223372036854775808) /18446744073709551616=q
 omega
set_option maxRecDepth 100000 in
theorem C6 {x:Nat} (hx:x<18446744073709551616):eK (x:Int)=some ((cntN x:Nat):Int):=by
 obtain ⟨y,v,t,a1,a2,a3,a4,a5,a6,a7⟩:=An x
 have r0:rep 85 8=6148914691236517205:=by decide
 have r1:rep 51 8=3689348814741910323:=by decide
 have r2:rep 15 8=1085102592571150095:=by decide
 have and_u:∀ (a b:Nat),a<18446744073709551616→b<18446744073709551616→Go.bits .and .u64 (a:Int) (b:Int)=((a&&&b:Nat):Int):=fun a b ha hb=>bits_and_u64_nat a b ha hb
 have shlt:∀ (a k:Nat),a<18446744073709551616→a>>>k<18446744073709551616:=fun a k h=>by rw [Nat.shiftRight_eq_div_pow];exact Nat.lt_of_le_of_lt (Nat.div_le_self _ _) h
 generalize hA:eZ 1 (rep 85 8) x=A at*
 have hAlt:A<18446744073709551616:=by rw [←hA];exact sW (by decide)
 have s1:IntKind.u64.wrap (Go.bits .and .u64 ((x:Int) /(2:Int) ^min (1:Int).toNat IntKind.u64.bits) 6148914691236517205+Go.bits .and .u64 (x:Int) 6148914691236517205)=(A:Int):=by
  rw [sh1,show (6148914691236517205:Int)=((6148914691236517205:Nat):Int) from rfl,and_u _ _ (shlt x 1 hx) (by decide),and_u _ _ hx (by decide),←r0]
  unfold eZ at hA
  rw [yw (by rw [hA];exact hAlt),hA]
 generalize hB:eZ 2 (rep 51 8) A=B at*
 have hBlt:B<18446744073709551616:=by rw [←hB];exact sW (by decide)
 have s2:IntKind.u64.wrap (Go.bits .and .u64 ((A:Int) /(2:Int) ^min (2:Int).toNat IntKind.u64.bits) 3689348814741910323+Go.bits .and .u64 (A:Int) 3689348814741910323)=(B:Int):=by
  rw [sh2,show (3689348814741910323:Int)=((3689348814741910323:Nat):Int) from rfl,and_u _ _ (shlt A 2 hAlt) (by decide),and_u _ _ hAlt (by decide),←r1]
  unfold eZ at hB
  rw [yw (by rw [hB];exact hBlt),hB]
 have hBB:B≤rep 51 8+rep 51 8:=by
  rw [←hB]
  unfold eZ
  exact Nat.add_le_add Nat.and_le_right Nat.and_le_right
 have hS:B>>>4+B<18446744073709551616:=by
  rw [Nat.shiftRight_eq_div_pow]
  rw [r1] at hBB
  omega
 have hCd:pb x=(B>>>4+B)&&&rep 15 8:=by unfold pb;rw [hA,hB]
 have s3:Go.bits .and .u64 (IntKind.u64.wrap ((B:Int) /(2:Int) ^min (4:Int).toNat IntKind.u64.bits+(B:Int))) 1085102592571150095=((pb x:Nat):Int):=by
  rw [sh4,yw hS,show (1085102592571150095:Int)=((1085102592571150095:Nat):Int) from rfl,and_u _ _ hS (by decide),hCd,r2]
 generalize pb x=C at*
 have s4:IntKind.u64.wrap ((C:Int)+(C:Int) /(2:Int) ^min (8:Int).toNat IntKind.u64.bits)=(y:Int):=by
  rw [sh8,yw (by omega),a1,Nat.add_comm]
 have s5:IntKind.u64.wrap ((y:Int)+(y:Int) /(2:Int) ^min (16:Int).toNat IntKind.u64.bits)=(v:Int):=by
  rw [sh16,yw (by omega),a3,Nat.add_comm]
 have s6:IntKind.u64.wrap ((v:Int)+(v:Int) /(2:Int) ^min (32:Int).toNat IntKind.u64.bits)=(t:Int):=by
  rw [sh32,yw (by omega),a5,Nat.add_comm]
 rw [eK]
 rw [s1,s2,s3,s4,s5,s6,i64_and127,IntKind.wrap_i64,←a7,C5]
 rfl
end LJ
end
section
namespace LJ
open Go Go.RowKit
set_option linter.unusedVariables false
set_option linter.unusedSimpArgs false
def pc:Nat→Nat→Nat
 | 0,_=>0
 | k+1,x=>x %2+pc k (x /2)
def ls:Nat→Nat→Nat→List Int
 | 0,_,_=>[]
 | k+1,n,x=>if x %2=1 then (n:Int)::ls k (n+1) (x /2) else ls k (n+1) (x /2)
theorem C7 (m x:Nat):pc (m+8) x=popB (x %256)+pc m (x /256):=by
 simp only [pc]
 rw [show x /2 /2 /2 /2 /2 /2 /2 /2=x /256 by omega]
 unfold popB
 omega
theorem Ap:∀ n x,((digs n x).map popB).sum=pc (8*n) x
 | 0,x=>rfl
 | n+1,x=>by
  rw [show 8*(n+1)=8*n+8 by omega,C7]
  simp only [digs,List.map_cons,List.sum_cons]
  rw [Ap n]
theorem DS (x:Nat):cntN x=pc 64 x:=Ap 8 x
theorem Aq:∀ k,pc k 0=0
 | 0=>rfl
 | k+1=>by rw [pc,Aq]
theorem Ar (a b:Nat):(a|||b) /2=a /2|||b /2:=by
 have:=Nat.or_div_two_pow (a:=a) (b:=b) (n:=1)
 simpa using this
theorem Cg (a b:Nat):(a|||b) %2=max (a %2) (b %2):=by
 have:=Nat.or_mod_two_pow (a:=a) (b:=b) (n:=1)
 simp only [Nat.reducePow] at this
 rw [this]
 rcases Nat.mod_two_eq_zero_or_one a with h | h <;> rcases Nat.mod_two_eq_zero_or_one b with g | g <;> rw [h,g] <;> rfl
theorem Ch:∀ (i x:Nat),x|||2 ^i=if x.testBit i then x else x+2 ^i
 | 0,x=>by
  have h1:=Ar x 1
  have h2:=Cg x 1
  rw [Nat.testBit_zero,Nat.pow_zero]
  have:x /2|||1 /2=x /2:=by simp
  rw [this] at h1
  split
  ·rename_i h;simp at h;omega
  ·rename_i h;simp at h;omega
 | i+1,x=>by
  have h1:=Ar x (2 ^(i+1))
  have h2:=Cg x (2 ^(i+1))
  have e:2 ^(i+1) /2=2 ^i:=by rw [Nat.pow_succ];omega
  have e':2 ^(i+1) %2=0:=by rw [Nat.pow_succ];omega
  rw [e,Ch i (x /2)] at h1
  rw [e'] at h2
  rw [Nat.testBit_succ]
  rw [Nat.pow_succ] at*
  split
  ·rename_i h;rw [if_pos h] at h1;omega
  ·rename_i h;rw [if_neg h] at h1;omega
def rot (k x:Nat):Nat:=x /2 ^(64 - k)+2 ^k*(x %2 ^(64 - k))
end LJ
end
