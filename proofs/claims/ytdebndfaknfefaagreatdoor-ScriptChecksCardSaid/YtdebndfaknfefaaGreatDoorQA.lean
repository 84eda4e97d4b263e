/- Several texts of plain Lean, one behind the other. No condition. -/
import Derived.Test.YtdebndfaknfefaaGreatDoorPF
import Derived.Test.YtdebndfaknfefaaGreatDoorXPB
import Derived.Laws.Bits64b
import Derived.Laws.Bits128
import Derived.Lib.TrailingZeros
section
namespace LJ
open Go Go.RowKit
set_option linter.unusedVariables false
set_option linter.unusedSimpArgs false
theorem sQ (K:(Int×ByteArray)→Option aD) (hK:∀ (n:Nat) (b:ByteArray),n<128→b.size+1≤140737488355328→K ((n:Int),b)=some ⟨b.push (UInt8.ofNat n)⟩):∀ (k f n:Nat) (b:ByteArray),n<128 ^(k+1)→k<f→b.size+(numL n).length≤140737488355328→dR K f ((n:Int),b)=some ⟨b++bs (numL n)⟩
 | k,0,n,b,hn,hf,hb=>by omega
 | k,f+1,n,b,hn,hf,hb=>by
  rw [dR]
  simp only []
  by_cases h:n<128
  ·rw [aX (by omega),cond_false]
   rw [j5 h] at hb ⊢
   rw [hK n b h (by simpa using hb)]
   congr 2
   apply bQ
   simp
  ·rw [aU (by omega),cond_true]
   rw [qp h] at hb ⊢
   simp only [List.length_cons] at hb
   rw [(Ec n).2,au (cQ (by omega)),au (aK (by omega))]
   have hk:0<k:=by
    rcases Nat.eq_zero_or_pos k with rfl | h0
    ·simp at hn;omega
    ·exact h0
   obtain ⟨k',rfl⟩:∃ k',k=k'+1:=⟨k - 1,by omega⟩
   rw [show (n:Int) /2 ^min (7:Int).toNat IntKind.u64.bits=((n /128:Nat):Int) by rw [show min (7:Int).toNat IntKind.u64.bits=7 from rfl];omega]
   rw [sQ K hK k' f (n /128) _ (by rw [Nat.pow_succ] at hn;omega) (by omega) (by rw [ByteArray.size_push];omega)]
   congr 2
   apply bQ
   simp only [jm,qQ,gC,Int.toNat_natCast,List.append_assoc,List.cons_append,List.nil_append]
theorem mZ {b:ByteArray} {n:Nat} (hn:n<18446744073709551616) (hb:b.size+(numL n).length≤140737488355328):bj ⟨b⟩ (n:Int)=some ⟨b++bs (numL n)⟩:=by
 rw [bj,gJ]
 dsimp only
 refine sQ _ (fun n b hn hb=>?_) 9 fuel n b (by omega) (by have:=aM;omega) hb
 dsimp only
 rw [au (cQ hb),(Ec n).1,au (aK (by omega)),show n %256=n by omega,Int.toNat_natCast]
theorem jb {b:ByteArray} {n:Int} (h0:0≤n) (hn:n<18446744073709551616) (hb:b.size+(numL n.toNat).length≤140737488355328):bj ⟨b⟩ n=some ⟨b++bs (numL n.toNat)⟩:=by
 have:=mZ (b:=b) (n:=n.toNat) (by omega) hb
 rwa [Int.toNat_of_nonneg h0] at this
theorem tH {b:ByteArray} {x:Int} (h0: -9223372036854775808≤x) (h1:x<9223372036854775808) (hb:b.size+(numL (zig x)).length≤140737488355328):dm ⟨b⟩ x=some ⟨b++bs (numL (zig x))⟩:=by
 unfold dm
 rw [Cy h0 h1,mZ (nO h0 h1) hb]
 rfl
theorem vv:∀ (k f n:Nat) (b:ByteArray),n<128 ^(k+1)→k<f→b.size+(numL n).length≤9223372036854775807→n<18446744073709551616→gv f ((n:Int),b)=some (b++bs (numL n))
 | k,0,n,b,hn,hf,hb,h64=>by omega
 | k,f+1,n,b,hn,hf,hb,h64=>by
  rw [gv]
  simp only []
  by_cases h:n<128
  ·rw [j3 (by omega),cond_false]
   rw [j5 h] at hb ⊢
   rw [(Ec n).1,au (aK (by omega)),au (bX (by simpa [ByteArray.size_push] using hb)),show n %256=n by omega,Int.toNat_natCast]
   rfl
  ·rw [iU (by omega),cond_true]
   rw [qp h] at hb ⊢
   simp only [List.length_cons] at hb
   have e1:Int.tmod (n:Int) 128=((n %128:Nat):Int):=by rw [Int.tmod_eq_emod_of_nonneg (by omega)];omega
   have e2:IntKind.u64.wrap (Int.tmod (n:Int) 128+128)=((n %128+128:Nat):Int):=by rw [e1,wu64 (by omega)];omega
   rw [e2,wu8 (by omega),au (aK (by omega)),au (bX (by simp [ByteArray.size_push];omega))]
   have hk:0<k:=by
    rcases Nat.eq_zero_or_pos k with rfl | h0
    ·simp at hn;omega
    ·exact h0
   obtain ⟨k',rfl⟩:∃ k',k=k'+1:=⟨k - 1,by omega⟩
   rw [show IntKind.u64.wrap (Int.tdiv (n:Int) 128)=((n /128:Nat):Int) by rw [Int.tdiv_eq_ediv_of_nonneg (by omega),wu64 (by omega)];omega]
   rw [vv k' f (n /128) _ (by rw [Nat.pow_succ] at hn;omega) (by omega) (by simp [ByteArray.size_push,ByteArray.size_append];omega) (by omega)]
   congr 1
   apply bQ
   simp only [jm,qQ,gC,Cv,Int.toNat_natCast,List.append_assoc,List.cons_append,List.nil_append]
theorem sR {n:Nat} (hn:n<18446744073709551616):bJ (n:Int)=some (bs (numL n)):=by
 unfold bJ
 rw [vv 9 fuel n _ (by omega) (by have:=aM;omega) (by have:=aL hn;simp;omega) hn]
 congr 1
theorem fm {n:Int} (h0:0≤n) (hn:n<18446744073709551616):bJ n=some (bs (numL n.toNat)):=by
 have:=sR (n:=n.toNat) (by omega)
 rwa [Int.toNat_of_nonneg h0] at this
theorem yF {x:Int} (h0: -9223372036854775808≤x) (h1:x<9223372036854775808):gO x=some (bs (numL (zig x))):=by
 unfold gO
 by_cases h:0≤x
 ·rw [iU h,cond_true,wu64 (a:=x) (by omega),wu64 (by omega),fm (by omega) (by omega)]
  simp only [Option.bind_some]
  unfold zig
  rw [if_pos h]
 ·rw [j3 (by omega),cond_false,w64 (a:=x+1) (by omega),w64 (a:=0 - (x+1)) (by omega),wu64 (a:=0 - (x+1)) (by omega),wu64 (a:=2*(0 - (x+1))) (by omega),wu64 (by omega),fm (by omega) (by omega)]
  simp only [Option.bind_some]
  unfold zig
  rw [if_neg h]
  congr 4
  omega
def mkI (s:ByteArray) (l:List UInt8) (e:Int):an:=⟨s,(s.size:Int) - l.length,e⟩
def mkR (s:ByteArray) (l:List UInt8) (e:Int):aA:=⟨s,(s.size:Int) - l.length,e⟩
theorem lI {s:ByteArray} {l:List UInt8} (h:l<:+bl s):l.length≤s.size:=by rw [←jl];exact h.length_le
theorem Ej {s:ByteArray} {b:UInt8} {l:List UInt8} (h:(b::l)<:+bl s):bg s (s.size - (l.length+1))=(b.toNat:Int):=by
 have hl:=lI h
 simp only [List.length_cons] at hl
 rw [A6 s _ (by omega)]
 congr 2
 obtain ⟨t,ht⟩:=h
 have hlen:t.length=s.size - (l.length+1):=by
  have:=congrArg List.length ht
  rw [jl] at this
  simp at this
  omega
 simp only [←hlen,←ht]
 simp
theorem n9 {b:UInt8} {l k:List UInt8} (h:(b::l)<:+k):l<:+k:=(List.suffix_cons b l).trans h
theorem wR (s:ByteArray) (l:List UInt8) (e x:Int) (he:e≠0→l=[]):dq (mkI s l e) x=some (mkI s [] (if e=0 then x else e)):=by
 unfold dq mkI
 dsimp only
 by_cases h:e=0
 ·rw [bd h,cond_true,if_pos h];simp
 ·have:=he h
  subst this
  rw [aP h,cond_false,if_neg h]
theorem ju (s:ByteArray) (e:Int):cd (mkI s [] e)=some (0,mkI s [] (if e=0 then 3 else e)):=by
 unfold cd
 rw [iU (by simp [mkI]),cond_true,wR s [] e 3 (fun _=>rfl)]
 rfl
theorem jP (s:ByteArray) (hs:s.size≤9007199254740992) (b:UInt8) (l:List UInt8) (e:Int) (h:(b::l)<:+bl s):cd (mkI s (b::l) e)=some ((b.toNat:Int),mkI s l e):=by
 have hl:=lI h
 have hg:=Ej h
 simp only [List.length_cons] at hl
 unfold cd mkI
 simp only [List.length_cons]
 rw [j3 (by omega),cond_false,w64 (a:=(s.size:Int) - ((l.length+1:Nat):Int)+1) (by omega),w64 (by omega),au (aK (by omega)),show ((s.size:Int) - ((l.length+1:Nat):Int)+1 - 1).toNat=s.size - (l.length+1) by omega,hg]
 have:=pk b
 rw [w64 (by omega)]
 congr 3
 omega
theorem Fc (l:List UInt8):valN 0 0 (numR 0 l)=((numR 0 l).2.1:Int):=by
 unfold valN
 by_cases he:(numR 0 l).1=0
 ·rw [bd he,cond_true];simp
 ·rw [aP he,cond_false,(mj l 0 he).1];rfl
theorem vw (s:ByteArray) (hs:s.size≤9007199254740992):∀ (l:List UInt8) (i f acc:Nat),i≤9→9<f+i→acc<128 ^i→l<:+bl s→
  c9 f ((acc:Int),(i:Int),s,(s.size:Int) - l.length,0)=some (valN acc i (numR i l),mkI s (numR i l).2.2 (numR i l).1)
 | l,i,0,acc,hi,hf,ha,hsuf=>by omega
 | [],i,f+1,acc,hi,hf,ha,hsuf=>by
  rw [c9]
  dsimp only
  rw [aU (by omega),cond_true]
  have:=ju s 0
  unfold mkI at this
  rw [this,af]
  dsimp only
  rw [b8 (by simp),cond_true]
  rfl
 | b::l,i,f+1,acc,hi,hf,ha,hsuf=>by
  rw [c9]
  dsimp only
  rw [aU (by omega),cond_true]
  have h1:=jP s hs b l 0 hsuf
  have hb:=pk b
  unfold mkI at h1
  rw [h1,af]
  dsimp only
  rw [bH rfl,cond_false]
  by_cases hbad:(i=9∧1<b.toNat)∨(0<i∧b.toNat=0)
  ·rw [Cw hbad,show (iEq (i:Int) 9&&iLt 1 (b.toNat:Int)||iLt 0 (i:Int)&&iEq (b.toNat:Int) 0)=true by simp only [Bool.or_eq_true,Bool.and_eq_true,cy,cU];omega,cond_true]
   have h2:=wR s l 0 2 (fun h=>absurd rfl h)
   unfold mkI at h2
   rw [h2]
   rfl
  ·rw [show (iEq (i:Int) 9&&iLt 1 (b.toNat:Int)||iLt 0 (i:Int)&&iEq (b.toNat:Int) 0)=false by simp only [Bool.or_eq_false_iff,Bool.and_eq_false_iff,i5,bo];omega,cond_false]
   have hst:=FX (acc:=acc) (b:=b.toNat) (i:=i) (by omega) ha (by omega) (by omega)
   rw [au (A4 (by rw [w64 (by omega)];omega))]
   by_cases hlt:b.toNat<128
   ·rw [A7 hbad hlt,aU (by omega),cond_true,hst.1,Nat.mod_eq_of_lt hlt]
    rfl
   ·rw [aX (by omega),cond_false,hst.1,w64 (a:=(i:Int)+1) (by omega)]
    have hi9:i<9:=by omega
    have ha2:acc+b.toNat %128*128 ^i<128 ^(i+1):=by
     rw [Nat.pow_succ]
     have:b.toNat %128*128 ^i≤127*128 ^i:=Nat.mul_le_mul_right _ (by omega)
     omega
    have ih:=vw s hs l (i+1) f (acc+b.toNat %128*128 ^i) (by omega) (by omega) ha2 (n9 hsuf)
    rw [show ((i+1:Nat):Int)=(i:Int)+1 from by omega] at ih
    rw [ih]
    by_cases he:(numR (i+1) l).1=0
    ·rw [A8 hbad hlt he]
     unfold valN
     dsimp only
     rw [bd he,cond_true,bd rfl,cond_true,he]
     congr 3
     rw [Nat.pow_succ,Nat.add_mul,Nat.add_assoc]
     congr 1
     rw [Nat.mul_comm (128 ^i) 128,←Nat.mul_assoc,Nat.mul_comm ((numR (i+1) l).2.1) 128]
    ·rw [Cx hbad hlt he]
     unfold valN
     dsimp only
     rw [aP he,(mj l (i+1) he).1]
     rfl
theorem Dp (s:ByteArray) (hs:s.size≤9007199254740992) (l:List UInt8) (h:l<:+bl s):bK (mkI s l 0)=some (((numR 0 l).2.1:Int),mkI s (numR 0 l).2.2 (numR 0 l).1):=by
 unfold bK
 have:=vw s hs l 0 fuel 0 (by omega) (by have:=aM;omega) (by decide) h
 refine Eq.trans this ?_
 rw [Fc]
theorem sS (s:ByteArray) (e:Int) (he:e≠0):bK (mkI s [] e)=some (0,mkI s [] e):=by
 unfold bK
 obtain ⟨f,hf⟩:=yp
 rw [hf,c9]
 simp only []
 rw [aU (by decide),cond_true]
 have h1:=ju s e
 rw [if_neg he] at h1
 unfold mkI at h1 ⊢
 dsimp only
 rw [h1,af]
 dsimp only
 rw [b8 he,cond_true]
theorem Fe (s:ByteArray) (hs:s.size≤9007199254740992) (l:List UInt8) (h:l<:+bl s):cP (mkI s l 0)=some (zag (numR 0 l).2.1,mkI s (numR 0 l).2.2 (numR 0 l).1):=by
 unfold cP
 rw [Dp s hs l h]
 simp only [Option.bind_some]
 rw [yz (A9 l)]
theorem zx (s:ByteArray) (e:Int) (he:e≠0):cP (mkI s [] e)=some (0,mkI s [] e):=by
 unfold cP
 rw [sS s e he]
 simp only [Option.bind_some]
 have:=yz (n:=0) (by decide)
 rw [show ((0:Nat):Int)=0 from rfl] at this
 rw [this]
 rfl
theorem tI (s:ByteArray) (hs:s.size≤9007199254740992) (l:List UInt8) (e:Int) (h:l<:+bl s):cI (mkI s l e)=some (l.length:Int):=by
 have:=lI h
 unfold cI mkI
 simp only []
 rw [w64 (by omega)]
 congr 1
 omega
theorem qX (s:ByteArray):fg s=some (mkI s (bl s) 0):=by
 unfold fg mkI
 rw [jl]
 simp
end LJ
end
section
namespace LJ
open Go Go.RowKit
set_option linter.unusedVariables false
set_option linter.unusedSimpArgs false
def rdB (l:List UInt8) (e:Int):Int×Nat×List UInt8:=match l with
 | []=>(if e=0 then 3 else e,0,[])
 | b::t=>(e,b.toNat,t)
def rdN (l:List UInt8) (e:Int):Int×Nat×List UInt8:=if e=0 then numR 0 l else (e,0,[])
structure RdOK (s:ByteArray) (l:List UInt8) (e:Int):Prop where
 suf:l<:+bl s
 err:e≠0→l=[]
theorem RdOK.start (s:ByteArray):RdOK s (bl s) 0:=⟨List.suffix_refl _,fun h=>absurd rfl h⟩
theorem RdOK.byte {s:ByteArray} {l:List UInt8} {e:Int} (h:RdOK s l e):RdOK s (rdB l e).2.2 (rdB l e).1:=by
 cases l with
 | nil=>exact ⟨List.nil_suffix,fun _=>rfl⟩
 | cons b t=>
  refine ⟨n9 h.suf,fun he=>?_⟩
  have:=h.err he
  cases this
theorem RdOK.num {s:ByteArray} {l:List UInt8} {e:Int} (h:RdOK s l e):RdOK s (rdN l e).2.2 (rdN l e).1:=by
 unfold rdN
 split
 ·refine ⟨(qR l 0).trans h.suf,fun he=>?_⟩
  rw [(mj l 0 he).1]
 ·exact ⟨List.nil_suffix,fun _=>rfl⟩
theorem qY (l:List UInt8) (e:Int):(rdN l e).2.1<18446744073709551616:=by
 unfold rdN
 split
 ·exact A9 l
 ·simp
theorem m4 {s:ByteArray} (hs:s.size≤9007199254740992) {l:List UInt8} {e:Int} (h:RdOK s l e):cd (mkI s l e)=some (((rdB l e).2.1:Int),mkI s (rdB l e).2.2 (rdB l e).1):=by
 cases l with
 | nil=>rw [ju];rfl
 | cons b t=>rw [jP s hs b t e h.suf];rfl
theorem fj {s:ByteArray} (hs:s.size≤9007199254740992) {l:List UInt8} {e:Int} (h:RdOK s l e):bK (mkI s l e)=some (((rdN l e).2.1:Int),mkI s (rdN l e).2.2 (rdN l e).1):=by
 unfold rdN
 by_cases he:e=0
 ·subst he;rw [if_pos rfl];exact Dp s hs l h.suf
 ·rw [if_neg he,h.err he];exact sS s e he
theorem FZ:zag 0=0:=by unfold zag;simp
theorem gw {s:ByteArray} (hs:s.size≤9007199254740992) {l:List UInt8} {e:Int} (h:RdOK s l e):cP (mkI s l e)=some (zag (rdN l e).2.1,mkI s (rdN l e).2.2 (rdN l e).1):=by
 unfold rdN
 by_cases he:e=0
 ·subst he;rw [if_pos rfl];exact Fe s hs l h.suf
 ·rw [if_neg he,h.err he,show zag (e,0,([]:List UInt8)).2.1=0 from FZ];exact zx s e he
theorem qZ {s:ByteArray} (hs:s.size≤9007199254740992) {l:List UInt8} {e:Int} (h:RdOK s l e):cI (mkI s l e)=some (l.length:Int):=tI s hs l e h.suf
theorem bN (s:ByteArray) (l:List UInt8) (e:Int):bk (mkI s l e)=some e:=rfl
theorem wS {s:ByteArray} {l:List UInt8} {e:Int} (h:RdOK s l e) (x:Int):dq (mkI s l e) x=some (mkI s [] (if e=0 then x else e)):=wR s l e x h.err
end LJ
end
section
namespace LJ
open Go Go.RowKit
set_option linter.unusedVariables false
set_option linter.unusedSimpArgs false
def capN (r:Int×Nat×List UInt8):Nat:=min r.2.1 2147483648
theorem Ek {l:List UInt8} {n:Nat} {t:List UInt8} (h:rdN l 0=(0,n,t)):l=numL n++t∧n<18446744073709551616:=by
 unfold rdN at h
 rw [if_pos rfl] at h
 have:=tE l 0 n t (by omega) h
 exact ⟨this.1,this.2.1⟩
theorem eV {l:List UInt8} (h:(rdN l 0).1=0):l=numL (rdN l 0).2.1++(rdN l 0).2.2∧(rdN l 0).2.1<18446744073709551616:=Ek (Prod.ext h rfl)
theorem wT {l:List UInt8} {e:Int} (h:(rdN l e).1=0):e=0:=by
 unfold rdN at h
 split at h
 ·assumption
 ·exact h
theorem yG {b:ByteArray} {n:Int} (hb:b.size+1≤140737488355328):ct ⟨b⟩ n=some ⟨b.push (UInt8.ofNat (n %256).toNat)⟩:=by
 unfold ct
 have:IntKind.u8.wrap n=n %256:=IntKind.wrap_u8 n
 rw [this,au (cQ hb),au (aK (by omega))]
end LJ
end
section
namespace LJ
open Go Go.RowKit
set_option linter.unusedVariables false
set_option linter.unusedSimpArgs false
theorem CD {b s:ByteArray} (hs:s.size<18446744073709551616) (hb:b.size+(numL s.size).length+s.size≤140737488355328):fe ⟨b⟩ s=some ⟨b++bs (numL s.size)++s⟩:=by
 unfold fe
 rw [wu64 (by omega),mZ hs (by omega),af]
 dsimp only
 rw [au (cQ (by rw [ByteArray.size_append,aN];omega))]
theorem El {s:ByteArray} (hs:s.size≤4611686018427387904):kc s=some (bs (numL s.size)++s):=by
 unfold kc
 have:=aL (n:=s.size) (by omega)
 rw [wu64 (by omega),sR (by omega),af,au (bX (by rw [aN];omega))]
def rdT (l:List UInt8) (e:Int):Int×List UInt8×List UInt8:=
 if (rdN l e).1≠0 then ((rdN l e).1,[],[]) else if (rdN l e).2.2.length<(rdN l e).2.1 then (3,[],[]) else (0,(rdN l e).2.2.take (rdN l e).2.1,(rdN l e).2.2.drop (rdN l e).2.1)
theorem RdOK.text {s:ByteArray} {l:List UInt8} {e:Int} (h:RdOK s l e):RdOK s (rdT l e).2.2 (rdT l e).1:=by
 unfold rdT
 split
 ·exact ⟨List.nil_suffix,fun _=>rfl⟩
 ·split
  ·exact ⟨List.nil_suffix,fun _=>rfl⟩
  ·exact ⟨(List.drop_suffix _ _).trans h.num.suf,fun he=>absurd rfl he⟩
theorem wU {s:ByteArray} {t:List UInt8} (h:t<:+bl s) (n:Nat) (hn:n≤t.length):s.extract (s.size - t.length) (s.size - t.length+n)=bs (t.take n):=by
 apply bQ
 rw [ic,gC]
 obtain ⟨p,hp⟩:=h
 have hlen:p.length=s.size - t.length:=by
  have:=congrArg List.length hp
  rw [jl] at this
  simp at this
  omega
 rw [←hlen,←hp,List.drop_take,List.drop_left]
 congr 1
 omega
theorem CE {l:List UInt8} {e:Int} (h:(rdN l e).1≠0):(rdN l e).2=(0,[]):=by
 unfold rdN at h ⊢
 split at h
 ·rename_i he;rw [if_pos he];exact (mj l 0 h).1
 ·rename_i he;rw [if_neg he]
theorem wV {s:ByteArray} (hs:s.size≤9007199254740992) {l:List UInt8} {e:Int} (h:RdOK s l e):fN (mkI s l e)=some (bs (rdT l e).2.1,mkI s (rdT l e).2.2 (rdT l e).1):=by
 unfold fN
 rw [fj (by omega) h,af]
 have hn:=h.num
 have hz:=CE (l:=l) (e:=e)
 have hlt:=qY l e
 unfold rdT
 generalize rdN l e=r at*
 obtain ⟨er,n,t⟩:=r
 have hl:=lI hn.suf
 dsimp only at*
 unfold mkI
 dsimp only
 rw [w64 (a:=(s.size:Int) - ((s.size:Int) - t.length)) (by omega),wu64 (by omega)]
 by_cases he:er=0
 ·rw [if_neg (by simpa using he)]
  by_cases hlt2:t.length<n
  ·rw [if_pos hlt2,aU (by omega),cond_true]
   have hf:=wS hn 3
   unfold mkI at hf
   rw [hf,af,if_pos he]
   rfl
  ·rw [if_neg hlt2,aX (by omega),cond_false,w64 (a:=(n:Int)) (by omega),w64 (a:=(s.size:Int) - t.length+n) (by omega),w64 (by omega),au (vh (by omega)),he]
   rw [show ((s.size:Int) - t.length+n - n).toNat=s.size - t.length by omega,show ((s.size:Int) - t.length+n).toNat=s.size - t.length+n by omega,wU hn.suf n (by omega)]
   simp only [List.length_drop]
   congr 3
   omega
 ·rw [if_pos he]
  have hz:=hz he
  simp only [Prod.mk.injEq] at hz
  obtain ⟨rfl,rfl⟩:=hz
  rw [aX (by simp),cond_false]
  simp only [List.length_nil]
  rw [show IntKind.i64.wrap ((0:Nat):Int)=0 from by decide,w64 (a:=(s.size:Int) - ((0:Nat):Int)+0) (by omega),w64 (by omega),au (vh (by omega))]
  have:s.extract ((s.size:Int) - ((0:Nat):Int)+0 - 0).toNat ((s.size:Int) - ((0:Nat):Int)+0).toNat=bs []:=by
   apply bQ
   rw [ic,gC]
   apply List.eq_nil_of_length_eq_zero
   simp [jl]
  rw [this]
  congr 3
end LJ
end
section
namespace LJ
open Go Go.RowKit
set_option linter.unusedVariables false
set_option linter.unusedSimpArgs false
theorem bf {α:Type} (b:Bool) (x y:α):cond b (some x) (some y)=some (cond b x y):=by cases b <;> rfl
theorem CF (a b:Int):iEq a b=iEq b a:=by
 unfold iEq
 by_cases h:a=b
 ·subst h;rfl
 ·rw [decide_eq_false h,decide_eq_false (fun h'=>h h'.symm)]
def fitW (a:Int):Bool:=iLe (-2147483648) a&&iLt a 2147483648
theorem pr (a:Int):kb a=some (fitW a):=by
 unfold kb fitW
 congr 1
 rw [Bool.eq_iff_iff]
 simp only [cy,Bool.and_eq_true,dZ,cU]
 have h:=IntKind.wrap_i32 a
 have h2: -2147483648≤IntKind.i32.wrap a∧IntKind.i32.wrap a<2147483648:=by
  rw [h];omega
 rw [w64 (by omega),h]
 omega
theorem mn {α:Type} (b:Bool) (x y:α):cond (!b) x y=cond b y x:=by cases b <;> rfl
theorem oa (a:Int):jg a=some (fitW a):=rfl
theorem bM {α:Type} [Inhabited α] (L:List α) (i:Nat) (h:i<L.length):L.drop i=L.getD i default::L.drop (i+1):=by
 rw [List.drop_eq_getElem_cons h]
 simp [List.getD_eq_getElem?_getD,h]
end LJ
end
section
namespace LJ
open Go Go.RowKit
set_option linter.unusedVariables false
set_option linter.unusedSimpArgs false
def fitK (c k:Int):Bool:=
 cond (iEq c 117) (iEq k 1||iEq k 2) (cond (iEq c 115) (iEq k 3) (cond (iEq c 112) (iEq k 6) (cond (iEq c 99) (iEq k 4) (cond (iEq c 109) (iEq k 1) (cond (iEq c 98) (iEq k 5) (cond (iEq c 118) (iEq k 7) (cond (iEq c 113) (iEq k 1||iEq k 6) false)))))))
def fitD (L:List ai) (c o:Int):Bool:=cond (iLt o 0||iLe (L.length:Int) o) false (fitK c (L.getD o.toNat default).Kind)
theorem lJ (L:List ai) (c o:Int):fB L c o=some (fitD L c o):=by
 unfold fB fitD
 cases h:(iLt o 0||iLe (L.length:Int) o) with
 | true=>rfl
 | false=>
  simp only [Bool.or_eq_false_iff,bo,i6] at h
  rw [cond_false,cond_false,au (aK ⟨h.1,h.2⟩)]
  simp only [bf]
  rfl
def pw (c:Int):List Int:=
 cond (iEq c 117) [1,2] (cond (iEq c 115) [3] (cond (iEq c 112) [6] (cond (iEq c 99) [4] (cond (iEq c 109) [1] (cond (iEq c 98) [5] (cond (iEq c 118) [7] (cond (iEq c 113) [1,6] [])))))))
theorem CG (c:Int):ie c=some (pw c):=by
 obtain ⟨f,hf⟩:∃ f,fuel=f+9:=⟨fuel - 9,by have:=aM;omega⟩
 unfold ie pw
 rw [hf]
 have w:∀ n:Int,0≤n→n<9→IntKind.i64.wrap (n+1)=n+1:=fun n h0 h1=>w64 (by omega)
 have step:∀ (k:Nat) (i:Int) (b:Int) (l:List Int),0≤i→i<8→bg (⟨#[117,115,112,99,109,98,118,113]⟩:ByteArray) i.toNat=b→([[1,2],[3],[6],[4],[1],[5],[7],[1,6]]:List (List Int)).getD i.toNat default=l→dt c (k+1) i=cond (iEq c b) (some l) (dt c k (i+1)):=fun k i b l h0 h1 hb hl=>by
  rw [dt,show ((⟨#[117,115,112,99,109,98,118,113]⟩:ByteArray).size:Int)=8 from rfl,show (([[1,2],[3],[6],[4],[1],[5],[7],[1,6]]:List (List Int)).length:Int)=8 from rfl,aU h1,cond_true,au (aK ⟨h0,h1⟩),au (aK ⟨h0,h1⟩),hb,hl,CF b c,w i h0 (by omega)]
 rw [step (f+8) 0 117 [1,2] (by decide) (by decide) (by decide) (by decide),step (f+7) (0+1) 115 [3] (by decide) (by decide) (by decide) (by decide),step (f+6) (0+1+1) 112 [6] (by decide) (by decide) (by decide) (by decide),step (f+5) (0+1+1+1) 99 [4] (by decide) (by decide) (by decide) (by decide),step (f+4) (0+1+1+1+1) 109 [1] (by decide) (by decide) (by decide) (by decide),step (f+3) (0+1+1+1+1+1) 98 [5] (by decide) (by decide) (by decide) (by decide),step (f+2) (0+1+1+1+1+1+1) 118 [7] (by decide) (by decide) (by decide) (by decide),step (f+1) (0+1+1+1+1+1+1+1) 113 [1,6] (by decide) (by decide) (by decide) (by decide)]
 rw [dt,aX (by decide),cond_false]
 simp only [bf]
theorem Bj (L:List ai) (o:Int) (ks:List Int) (ho:0≤o∧o<L.length) (hk:ks.length≤100):∀ (n i f:Nat),i+n=ks.length→n<f→cF L o ks f (i:Int)=some ((ks.drop i).any fun k=>iEq (L.getD o.toNat default).Kind k)
 | n,i,0,hi,hf=>by omega
 | 0,i,f+1,hi,hf=>by
  rw [cF,aX (by omega),List.drop_eq_nil_of_le (by omega)]
  rfl
 | n+1,i,f+1,hi,hf=>by
  rw [cF,aU (by omega),iU ho.1,aU ho.2]
  simp only [Bool.and_self,cond_true]
  rw [au (aK ho),au (aK ⟨by omega,by omega⟩),Int.toNat_natCast,List.drop_eq_getElem_cons (by omega),List.any_cons]
  have e:ks.getD i default=ks[i]:=by simp [List.getD_eq_getElem?_getD,show i<ks.length by omega]
  rw [e]
  cases h:iEq (L.getD o.toNat default).Kind ks[i] with
  | true=>rfl
  | false=>
   rw [cond_false,w64 (by omega),show (i:Int)+1=((i+1:Nat):Int) by omega,Bj L o ks ho hk n (i+1) f (by omega) (by omega)]
   rfl
theorem oe (L:List ai) (c o:Int):gr L c o=some (fitD L c o):=by
 unfold gr fitD
 rw [CG,af]
 have hk:(pw c).length≤100:=by
  unfold pw
  repeat' (first | (cases iEq c _ <;> simp only [cond_true,cond_false]) | decide)
 cases h:(iLt o 0||iLe (L.length:Int) o) with
 | true=>
  obtain ⟨f,hf⟩:=yp
  rw [hf,cF]
  have:((iLt 0 ((pw c).length:Int)&&iLe 0 o)&&iLt o (L.length:Int))=false:=by
   simp only [Bool.or_eq_true,cU,dZ] at h
   simp only [Bool.and_eq_false_iff,bo,i6]
   omega
  rw [this]
  rfl
 | false=>
  simp only [Bool.or_eq_false_iff,bo,i6] at h
  have:=Bj L o (pw c) ⟨h.1,h.2⟩ hk (pw c).length 0 fuel (by omega) (by have:=aM;omega)
  rw [show (0:Int)=((0:Nat):Int) from rfl,this,cond_false]
  congr 1
  generalize (L.getD o.toNat default).Kind=k
  unfold pw fitK
  rw [List.drop_zero]
  repeat' (first | (cases iEq c _ <;> simp only [cond_true,cond_false]) | simp [Bool.or_false])
def badD (L:List ai) (d:ai):Int:=
 cond (iEq d.Kind 3) (cond (iLe 1 d.B&&iLe d.B 1000&&iLe 0 d.A&&iLe d.A d.B) 0 1) (cond (iEq d.Kind 6) (cond (iLe 1 d.A&&iLe d.A 1000) (cond (iEq d.B 0) 0 2) 1)
  (cond (iEq d.Kind 7) (cond (fitW d.A&&fitD L 117 d.B) 0 1) (cond (iEq d.Kind 1||iEq d.Kind 2||iEq d.Kind 4||iEq d.Kind 5) (cond (iEq d.A 0&&iEq d.B 0) 0 2) 6)))
theorem wW (L:List ai) (d:ai):nR L d=some (badD L d):=by
 unfold nR badD ka
 rw [pr,lJ]
 simp only [af,mn,bf]
 cases h3:iEq d.Kind 3 with
 | true=>simp only [cond_true];
 | false=>
  cases h6:iEq d.Kind 6 with
  | true=>simp only [cond_true,cond_false]
  | false=>
   cases h7:iEq d.Kind 7 with
   | true=>
    simp only [cond_true,cond_false]
    cases fitW d.A <;> simp [bf]
   | false=>
    simp only [cond_false]
    cases h1:iEq d.Kind 1 <;> cases h2:iEq d.Kind 2 <;> cases h4:iEq d.Kind 4 <;> cases h5:iEq d.Kind 5 <;> rfl
theorem vx (L:List ai) (d:ai):jn L d=some (badD L d):=by
 unfold jn badD
 rw [oa,oe]
 by_cases h:d.Kind<1∨7<d.Kind
 ·rw [show (iLt d.Kind 1||iLt 7 d.Kind)=true by simp only [Bool.or_eq_true,cU];exact h,cond_true]
  rw [aP (show d.Kind≠3 by omega),aP (show d.Kind≠6 by omega),aP (show d.Kind≠7 by omega),aP (show d.Kind≠1 by omega),aP (show d.Kind≠2 by omega),aP (show d.Kind≠4 by omega),aP (show d.Kind≠5 by omega)]
  rfl
 ·rw [show (iLt d.Kind 1||iLt 7 d.Kind)=false by simp only [Bool.or_eq_false_iff,bo];omega,cond_false]
  have ne:∀ a b:Int,iNe a b= !iEq a b:=fun a b=>by unfold iNe iEq;simp
  have lt:∀ a b:Int,iLt a b= !iLe b a:=fun a b=>by
   unfold iLt iLe
   by_cases hab:a<b
   ·rw [decide_eq_true hab,decide_eq_false (by omega)];rfl
   ·rw [decide_eq_false hab,decide_eq_true (by omega)];rfl
  have cases7:d.Kind=1∨d.Kind=2∨d.Kind=3∨d.Kind=4∨d.Kind=5∨d.Kind=6∨d.Kind=7:=by omega
  simp only [ne,lt]
  rcases cases7 with e | e | e | e | e | e | e <;> rw [e] <;> simp only [show iEq 1 3=false from rfl,show iEq 1 6=false from rfl,show iEq 1 7=false from rfl,show iEq 1 1=true from rfl,show iEq 2 3=false from rfl,show iEq 2 6=false from rfl,show iEq 2 7=false from rfl,show iEq 2 1=false from rfl,show iEq 2 2=true from rfl,show iEq 3 3=true from rfl,show iEq 3 6=false from rfl,show iEq 3 7=false from rfl,show iEq 4 3=false from rfl,show iEq 4 6=false from rfl,show iEq 4 7=false from rfl,show iEq 4 1=false from rfl,show iEq 4 2=false from rfl,show iEq 4 4=true from rfl,show iEq 5 3=false from rfl,show iEq 5 6=false from rfl,show iEq 5 7=false from rfl,show iEq 5 1=false from rfl,show iEq 5 2=false from rfl,show iEq 5 4=false from rfl,show iEq 5 5=true from rfl,show iEq 6 3=false from rfl,show iEq 6 6=true from rfl,show iEq 6 7=false from rfl,show iEq 7 3=false from rfl,show iEq 7 6=false from rfl,show iEq 7 7=true from rfl,cond_true,cond_false,Bool.false_and,Bool.true_and,Bool.not_true,Bool.not_false,Bool.or_false,Bool.false_or,Bool.or_true,Bool.true_or,af,Bool.not_not,Bool.and_false,Bool.and_true]
  all_goals first
   | rfl
   | (cases fitW d.A <;> simp [bf] <;> (cases fitD L 117 d.B <;> rfl))
   | (cases iLe 1 d.B <;> cases iLe d.B 1000 <;> cases iLe 0 d.A <;> cases iLe d.A d.B <;> rfl)
   | (cases iLe 1 d.A <;> cases iLe d.A 1000 <;> cases iEq d.B 0 <;> rfl)
   | (cases iEq d.A 0 <;> cases iEq d.B 0 <;> rfl)
def chkD (L:List ai):List ai→Int→Int×Int
 | [],_=>(0,0)
 | d::t,i=>cond (iNe (badD L d) 0) (i,badD L d) (chkD L t (i+1))
def chkL (L:List ai):Int×Int:=cond (iLt 32 (L.length:Int)) (0,4) (chkD L L 0)
theorem kX (L:List ai) (hL:L.length≤32):∀ (n i f:Nat),i+n=L.length→n<f→eJ L f (i:Int)=some (chkD L (L.drop i) (i:Int))
 | n,i,0,hi,hf=>by omega
 | 0,i,f+1,hi,hf=>by
  rw [eJ,aX (by omega),List.drop_eq_nil_of_le (by omega)]
  rfl
 | n+1,i,f+1,hi,hf=>by
  rw [eJ,aU (by omega),cond_true,au (aK ⟨by omega,by omega⟩),Int.toNat_natCast,wW,af,bM L i (by omega),chkD,w64 (by omega),show (i:Int)+1=((i+1:Nat):Int) by omega,kX L hL n (i+1) f (by omega) (by omega),bf]
theorem kK (L:List ai):ij L=some (chkL L):=by
 unfold ij chkL
 by_cases h:32<(L.length:Int)
 ·rw [aU h];rfl
 ·rw [aX (by omega),cond_false,cond_false]
  exact kX L (by omega) L.length 0 fuel (by omega) (by have:=aM;omega)
theorem ki (L:List ai) (hL:L.length≤32):∀ (n i f:Nat),i+n=L.length→n<f→cC L f (i:Int)=some (chkD L (L.drop i) (i:Int))
 | n,i,0,hi,hf=>by omega
 | 0,i,f+1,hi,hf=>by
  rw [cC,aX (by omega),List.drop_eq_nil_of_le (by omega)]
  rfl
 | n+1,i,f+1,hi,hf=>by
  rw [cC,aU (by omega),cond_true,au (aK ⟨by omega,by omega⟩),Int.toNat_natCast,vx,af,bM L i (by omega),chkD,w64 (by omega),show (i:Int)+1=((i+1:Nat):Int) by omega,ki L hL n (i+1) f (by omega) (by omega),bf]
theorem sa (L:List ai):fy L=some (chkL L):=by
 unfold fy chkL
 by_cases h:32<(L.length:Int)
 ·rw [aU h];rfl
 ·rw [aX (by omega),cond_false,cond_false]
  exact ki L (by omega) L.length 0 fuel (by omega) (by have:=aM;omega)
end LJ
end
section
namespace LJ
open Go Go.RowKit
set_option linter.unusedVariables false
set_option linter.unusedSimpArgs false
structure RngD (d:ai):Prop where
 k:1≤d.Kind∧d.Kind≤7
 a: -2147483648≤d.A∧d.A<2147483648
 b:0≤d.B∧d.B<2147483648
 a0:d.Kind≠7→0≤d.A
 az:d.Kind≠3→d.Kind≠6→d.Kind≠7→d.A=0
 bz:d.Kind≠3→d.Kind≠7→d.B=0
theorem CH {L:List ai} {c o:Int} (h:fitD L c o=true):0≤o∧o<L.length:=by
 unfold fitD at h
 cases hb:(iLt o 0||iLe (L.length:Int) o) with
 | true=>rw [hb] at h;cases h
 | false=>simp only [Bool.or_eq_false_iff,bo,i6] at hb;omega
theorem RngD.of {L:List ai} (hL:L.length≤32) {d:ai} (h:badD L d=0):RngD d:=by
 unfold badD at h
 by_cases h3:d.Kind=3
 ·rw [bd h3,cond_true] at h
  cases hb:(iLe 1 d.B&&iLe d.B 1000&&iLe 0 d.A&&iLe d.A d.B) with
  | false=>rw [hb] at h;cases h
  | true=>
   simp only [Bool.and_eq_true,dZ] at hb
   constructor <;> omega
 ·rw [aP h3,cond_false] at h
  by_cases h6:d.Kind=6
  ·rw [bd h6,cond_true] at h
   cases hb:(iLe 1 d.A&&iLe d.A 1000) with
   | false=>rw [hb] at h;cases h
   | true=>
    rw [hb,cond_true] at h
    cases hz:iEq d.B 0 with
    | false=>rw [hz] at h;cases h
    | true=>
     simp only [Bool.and_eq_true,dZ] at hb
     rw [cy] at hz
     constructor <;> omega
  ·rw [aP h6,cond_false] at h
   by_cases h7:d.Kind=7
   ·rw [bd h7,cond_true] at h
    cases hb:(fitW d.A&&fitD L 117 d.B) with
    | false=>rw [hb] at h;cases h
    | true=>
     simp only [Bool.and_eq_true] at hb
     have h2:=CH hb.2
     have h1:=hb.1
     unfold fitW at h1
     simp only [Bool.and_eq_true,dZ,cU] at h1
     constructor <;> omega
   ·rw [aP h7,cond_false] at h
    cases hb:(iEq d.Kind 1||iEq d.Kind 2||iEq d.Kind 4||iEq d.Kind 5) with
    | false=>rw [hb] at h;cases h
    | true=>
     rw [hb,cond_true] at h
     cases hz:(iEq d.A 0&&iEq d.B 0) with
     | false=>rw [hz] at h;cases h
     | true=>
      simp only [Bool.or_eq_true,Bool.and_eq_true,cy] at hb hz
      constructor <;> omega
theorem wX {L:List ai} :∀ {M:List ai} {i:Int},(chkD L M i).2=0→∀ d∈M,badD L d=0
 | [],i,h=>fun d hd=>by cases hd
 | x::M,i,h=>by
  unfold chkD at h
  by_cases hx:badD L x=0
  ·rw [bH hx,cond_false] at h
   intro d hd
   rcases List.mem_cons.1 hd with rfl | hd
   ·exact hx
   ·exact wX h d hd
  ·rw [b8 hx,cond_true] at h
   exact absurd h hx
theorem vy {L:List ai} :∀ {M:List ai} {i:Int},(∀ d∈M,badD L d=0)→chkD L M i=(0,0)
 | [],i,h=>rfl
 | x::M,i,h=>by
  unfold chkD
  rw [bH (h x (List.mem_cons_self ..)),cond_false]
  exact vy fun d hd=>h d (List.mem_cons_of_mem _ hd)
theorem oX {L:List ai} (h:(chkL L).2=0):L.length≤32∧chkL L=(0,0)∧(∀ d∈L,badD L d=0)∧∀ d∈L,RngD d:=by
 unfold chkL at h ⊢
 by_cases hl:32<(L.length:Int)
 ·rw [aU hl,cond_true] at h;cases h
 ·rw [aX (by omega),cond_false] at h ⊢
  have h1:=wX h
  exact ⟨by omega,vy h1,h1,fun d hd=>RngD.of (by omega) (h1 d hd)⟩
def putD (d:ai):List UInt8:=UInt8.ofNat d.Kind.toNat::(if d.Kind=3 then numL d.A.toNat++numL d.B.toNat else if d.Kind=6 then numL d.A.toNat else if d.Kind=7 then numL (zig d.A)++numL d.B.toNat else [])
def sc (L:List ai):List UInt8:=numL L.length++L.flatMap putD
theorem tJ {d:ai} (h:RngD d):(putD d).length≤21:=by
 have ⟨_,ha,hb,_,_,_⟩:=h
 have h1:=aL (n:=d.A.toNat) (by omega)
 have h2:=aL (n:=d.B.toNat) (by omega)
 have h3:=aL (n:=zig d.A) (nO (by omega) (by omega))
 unfold putD
 rw [List.length_cons]
 split
 ·rw [List.length_append];omega
 ·split
  ·omega
  ·split
   ·rw [List.length_append];omega
   ·simp
theorem jc {α:Type} (f:α→List UInt8) (m:Nat):∀ {L:List α},(∀ d∈L,(f d).length≤m)→(L.flatMap f).length≤m*L.length
 | [],h=>by simp
 | x::L,h=>by
  rw [List.flatMap_cons,List.length_append,List.length_cons]
  have h1:=h x (List.mem_cons_self ..)
  have h2:=jc f m (L:=L) fun d hd=>h d (List.mem_cons_of_mem _ hd)
  have:m*(L.length+1)=m*L.length+m:=by rw [Nat.mul_add,Nat.mul_one]
  omega
theorem ra {L:List ai} (hL:L.length≤32) (h:∀ d∈L,RngD d):(sc L).length≤1000:=by
 unfold sc
 rw [List.length_append]
 have:=aL (n:=L.length) (by omega)
 have:=jc putD 21 (fun d hd=>tJ (h d hd))
 omega
theorem mo (a b c:ByteArray):a++b++c=a++(b++c):=ByteArray.append_assoc
theorem mL (L:List ai) (hL:L.length≤32) (h:∀ d∈L,RngD d):∀ (n i f:Nat) (b:ByteArray),i+n=L.length→n<f→b.size+21*n≤10000→
  dF L f ((i:Int),b)=some (b++bs ((L.drop i).flatMap putD),0)
 | n,i,0,b,hi,hf,hb=>by omega
 | 0,i,f+1,b,hi,hf,hb=>by
  rw [dF]
  dsimp only
  rw [aX (by omega),cond_false,List.drop_eq_nil_of_le (by omega)]
  show some (b,(0:Int))=_
  congr 2
  apply bQ
  simp
 | n+1,i,f+1,b,hi,hf,hb=>by
  rw [dF]
  dsimp only
  have hm:L.getD i default∈L:=by
   rw [List.getD_eq_getElem?_getD,List.getElem?_eq_getElem (by omega)]
   exact List.getElem_mem _
  have hd:=h _ hm
  rw [aU (by omega),cond_true,au (aK ⟨by omega,by omega⟩),Int.toNat_natCast,bM L i (by omega),List.flatMap_cons]
  generalize L.getD i default=d at*
  have hlen:=tJ hd
  have ⟨hk,ha,hbb,ha0,haz,hbz⟩:=hd
  have h1:=aL (n:=d.A.toNat) (by omega)
  have h2:=aL (n:=d.B.toNat) (by omega)
  have h3:=aL (n:=zig d.A) (nO (by omega) (by omega))
  unfold ct
  rw [wu8 (by omega),au (cQ (by dsimp only;omega)),au (aK (by omega)),af]
  dsimp only
  have w:IntKind.i64.wrap ((i:Int)+1)=((i+1:Nat):Int):=by rw [w64 (by omega)];omega
  have sz:(b.push (UInt8.ofNat d.Kind.toNat)).size=b.size+1:=ByteArray.size_push
  have go:∀ (x:List UInt8),UInt8.ofNat d.Kind.toNat::x=putD d→dF L f (IntKind.i64.wrap ((i:Int)+1),b.push (UInt8.ofNat d.Kind.toNat)++bs x)=some (b++bs (putD d++(L.drop (i+1)).flatMap putD),0):=fun x hx=>by
   have hxl:x.length≤20:=by rw [←hx] at hlen;simpa using hlen
   rw [w,mL L hL h n (i+1) f _ (by omega) (by omega) (by rw [ByteArray.size_append,sz,aN];omega)]
   congr 2
   apply bQ
   rw [←hx]
   simp
  by_cases k3:d.Kind=3
  ·have a0:=ha0 (by omega)
   rw [bd k3,cond_true,wu64 (a:=d.A) (by omega),wu64 (a:=d.B) (by omega),jb a0 (by omega) (by omega),af,jb hbb.1 (by omega) (by rw [ByteArray.size_append,aN];omega),af]
   dsimp only
   rw [mo,←j4]
   exact go _ (by unfold putD;rw [if_pos k3])
  ·rw [aP k3,cond_false]
   by_cases k6:d.Kind=6
   ·have a0:=ha0 (by omega)
    rw [bd k6,cond_true,wu64 (a:=d.A) (by omega),jb a0 (by omega) (by omega),af]
    exact go _ (by unfold putD;rw [if_neg k3,if_pos k6])
   ·rw [aP k6,cond_false]
    by_cases k7:d.Kind=7
    ·rw [bd k7,cond_true,wu64 (a:=d.B) (by omega),tH (by omega) (by omega) (by omega),af,jb hbb.1 (by omega) (by rw [ByteArray.size_append,aN];omega),af]
     dsimp only
     rw [mo,←j4]
     exact go _ (by unfold putD;rw [if_neg k3,if_neg k6,if_pos k7])
    ·rw [aP k7,cond_false]
     have:=go [] (by unfold putD;rw [if_neg k3,if_neg k6,if_neg k7])
     have e:b.push (UInt8.ofNat d.Kind.toNat)++bs []=b.push (UInt8.ofNat d.Kind.toNat):=bQ (by simp)
     rwa [e] at this
theorem wY {L:List ai} (h:(chkL L).2=0):nV L=some (bs (sc L),0):=by
 obtain ⟨h1,h2,h3,h4⟩:=oX h
 unfold nV
 rw [kK,af,bH h,cond_false,wu64 (by omega),mZ (by omega) (by have:=aL (n:=L.length) (by omega);simp;omega),af]
 dsimp only
 have:=aL (n:=L.length) (by omega)
 rw [show (0:Int)=((0:Nat):Int) from rfl,mL L h1 h4 L.length 0 fuel _ (by omega) (by have:=aM;omega) (by rw [ByteArray.size_append,aN];simp;omega)]
 exact congrArg (fun z=>some (z,(0:Int))) (bQ (by unfold sc;simp))
theorem lK (L:List ai) (hL:L.length≤32) (h:∀ d∈L,RngD d):∀ (n i f:Nat) (b:ByteArray),i+n=L.length→n<f→b.size+21*n≤10000→
  eA L f (b,(i:Int))=some (b++bs ((L.drop i).flatMap putD))
 | n,i,0,b,hi,hf,hb=>by omega
 | 0,i,f+1,b,hi,hf,hb=>by
  rw [eA]
  dsimp only
  rw [aX (by omega),cond_false,List.drop_eq_nil_of_le (by omega)]
  congr 1
  apply bQ
  simp
 | n+1,i,f+1,b,hi,hf,hb=>by
  rw [eA,gJ]
  dsimp only
  have hm:L.getD i default∈L:=by
   rw [List.getD_eq_getElem?_getD,List.getElem?_eq_getElem (by omega)]
   exact List.getElem_mem _
  have hd:=h _ hm
  rw [aU (by omega),cond_true,au (aK ⟨by omega,by omega⟩),Int.toNat_natCast,bM L i (by omega),List.flatMap_cons]
  generalize L.getD i default=d at*
  have hlen:=tJ hd
  have ⟨hk,ha,hbb,ha0,haz,hbz⟩:=hd
  have h1:=aL (n:=d.A.toNat) (by omega)
  have h2:=aL (n:=d.B.toNat) (by omega)
  have h3:=aL (n:=zig d.A) (nO (by omega) (by omega))
  have w:IntKind.i64.wrap ((i:Int)+1)=((i+1:Nat):Int):=by rw [w64 (by omega)];omega
  have sz:(ByteArray.empty.push (UInt8.ofNat d.Kind.toNat)).size=1:=rfl
  have sz2:(b++ByteArray.empty.push (UInt8.ofNat d.Kind.toNat)).size=b.size+1:=by rw [ByteArray.size_append,sz]
  rw [wu8 (by omega),au (aK (by omega)),sz,au (bX (by omega))]
  have go:∀ (x:List UInt8),UInt8.ofNat d.Kind.toNat::x=putD d→eA L f (b++ByteArray.empty.push (UInt8.ofNat d.Kind.toNat)++bs x,IntKind.i64.wrap ((i:Int)+1))=some (b++bs (putD d++(L.drop (i+1)).flatMap putD)):=fun x hx=>by
   have hxl:x.length≤20:=by rw [←hx] at hlen;simpa using hlen
   rw [w,lK L hL h n (i+1) f _ (by omega) (by omega) (by rw [ByteArray.size_append,sz2,aN];omega)]
   congr 1
   apply bQ
   rw [←hx]
   simp
  by_cases k3:d.Kind=3
  ·have a0:=ha0 (by omega)
   rw [bd k3,aP (show d.Kind≠6 by omega),aP (show d.Kind≠7 by omega)]
   simp only [Bool.true_or,Bool.or_false,cond_true,cond_false]
   rw [wu64 (a:=d.A) (by omega),wu64 (a:=d.B) (by omega),fm a0 (by omega),af,aN,sz2,au (bX (by omega)),fm hbb.1 (by omega),af,aN,ByteArray.size_append,aN,sz2,au (bX (by omega)),mo (b++_),←j4]
   exact go _ (by unfold putD;rw [if_pos k3])
  ·by_cases k6:d.Kind=6
   ·have a0:=ha0 (by omega)
    rw [aP k3,bd k6,aP (show d.Kind≠7 by omega)]
    simp only [Bool.or_true,Bool.or_false,cond_true,cond_false]
    rw [wu64 (a:=d.A) (by omega),fm a0 (by omega),af,aN,sz2,au (bX (by omega))]
    exact go _ (by unfold putD;rw [if_neg k3,if_pos k6])
   ·by_cases k7:d.Kind=7
    ·rw [aP k3,aP k6,bd k7]
     simp only [Bool.or_true,Bool.or_false,cond_true,cond_false]
     rw [wu64 (a:=d.B) (by omega),yF (by omega) (by omega),af,aN,sz2,au (bX (by omega)),fm hbb.1 (by omega),af,aN,ByteArray.size_append,aN,sz2,au (bX (by omega)),mo (b++_),←j4]
     exact go _ (by unfold putD;rw [if_neg k3,if_neg k6,if_pos k7])
    ·rw [aP k3,aP k6,aP k7]
     simp only [Bool.or_false,cond_true,cond_false]
     have:=go [] (by unfold putD;rw [if_neg k3,if_neg k6,if_neg k7])
     have e:b++ByteArray.empty.push (UInt8.ofNat d.Kind.toNat)++bs []=b++ByteArray.empty.push (UInt8.ofNat d.Kind.toNat):=bQ (by simp)
     rwa [e] at this
theorem vz {L:List ai} (h:(chkL L).2=0):lA L=some (bs (sc L)):=by
 obtain ⟨h1,h2,h3,h4⟩:=oX h
 unfold lA
 have:=aL (n:=L.length) (by omega)
 rw [wu64 (by omega),sR (by omega),af,show (0:Int)=((0:Nat):Int) from rfl,lK L h1 h4 L.length 0 fuel _ (by omega) (by have:=aM;omega) (by rw [aN];omega)]
 exact congrArg some (bQ (by unfold sc;simp))
end LJ
end
section
namespace LJ
open Go Go.RowKit
set_option linter.unusedVariables false
set_option linter.unusedSimpArgs false
theorem jQ {s:ByteArray} (hs:s.size≤9007199254740992) {l:List UInt8} {e:Int} (h:RdOK s l e):i9 (mkI s l e)=some ((capN (rdN l e):Int),mkI s (rdN l e).2.2 (rdN l e).1):=by
 unfold i9
 rw [fj hs h,af]
 dsimp only
 congr 2
 unfold capN iMin
 have:=qY l e
 split
 ·rw [w64 (by omega)];omega
 ·rw [w64 (by omega)];omega
def tK (b:UInt8) (t:List UInt8):ai×Int×List UInt8:=
 cond (iLt (b.toNat:Int) 1||iLt 7 (b.toNat:Int)) (⟨b.toNat,0,0⟩,6,t)
  (cond (iEq (b.toNat:Int) 3) (⟨b.toNat,capN (rdN t 0),capN (rdN (rdN t 0).2.2 (rdN t 0).1)⟩,(rdN (rdN t 0).2.2 (rdN t 0).1).1,(rdN (rdN t 0).2.2 (rdN t 0).1).2.2)
  (cond (iEq (b.toNat:Int) 6) (⟨b.toNat,capN (rdN t 0),0⟩,(rdN t 0).1,(rdN t 0).2.2)
  (cond (iEq (b.toNat:Int) 7) (⟨b.toNat,zag (rdN t 0).2.1,capN (rdN (rdN t 0).2.2 (rdN t 0).1)⟩,(rdN (rdN t 0).2.2 (rdN t 0).1).1,(rdN (rdN t 0).2.2 (rdN t 0).1).2.2)
  (⟨b.toNat,0,0⟩,0,t))))
def hH:List UInt8→ai×Int×List UInt8
 | []=>(⟨0,0,0⟩,3,[])
 | b::t=>tK b t
theorem rb (b:UInt8) (t:List UInt8):hH (b::t)=tK b t:=rfl
theorem re {k:Int} :∃ z,lG k=some z∧sEq z ByteArray.empty=(iLt k 1||iLt 7 k):=by
 by_cases h:1≤k∧k≤7
 ·have h7:k=1∨k=2∨k=3∨k=4∨k=5∨k=6∨k=7:=by omega
  rcases h7 with rfl | rfl | rfl | rfl | rfl | rfl | rfl <;> exact ⟨_,rfl,by decide+kernel⟩
 ·refine ⟨ByteArray.empty,?_,?_⟩
  ·unfold lG
   rw [aP (show k≠1 by omega),aP (show k≠2 by omega),aP (show k≠3 by omega),aP (show k≠4 by omega),aP (show k≠5 by omega),aP (show k≠6 by omega),aP (show k≠7 by omega)]
   rfl
  ·rw [zq rfl]
   exact (by simp only [Bool.or_eq_true,cU];omega:(iLt k 1||iLt 7 k)=true).symm
theorem vA {s:ByteArray} (hs:s.size≤9007199254740992) {l:List UInt8} (h:l<:+bl s):∃ er,kd (mkI s l 0)=some ((hH l).1,(hH l).2.1,mkI s (hH l).2.2 er)∧((hH l).2.1=0→er=0∧(hH l).2.2<:+bl s):=by
 have h0:RdOK s l 0:=⟨h,fun h=>absurd rfl h⟩
 unfold kd
 cases l with
 | nil=>
  rw [ju,af]
  dsimp only
  rw [bN,af,if_pos rfl,aP (by decide),cond_false,af,Bool.false_and,cond_false,aP (by decide),cond_false,aP (by decide),cond_false,aP (by decide),cond_false]
  exact ⟨3,rfl,fun h=>absurd h (by decide:(3:Int)≠0)⟩
 | cons b t=>
  have ht:RdOK s t 0:=h0.byte
  have hb:=pk b
  rw [jP s hs b t 0 h,af]
  dsimp only
  rw [bN,af,bd rfl,cond_true]
  obtain ⟨z,hz,hz2⟩:=re (k:=(b.toNat:Int))
  rw [hz,af,Bool.true_and,hz2,rb]
  unfold tK
  cases hk:(iLt (b.toNat:Int) 1||iLt 7 (b.toNat:Int)) with
  | true=>exact ⟨_,rfl,fun h=>absurd h (by decide:(6:Int)≠0)⟩
  | false=>
   rw [cond_false,cond_false]
   cases k3:iEq (b.toNat:Int) 3 with
   | true=>
    rw [cond_true,cond_true,jQ hs ht,af,jQ hs ht.num,af,bN,af]
    exact ⟨_,rfl,fun h=>⟨h,ht.num.num.suf⟩⟩
   | false=>
    rw [cond_false,cond_false]
    cases k6:iEq (b.toNat:Int) 6 with
    | true=>
     rw [cond_true,cond_true,jQ hs ht,af,bN,af]
     exact ⟨_,rfl,fun h=>⟨h,ht.num.suf⟩⟩
    | false=>
     rw [cond_false,cond_false]
     cases k7:iEq (b.toNat:Int) 7 with
     | true=>
      rw [cond_true,cond_true,gw hs ht,af,jQ hs ht.num,af,bN,af]
      exact ⟨_,rfl,fun h=>⟨h,ht.num.num.suf⟩⟩
     | false=>
      rw [cond_false,cond_false]
      exact ⟨_,rfl,fun h=>⟨rfl,ht.suf⟩⟩
def dr:Nat→List UInt8→List ai→List ai×Int×List UInt8
 | 0,l,acc=>(acc,0,l)
 | n+1,l,acc=>cond (iEq (hH l).2.1 0) (dr n (hH l).2.2 (acc++[(hH l).1])) ([],(hH l).2.1,[])
def ld (l:List UInt8):List ai×Int×List UInt8:=
 cond (iEq (rdN l 0).1 0) (cond (iLt 32 ((rdN l 0).2.1:Int)) ([],4,[])
  (cond (iEq (dr (rdN l 0).2.1 (rdN l 0).2.2 []).2.1 0)
   (cond (iEq (chkL (dr (rdN l 0).2.1 (rdN l 0).2.2 []).1).2 0) ((dr (rdN l 0).2.1 (rdN l 0).2.2 []).1,0,(dr (rdN l 0).2.1 (rdN l 0).2.2 []).2.2) ([],(chkL (dr (rdN l 0).2.1 (rdN l 0).2.2 []).1).2,[]))
   ([],(dr (rdN l 0).2.1 (rdN l 0).2.2 []).2.1,[])))
  ([],(rdN l 0).1,[])
theorem Dq {s:ByteArray} (hs:s.size≤9007199254740992) (x2:Int×an) (N:Nat) (hN:x2.1=(N:Int)) (hN2:N≤32):∀ (n i f:Nat) (acc:List ai) (l:List UInt8),i+n=N→n<f→acc.length=i→l<:+bl s→
  gj s x2 f ((i:Int),acc,(mkI s l 0).s,(mkI s l 0).at_,(mkI s l 0).err)=
   cond (iEq (dr n l acc).2.1 0) (cond (iEq (chkL (dr n l acc).1).2 0) (some ((dr n l acc).1,(s.size:Int) - (dr n l acc).2.2.length,0)) (some ([],0,(chkL (dr n l acc).1).2))) (some ([],0,(dr n l acc).2.1))
 | n,i,0,acc,l,hi,hf,ha,hl=>by omega
 | 0,i,f+1,acc,l,hi,hf,ha,hl=>by
  have:=lI hl
  rw [gj]
  dsimp only
  have hI:(⟨(mkI s l 0).s,(mkI s l 0).at_,(mkI s l 0).err⟩:an)=mkI s l 0:=rfl
  rw [hN,aX (by omega),cond_false,kK,af,hI,show dr 0 l acc=(acc,0,l) from rfl,bd rfl,cond_true]
  dsimp only
  by_cases hc:(chkL acc).2=0
  ·rw [bH hc,cond_false,bd hc,cond_true,tI s hs l 0 hl,af,w64 (by omega)]
  ·rw [b8 hc,cond_true,aP hc,cond_false]
 | n+1,i,f+1,acc,l,hi,hf,ha,hl=>by
  rw [gj]
  dsimp only
  have hI:(⟨(mkI s l 0).s,(mkI s l 0).at_,(mkI s l 0).err⟩:an)=mkI s l 0:=rfl
  obtain ⟨er,h1,h2⟩:=vA hs hl
  rw [hN,aU (by omega),cond_true,hI,h1,af]
  dsimp only
  rw [dr]
  by_cases he:(hH l).2.1=0
  ·obtain ⟨rfl,h3⟩:=h2 he
   rw [bH he,cond_false,bd he,cond_true,au (cQ (by simp only [List.length_cons,List.length_nil];omega)),wu64 (by omega),show (i:Int)+1=((i+1:Nat):Int) by omega]
   exact Dq hs x2 N hN hN2 n (i+1) f _ _ (by omega) (by omega) (by simp;omega) h3
  ·rw [b8 he,cond_true,aP he,cond_false,aP he,cond_false]
theorem wZ {s:ByteArray} (hs:s.size≤9007199254740992):nY s=some ((ld (bl s)).1,cond (iEq (ld (bl s)).2.1 0) ((s.size:Int) - (ld (bl s)).2.2.length) 0,(ld (bl s)).2.1):=by
 unfold nY
 have h0:=RdOK.start s
 rw [qX,af,fj hs h0,af,bN,af]
 have hn:=h0.num
 dsimp only
 unfold ld
 by_cases he:(rdN (bl s) 0).1=0
 ·rw [bH he,cond_false,bd he,cond_true]
  by_cases hl:32<((rdN (bl s) 0).2.1:Int)
  ·rw [aU hl,cond_true,cond_true];rfl
  ·rw [aX (by omega),cond_false,cond_false,he]
   have:=Dq hs (((rdN (bl s) 0).2.1:Int),mkI s (rdN (bl s) 0).2.2 0) (rdN (bl s) 0).2.1 rfl (by omega) (rdN (bl s) 0).2.1 0 fuel [] (rdN (bl s) 0).2.2 (by omega) (by have:=aM;omega) rfl hn.suf
   refine Eq.trans this ?_
   generalize dr (rdN (bl s) 0).2.1 (rdN (bl s) 0).2.2 []=r
   by_cases h1:r.2.1=0
   ·rw [bd h1,cond_true,cond_true]
    by_cases h2:(chkL r.1).2=0
    ·rw [bd h2,cond_true,cond_true];rfl
    ·rw [aP h2,cond_false,cond_false];dsimp only;rw [aP h2,cond_false]
   ·rw [aP h1,cond_false,cond_false];dsimp only;rw [aP h1,cond_false]
 ·rw [b8 he,cond_true,aP he,cond_false];dsimp only;rw [aP he,cond_false]
def outR (s:ByteArray) (r:List ai×Int×List UInt8) (l':List UInt8) (e':Int):Option (List ai×aA×Int):=
 cond (iEq r.2.1 0) (cond (iEq (chkL r.1).2 0) (some (r.1,mkR s l' e',0)) (some ([],mkR s l' e',(chkL r.1).2))) (some ([],mkR s l' e',r.2.1))
theorem zy {l:List UInt8} (h:(hH l).2.1=0) (hr:RngD (hH l).1):l=putD (hH l).1++(hH l).2.2:=by
 cases l with
 | nil=>exact absurd h (by decide:(3:Int)≠0)
 | cons b t=>
  have hu:UInt8.ofNat b.toNat=b:=gb b
  have hb:=pk b
  rw [rb] at h hr ⊢
  unfold tK at h hr ⊢
  cases hk:(iLt (b.toNat:Int) 1||iLt 7 (b.toNat:Int)) with
  | true=>rw [hk,cond_true] at h;exact absurd h (by decide:(6:Int)≠0)
  | false=>
   rw [hk,cond_false] at h hr
   rw [cond_false]
   by_cases k3:(b.toNat:Int)=3
   ·rw [bd k3,cond_true] at h hr ⊢
    dsimp only at h
    have e1:=wT h
    obtain ⟨i1,j1⟩:=eV (l:=t) e1
    rw [e1] at h
    obtain ⟨i2,j2⟩:=eV (l:=(rdN t 0).2.2) h
    rw [e1] at hr ⊢
    have ⟨_,ha,hbb,_,_,_⟩:=hr
    generalize (rdN (rdN t 0).2.2 0)=r2 at*
    generalize (rdN t 0)=r1 at*
    obtain ⟨x1,n1,t1⟩:=r1
    obtain ⟨x2,n2,t2⟩:=r2
    unfold putD capN at*
    dsimp only at*
    rw [if_pos k3,Int.toNat_natCast,hu,show ((min n1 2147483648:Nat):Int).toNat=n1 by omega,show ((min n2 2147483648:Nat):Int).toNat=n2 by omega,List.cons_append,List.append_assoc,←i2,←i1]
   ·rw [aP k3,cond_false] at h hr ⊢
    by_cases k6:(b.toNat:Int)=6
    ·rw [bd k6,cond_true] at h hr ⊢
     dsimp only at h
     obtain ⟨i1,j1⟩:=eV (l:=t) h
     have ⟨_,ha,hbb,_,_,_⟩:=hr
     generalize (rdN t 0)=r1 at*
     obtain ⟨x1,n1,t1⟩:=r1
     unfold putD capN at*
     dsimp only at*
     rw [if_neg k3,if_pos k6,Int.toNat_natCast,hu,show ((min n1 2147483648:Nat):Int).toNat=n1 by omega,List.cons_append,←i1]
    ·rw [aP k6,cond_false] at h hr ⊢
     by_cases k7:(b.toNat:Int)=7
     ·rw [bd k7,cond_true] at h hr ⊢
      dsimp only at h
      have e1:=wT h
      obtain ⟨i1,j1⟩:=eV (l:=t) e1
      rw [e1] at h
      obtain ⟨i2,j2⟩:=eV (l:=(rdN t 0).2.2) h
      rw [e1] at hr ⊢
      have ⟨_,ha,hbb,_,_,_⟩:=hr
      generalize (rdN (rdN t 0).2.2 0)=r2 at*
      generalize (rdN t 0)=r1 at*
      obtain ⟨x1,n1,t1⟩:=r1
      obtain ⟨x2,n2,t2⟩:=r2
      unfold putD capN at*
      dsimp only at*
      rw [if_neg k3,if_neg k6,if_pos k7,Int.toNat_natCast,hu,wH,show ((min n2 2147483648:Nat):Int).toNat=n2 by omega,List.cons_append,List.append_assoc,←i2,←i1]
     ·rw [aP k7,cond_false]
      unfold putD
      dsimp only
      rw [if_neg k3,if_neg k6,if_neg k7,Int.toNat_natCast,hu]
      rfl
theorem rf:∀ (n:Nat) (l:List UInt8) (acc:List ai),(dr n l acc).2.1=0→(∀ d∈(dr n l acc).1,RngD d)→∃ L,(dr n l acc).1=acc++L∧L.length=n∧l=L.flatMap putD++(dr n l acc).2.2
 | 0,l,acc,h,hr=>⟨[],by simp [dr]⟩
 | n+1,l,acc,h,hr=>by
  rw [dr] at h hr ⊢
  by_cases he:(hH l).2.1=0
  ·rw [bd he,cond_true] at h hr ⊢
   obtain ⟨L,h1,h2,h3⟩:=rf n _ _ h hr
   have hd:RngD (hH l).1:=hr _ (by rw [h1];simp)
   refine ⟨(hH l).1::L,by rw [h1];simp,by simp [h2],?_⟩
   rw [List.flatMap_cons,List.append_assoc,←h3]
   exact zy he hd
  ·rw [aP he,cond_false] at h
   exact absurd h he
theorem rh {l:List UInt8} (h:(ld l).2.1=0):(chkL (ld l).1).2=0∧l=sc (ld l).1++(ld l).2.2:=by
 unfold ld at h ⊢
 by_cases a1:(rdN l 0).1=0
 ·rw [bd a1,cond_true] at h ⊢
  cases a2:iLt 32 ((rdN l 0).2.1:Int) with
  | true=>rw [a2,cond_true] at h;exact absurd h (by decide:(4:Int)≠0)
  | false=>
   rw [a2,cond_false] at h
   rw [cond_false]
   by_cases a3:(dr (rdN l 0).2.1 (rdN l 0).2.2 []).2.1=0
   ·rw [bd a3,cond_true] at h ⊢
    by_cases a4:(chkL (dr (rdN l 0).2.1 (rdN l 0).2.2 []).1).2=0
    ·rw [bd a4,cond_true]
     refine ⟨a4,?_⟩
     obtain ⟨c1,c2,c3,c4⟩:=oX a4
     obtain ⟨L,h1,h2,h3⟩:=rf _ _ _ a3 c4
     obtain ⟨i1,j1⟩:=eV (l:=l) a1
     dsimp only
     unfold sc
     rw [h1,List.nil_append,h2,List.append_assoc,←h3]
     exact i1
    ·rw [aP a4,cond_false] at h;exact absurd h a4
   ·rw [aP a3,cond_false] at h;exact absurd h a3
 ·rw [aP a1,cond_false] at h;exact absurd h a1
end LJ
end
section
namespace LJ
open Go Go.RowKit
set_option linter.unusedVariables false
set_option linter.unusedSimpArgs false
def tL:List ByteArray:=[(⟨#[112,117,115,104]⟩:ByteArray),(⟨#[108,111,97,100]⟩:ByteArray),(⟨#[115,116,111,114,101]⟩:ByteArray),(⟨#[97,100,100]⟩:ByteArray),(⟨#[115,117,98]⟩:ByteArray),(⟨#[109,117,108]⟩:ByteArray),(⟨#[100,105,118]⟩:ByteArray),(⟨#[109,111,100]⟩:ByteArray),(⟨#[110,101,103]⟩:ByteArray),(⟨#[108,116]⟩:ByteArray),(⟨#[101,113]⟩:ByteArray),(⟨#[97,110,100]⟩:ByteArray),(⟨#[111,114]⟩:ByteArray),(⟨#[120,111,114]⟩:ByteArray),(⟨#[115,104,108]⟩:ByteArray),(⟨#[115,104,114]⟩:ByteArray),(⟨#[100,117,112]⟩:ByteArray),(⟨#[100,114,111,112]⟩:ByteArray),(⟨#[106,117,109,112]⟩:ByteArray),(⟨#[122,101,114,111]⟩:ByteArray),(⟨#[99,97,108,108]⟩:ByteArray),(⟨#[114,101,116]⟩:ByteArray),(⟨#[115,101,108,102]⟩:ByteArray),(⟨#[110,111,119]⟩:ByteArray),(⟨#[111,117,116]⟩:ByteArray),(⟨#[121,105,101,108,100]⟩:ByteArray),(⟨#[119,97,105,116]⟩:ByteArray),(⟨#[119,97,105,116,102,111,114]⟩:ByteArray),(⟨#[115,108,101,101,112]⟩:ByteArray),(⟨#[117,110,108,111,99,107]⟩:ByteArray),(⟨#[112,111,115,116]⟩:ByteArray),(⟨#[103,105,118,101]⟩:ByteArray),(⟨#[99,119,97,105,116]⟩:ByteArray),(⟨#[99,119,97,105,116,102,111,114]⟩:ByteArray),(⟨#[115,105,103,110,97,108]⟩:ByteArray),(⟨#[98,114,111,97,100,99,97,115,116]⟩:ByteArray),(⟨#[101,110,114,111,108]⟩:ByteArray),(⟨#[108,101,97,118,101]⟩:ByteArray),(⟨#[97,114,114,105,118,101]⟩:ByteArray),(⟨#[97,114,114,105,118,101,102,111,114]⟩:ByteArray),(⟨#[115,112,97,119,110]⟩:ByteArray),(⟨#[106,111,105,110]⟩:ByteArray),(⟨#[106,111,105,110,102,111,114]⟩:ByteArray),(⟨#[103,114,97,110,116]⟩:ByteArray),(⟨#[119,97,105,118,101]⟩:ByteArray),(⟨#[114,101,97,100]⟩:ByteArray),(⟨#[119,114,105,116,101]⟩:ByteArray),(⟨#[98,101,103,105,110]⟩:ByteArray),(⟨#[99,111,109,109,105,116]⟩:ByteArray),(⟨#[99,108,97,105,109]⟩:ByteArray),(⟨#[100,101,97,100]⟩:ByteArray),(⟨#[109,101,110,100]⟩:ByteArray)]
def ri:List ByteArray:=[(⟨#[110]⟩:ByteArray),(⟨#[107]⟩:ByteArray),(⟨#[107]⟩:ByteArray),ByteArray.empty,ByteArray.empty,ByteArray.empty,ByteArray.empty,ByteArray.empty,ByteArray.empty,ByteArray.empty,ByteArray.empty,ByteArray.empty,ByteArray.empty,ByteArray.empty,ByteArray.empty,ByteArray.empty,ByteArray.empty,ByteArray.empty,(⟨#[116]⟩:ByteArray),(⟨#[116]⟩:ByteArray),(⟨#[102]⟩:ByteArray),ByteArray.empty,ByteArray.empty,ByteArray.empty,ByteArray.empty,ByteArray.empty,(⟨#[119]⟩:ByteArray),(⟨#[119]⟩:ByteArray),ByteArray.empty,(⟨#[117]⟩:ByteArray),(⟨#[115]⟩:ByteArray),(⟨#[112]⟩:ByteArray),(⟨#[99,109]⟩:ByteArray),(⟨#[99,109]⟩:ByteArray),(⟨#[99]⟩:ByteArray),(⟨#[99]⟩:ByteArray),(⟨#[98]⟩:ByteArray),(⟨#[98]⟩:ByteArray),(⟨#[98]⟩:ByteArray),(⟨#[98]⟩:ByteArray),(⟨#[102]⟩:ByteArray),(⟨#[106,106]⟩:ByteArray),(⟨#[106,106]⟩:ByteArray),ByteArray.empty,ByteArray.empty,(⟨#[118]⟩:ByteArray),(⟨#[118]⟩:ByteArray),ByteArray.empty,ByteArray.empty,(⟨#[113]⟩:ByteArray),(⟨#[109]⟩:ByteArray),(⟨#[109]⟩:ByteArray)]
def og:List ByteArray:=[(⟨#[110]⟩:ByteArray),(⟨#[107]⟩:ByteArray),(⟨#[107]⟩:ByteArray),(⟨#[46]⟩:ByteArray),(⟨#[46]⟩:ByteArray),(⟨#[46]⟩:ByteArray),(⟨#[46]⟩:ByteArray),(⟨#[46]⟩:ByteArray),(⟨#[46]⟩:ByteArray),(⟨#[46]⟩:ByteArray),(⟨#[46]⟩:ByteArray),(⟨#[46]⟩:ByteArray),(⟨#[46]⟩:ByteArray),(⟨#[46]⟩:ByteArray),(⟨#[46]⟩:ByteArray),(⟨#[46]⟩:ByteArray),(⟨#[46]⟩:ByteArray),(⟨#[46]⟩:ByteArray),(⟨#[116]⟩:ByteArray),(⟨#[116]⟩:ByteArray),(⟨#[102]⟩:ByteArray),(⟨#[46]⟩:ByteArray),(⟨#[46]⟩:ByteArray),(⟨#[46]⟩:ByteArray),(⟨#[46]⟩:ByteArray),(⟨#[46]⟩:ByteArray),(⟨#[119]⟩:ByteArray),(⟨#[119]⟩:ByteArray),(⟨#[46]⟩:ByteArray),(⟨#[117]⟩:ByteArray),(⟨#[115]⟩:ByteArray),(⟨#[112]⟩:ByteArray),(⟨#[99,109]⟩:ByteArray),(⟨#[99,109]⟩:ByteArray),(⟨#[99]⟩:ByteArray),(⟨#[99]⟩:ByteArray),(⟨#[98]⟩:ByteArray),(⟨#[98]⟩:ByteArray),(⟨#[98]⟩:ByteArray),(⟨#[98]⟩:ByteArray),(⟨#[102]⟩:ByteArray),(⟨#[106,106]⟩:ByteArray),(⟨#[106,106]⟩:ByteArray),(⟨#[46]⟩:ByteArray),(⟨#[46]⟩:ByteArray),(⟨#[118]⟩:ByteArray),(⟨#[118]⟩:ByteArray),(⟨#[46]⟩:ByteArray),(⟨#[46]⟩:ByteArray),(⟨#[113]⟩:ByteArray),(⟨#[109]⟩:ByteArray),(⟨#[109]⟩:ByteArray)]
theorem w8:tL.length=52:=by decide
theorem w9:ri.length=52:=by decide
theorem vB:og.length=52:=by decide
theorem vC:e9 (⟨#[112,117,115,104,32,108,111,97,100,32,115,116,111,114,101,32,97,100,100,32,115,117,98,32,109,117,108,32,100,105,118,32,109,111,100,32,110,101,103,32,108,116,32,101,113,32,97,110,100,32,111,114,32,120,111,114,32,115,104,108,32,115,104,114,32,100,117,112,32,100,114,111,112,32,106,117,109,112,32,122,101,114,111,32,99,97,108,108,32,114,101,116,32,115,101,108,102,32,110,111,119,32,111,117,116,32,121,105,101,108,100,32,119,97,105,116,32,119,97,105,116,102,111,114,32,115,108,101,101,112,32,117,110,108,111,99,107,32,112,111,115,116,32,103,105,118,101,32,99,119,97,105,116,32,99,119,97,105,116,102,111,114,32,115,105,103,110,97,108,32,98,114,111,97,100,99,97,115,116,32,101,110,114,111,108,32,108,101,97,118,101,32,97,114,114,105,118,101,32,97,114,114,105,118,101,102,111,114,32,115,112,97,119,110,32,106,111,105,110,32,106,111,105,110,102,111,114,32,103,114,97,110,116,32,119,97,105,118,101,32,114,101,97,100,32,119,114,105,116,101,32,98,101,103,105,110,32,99,111,109,109,105,116,32,99,108,97,105,109,32,100,101,97,100,32,109,101,110,100]⟩:ByteArray)=some tL:=by decide+kernel
theorem vD:e9 (⟨#[110,32,107,32,107,32,46,32,46,32,46,32,46,32,46,32,46,32,46,32,46,32,46,32,46,32,46,32,46,32,46,32,46,32,46,32,116,32,116,32,102,32,46,32,46,32,46,32,46,32,46,32,119,32,119,32,46,32,117,32,115,32,112,32,99,109,32,99,109,32,99,32,99,32,98,32,98,32,98,32,98,32,102,32,106,106,32,106,106,32,46,32,46,32,118,32,118,32,46,32,46,32,113,32,109,32,109]⟩:ByteArray)=some og:=by decide+kernel
def opK (k:Int):Bool:=iLe 0 k&&iLt k 52
theorem jZ {k:Int} :opK k=true↔0≤k∧k<52:=by unfold opK;simp only [Bool.and_eq_true,dZ,cU]
theorem yH {k:Int} :opK k=false↔¬(0≤k∧k<52):=by rw [←jZ];simp
theorem kL (k:Int):kF k=some (opK k):=rfl
theorem iz (k:Int):dD k=some (opK k):=by
 unfold dD opK
 congr 1
 have:iLe k 51=iLt k 52:=by unfold iLe iLt;congr 1;rw [eq_iff_iff];omega
 rw [this]
def CI (k:Int):ByteArray:=cond (opK k) (tL.getD k.toNat default) ByteArray.empty
def cT (k:Int):ByteArray:=cond (opK k) (ri.getD k.toNat default) ByteArray.empty
theorem sU (k:Int):mY k=some (CI k):=by
 unfold mY CI
 rw [kL,af,vC,af]
 cases h:opK k with
 | false=>rfl
 | true=>
  have:=jZ.1 h
  rw [Bool.not_true,cond_false,cond_true,au (aK (by rw [w8];omega))]
theorem Bk:∀ k:Fin 52,cond (sEq (og.getD k default) (⟨#[46]⟩:ByteArray)) ByteArray.empty (og.getD k default)=ri.getD k default:=by decide+kernel
theorem mq (k:Int):kG k=some (cT k):=by
 unfold kG cT
 rw [kL,af,vD,af]
 cases h:opK k with
 | false=>rfl
 | true=>
  have hk:=jZ.1 h
  rw [Bool.not_true,cond_false,cond_true,au (aK (by rw [vB];omega))]
  have:=Bk ⟨k.toNat,by omega⟩
  dsimp only at this
  rw [←this]
  cases sEq (og.getD k.toNat default) (⟨#[46]⟩:ByteArray) <;> rfl
theorem CJ:∀ k:Fin 52,tL.getD k default≠ByteArray.empty:=by decide+kernel
theorem rj (k:Int):sEq (CI k) ByteArray.empty= !opK k:=by
 unfold CI
 cases h:opK k with
 | false=>exact zq rfl
 | true=>
  have hk:=jZ.1 h
  exact Cu (CJ ⟨k.toNat,by omega⟩)
end LJ
end
section
namespace LJ
open Go Go.RowKit
set_option linter.unusedVariables false
set_option linter.unusedSimpArgs false
theorem zz:∀ k:Fin 52,(ri.getD k default).size≤2:=by decide+kernel
theorem fl (k:Int):(cT k).size≤2:=by
 unfold cT
 cases h:opK k with
 | false=>simp
 | true=>
  have hk:=jZ.1 h
  exact zz ⟨k.toNat,by omega⟩
theorem se:kE=some ri:=rfl
theorem kM (k:Int):gu k=some (cT k):=by
 unfold gu cT
 rw [iz,af,se,af]
 cases h:opK k with
 | false=>rfl
 | true=>
  have:=jZ.1 h
  rw [Bool.not_true,cond_false,cond_true,au (aK (by rw [w9];omega))]
def inL (c n:Int):Bool:=
 cond (iEq c 110) (fitW n) (cond (iEq c 107) (iLe 0 n&&iLt n 8) (cond (iEq c 116) (iLe 0 n&&iLt n 200) (cond (iEq c 102) (iLe 0 n&&iLt n 16) (cond (iEq c 106) (iLe 1 n&&iLe n 4) (iLe 0 n&&iLt n 32)))))
theorem Bl (c n:Int):vu c n=some (inL c n):=by
 unfold vu inL
 rw [pr,af]
 simp only [bf]
 congr 1
 by_cases h:c=119
 ·subst h;rfl
 ·rw [aP h];rfl
def xa (c:Int):Int:=cond (iEq c 107) 7 (cond (iEq c 116) 199 (cond (iEq c 102) 15 (cond (iEq c 106) 4 31)))
def rk (c:Int):Int:=cond (iEq c 106) 1 0
theorem Em (c:Int):jh c=some (xa c):=by
 unfold jh xa
 simp only [bf]
theorem CL (c:Int):ig c=some (rk c):=by
 unfold ig rk
 simp only [bf]
theorem vE (c n:Int):inL c n=cond (iEq c 110) (fitW n) (!(iLt n (rk c))&& !(iLt (xa c) n)):=by
 have key:∀ a b:Int,(!(iLt n a)&& !(iLt b n))=(iLe a n&&iLt n (b+1)):=fun a b=>by
  rw [Bool.eq_iff_iff]
  simp only [Bool.and_eq_true,Bool.not_eq_true',bo,dZ,cU]
  omega
 unfold inL rk xa
 cases iEq c 110 with
 | true=>rfl
 | false=>
  rw [cond_false,cond_false]
  by_cases h1:c=107
  ·subst h1;exact (key 0 7).symm
  ·rw [aP h1]
   by_cases h2:c=116
   ·subst h2;exact (key 0 199).symm
   ·rw [aP h2]
    by_cases h3:c=102
    ·subst h3;exact (key 0 15).symm
    ·rw [aP h3]
     by_cases h4:c=106
     ·subst h4
      rw [bd rfl]
      simp only [cond_true,cond_false]
      rw [key 1 4,Bool.eq_iff_iff]
      simp only [Bool.and_eq_true,dZ,cU]
      omega
     ·rw [aP h4];exact (key 0 31).symm
theorem j0 {c n:Int} (h:inL c n=true): -2147483648≤n∧n<2147483648∧(c≠110→0≤n):=by
 rw [vE] at h
 by_cases hc:c=110
 ·rw [bd hc,cond_true] at h
  unfold fitW at h
  simp only [Bool.and_eq_true,dZ,cU] at h
  exact ⟨h.1,h.2,fun h'=>absurd hc h'⟩
 ·rw [aP hc,cond_false] at h
  simp only [Bool.and_eq_true,Bool.not_eq_true',bo] at h
  have h1:0≤rk c∧xa c≤199:=by
   unfold rk xa
   cases iEq c 107 <;> cases iEq c 116 <;> cases iEq c 102 <;> cases iEq c 106 <;> simp only [cond_true,cond_false] <;> omega
  exact ⟨by omega,by omega,fun _=>by omega⟩
def okF (f:ByteArray) (A B:Int):Bool:=(iLe (f.size:Int) 0||inL (bg f 0) A)&&(iLe (f.size:Int) 1||inL (bg f 1) B)
def zF (f:ByteArray) (A B:Int):Bool:=(iLt 0 (f.size:Int)||iEq A 0)&&(iLt 1 (f.size:Int)||iEq B 0)
def jjF (f:ByteArray) (A B:Int):Bool:=sEq f (⟨#[106,106]⟩:ByteArray)&&iLt B A
def chkF (f:ByteArray) (A B:Int):Int:=cond (okF f A B) (cond (jjF f A B) 1 (cond (zF f A B) 0 2)) 1
def chkI (x:ar):Int:=cond (opK x.Op) (chkF (cT x.Op) x.A x.B) 6
theorem xb {f:ByteArray} (hf:f.size≤2):f.size=0∨f.size=1∨f.size=2:=by omega
theorem zA:∃ F,fuel=F+1+1+1:=⟨fuel - 3,by have:=aM;omega⟩
theorem tM {x:ar} {f:ByteArray} {F i:Nat} (hi:i+f.size<2):cZ x f (F+1) (i:Int)=cond (iNe ([x.A,x.B].getD (f.size+i) default) 0) (some 2) (cZ x f F ((i+1:Nat):Int)):=by
 rw [cZ,aU (by omega),cond_true,au (A4 (by omega)),au (aK (by omega)),au (aK (by omega)),w64 (by omega),show ((f.size:Int)+(i:Int)).toNat=f.size+i by omega,show (i:Int)+1=((i+1:Nat):Int) by omega]
theorem xc {x:ar} {f:ByteArray} {F i:Nat} (hi:¬i+f.size<2):cZ x f (F+1) (i:Int)=some 0:=by
 rw [cZ,aX (by omega),cond_false]
theorem m5 (a b:Int):iNe a b= !iEq a b:=by unfold iNe iEq;simp
theorem Ff (x:ar) {f:ByteArray} (hf:f.size≤2):cZ x f fuel 0=some (cond (zF f x.A x.B) 0 2):=by
 obtain ⟨F,hF⟩:=zA
 rw [hF,show (0:Int)=((0:Nat):Int) from rfl]
 unfold zF
 rcases xb hf with h | h | h
 ·rw [tM (by omega),tM (by omega),xc (by omega),h,m5,m5]
  show cond (!iEq x.A 0) (some 2) (cond (!iEq x.B 0) (some 2) (some 0))=_
  cases iEq x.A 0 <;> cases iEq x.B 0 <;> rfl
 ·rw [tM (by omega),xc (by omega),h,m5]
  show cond (!iEq x.B 0) (some 2) (some 0)=_
  cases iEq x.B 0 <;> rfl
 ·rw [xc (by omega),h]
  rfl
theorem tN {x:ar} {F i:Nat} (hi:i<2):cn x (F+1) (i:Int)=cond (iNe ([x.A,x.B].getD i default) 0) (some 2) (cn x F ((i+1:Nat):Int)):=by
 rw [cn,aU (by omega),cond_true,au (aK ⟨by omega,by simp only [List.length_cons,List.length_nil];omega⟩),w64 (by omega),Int.toNat_natCast,show (i:Int)+1=((i+1:Nat):Int) by omega]
theorem xd {x:ar} {F i:Nat} (hi:¬i<2):cn x (F+1) (i:Int)=some 0:=by
 rw [cn,aX (by omega),cond_false]
theorem Fg (x:ar) {f:ByteArray} (hf:f.size≤2):cn x fuel (f.size:Int)=some (cond (zF f x.A x.B) 0 2):=by
 obtain ⟨F,hF⟩:=zA
 rw [hF]
 unfold zF
 rcases xb hf with h | h | h
 ·rw [h,tN (by omega),tN (by omega),xd (by omega),m5,m5]
  show cond (!iEq x.A 0) (some 2) (cond (!iEq x.B 0) (some 2) (some 0))=_
  cases iEq x.A 0 <;> cases iEq x.B 0 <;> rfl
 ·rw [h,tN (by omega),xd (by omega),m5]
  show cond (!iEq x.B 0) (some 2) (some 0)=_
  cases iEq x.B 0 <;> rfl
 ·rw [h,xd (by omega)]
  rfl
theorem En {x:ar} {f:ByteArray} {F i:Nat} (hi:i<f.size) (hf:f.size≤2):dw x f (F+1) (i:Int)=cond (inL (bg f i) ([x.A,x.B].getD i default)) (dw x f F ((i+1:Nat):Int)) (some 1):=by
 rw [dw,aU (by omega),cond_true,au (aK (by omega)),au (aK (by omega)),Int.toNat_natCast,Bl,af,mn,w64 (by omega),show (i:Int)+1=((i+1:Nat):Int) by omega]
theorem Fh {x:ar} {f:ByteArray} {F i:Nat} (hi:¬i<f.size) (hf:f.size≤2):dw x f (F+1) (i:Int)=some (cond (jjF f x.A x.B) 1 (cond (zF f x.A x.B) 0 2)):=by
 rw [dw,aX (by omega),cond_false,au (vh (by omega)),Ff x hf]
 unfold jjF
 simp only [bf]
theorem Eo {x:ar} {f:ByteArray} {F i:Nat} (hi:i<f.size) (hf:f.size≤2):bV x f (F+1) (i:Int)=cond (inL (bg f i) ([x.A,x.B].getD i default)) (bV x f F ((i+1:Nat):Int)) (some 1):=by
 have h2:nIn (i:Int) (([x.A,x.B]:List Int).length:Int)=true:=aK ⟨by omega,by simp only [List.length_cons,List.length_nil];omega⟩
 have h1:nIn (i:Int) (f.size:Int)=true:=aK (by omega)
 rw [bV,aU (by omega),cond_true,h1,h2,oa,CL,Em,vE,w64 (by omega),Int.toNat_natCast,show (i:Int)+1=((i+1:Nat):Int) by omega]
 simp only [au,af,mn,m5]
 generalize bg f i=c
 generalize ([x.A,x.B].getD i default)=v
 cases iEq c 110 with
 | true=>simp only [cond_true,cond_false]
 | false=>
  simp only [cond_true,cond_false]
  cases iLt v (rk c) <;> cases iLt (xa c) v <;> rfl
theorem Fi {x:ar} {f:ByteArray} {F i:Nat} (hi:¬i<f.size) (hf:f.size≤2):bV x f (F+1) (i:Int)=some (cond (jjF f x.A x.B) 1 (cond (zF f x.A x.B) 0 2)):=by
 rw [bV,aX (by omega),cond_false,Fg x hf]
 unfold jjF
 simp only [bf]
theorem Bm {x:ar} {f:ByteArray} (hf:f.size≤2) (g:Nat→Int→Option Int) (hs:∀ F i:Nat,i<f.size→g (F+1) (i:Int)=cond (inL (bg f i) ([x.A,x.B].getD i default)) (g F ((i+1:Nat):Int)) (some 1)) (he:∀ F i:Nat,¬i<f.size→g (F+1) (i:Int)=some (cond (jjF f x.A x.B) 1 (cond (zF f x.A x.B) 0 2))):g fuel 0=some (chkF f x.A x.B):=by
 obtain ⟨F,hF⟩:=zA
 rw [hF,show (0:Int)=((0:Nat):Int) from rfl]
 unfold chkF okF
 rcases xb hf with h | h | h
 ·rw [he _ _ (by omega),h];rfl
 ·rw [hs _ _ (by omega),he _ _ (by omega),h]
  show cond (inL (bg f 0) x.A) _ _=_
  cases inL (bg f 0) x.A <;> rfl
 ·rw [hs _ _ (by omega),hs _ _ (by omega),he _ _ (by omega),h]
  show cond (inL (bg f 0) x.A) (cond (inL (bg f 1) x.B) _ _) _=_
  cases inL (bg f 0) x.A <;> cases inL (bg f 1) x.B <;> rfl
theorem lL (x:ar):js x=some (chkI x):=by
 unfold js chkI
 rw [sU,af,rj,mq,af,mn]
 have hf:=fl x.Op
 rw [Bm hf (dw x (cT x.Op)) (fun F i hi=>En hi hf) (fun F i hi=>Fh hi hf),bf]
theorem mM (x:ar):gd x=some (chkI x):=by
 unfold gd chkI
 rw [iz,af,kM,af,mn]
 have hf:=fl x.Op
 rw [Bm hf (bV x (cT x.Op)) (fun F i hi=>Eo hi hf) (fun F i hi=>Fi hi hf),bf]
structure OkI (x:ar):Prop where
 op:0≤x.Op∧x.Op<52
 a1:0<(cT x.Op).size→inL (bg (cT x.Op) 0) x.A=true
 b1:1<(cT x.Op).size→inL (bg (cT x.Op) 1) x.B=true
 a0:(cT x.Op).size=0→x.A=0
 b0:(cT x.Op).size≤1→x.B=0
theorem lM {x:ar} (h:chkI x=0):OkI x:=by
 unfold chkI at h
 cases hk:opK x.Op with
 | false=>rw [hk] at h;cases h
 | true=>
  rw [hk,cond_true] at h
  unfold chkF at h
  cases h1:okF (cT x.Op) x.A x.B with
  | false=>rw [h1] at h;cases h
  | true=>
   rw [h1,cond_true] at h
   cases h2:jjF (cT x.Op) x.A x.B with
   | true=>rw [h2] at h;cases h
   | false=>
    rw [h2,cond_false] at h
    cases h3:zF (cT x.Op) x.A x.B with
    | false=>rw [h3] at h;cases h
    | true=>
     unfold okF at h1
     unfold zF at h3
     simp only [Bool.and_eq_true,Bool.or_eq_true,dZ,cU,cy] at h1 h3
     exact ⟨jZ.1 hk,fun hs=>h1.1.resolve_left (by omega),fun hs=>h1.2.resolve_left (by omega),fun hs=>h3.1.resolve_left (by omega),fun hs=>h3.2.resolve_left (by omega)⟩
def putA (c n:Int):List UInt8:=cond (iEq c 110) (numL (zig n)) (numL n.toNat)
def putI (x:ar):List UInt8:=UInt8.ofNat x.Op.toNat::(cond (iLt 0 ((cT x.Op).size:Int)) (putA (bg (cT x.Op) 0) x.A) []++cond (iLt 1 ((cT x.Op).size:Int)) (putA (bg (cT x.Op) 1) x.B) [])
theorem mu {c n:Int} (h:inL c n=true):(putA c n).length≤10:=by
 obtain ⟨h1,h2,h3⟩:=j0 h
 unfold putA
 by_cases hc:c=110
 ·rw [bd hc];exact aL (nO (by omega) (by omega))
 ·have:=h3 hc
  rw [aP hc];exact aL (by omega)
theorem tO {x:ar} (h:OkI x):(putI x).length≤21:=by
 unfold putI
 rw [List.length_cons,List.length_append]
 have h1:(cond (iLt 0 ((cT x.Op).size:Int)) (putA (bg (cT x.Op) 0) x.A) []).length≤10:=by
  by_cases hs:0<(cT x.Op).size
  ·rw [aU (by omega)];exact mu (h.a1 hs)
  ·rw [aX (by omega)];simp
 have h2:(cond (iLt 1 ((cT x.Op).size:Int)) (putA (bg (cT x.Op) 1) x.B) []).length≤10:=by
  by_cases hs:1<(cT x.Op).size
  ·rw [aU (by omega)];exact mu (h.b1 hs)
  ·rw [aX (by omega)];simp
 omega
theorem tP {x:ar} {f:ByteArray} {F i:Nat} {b:ByteArray} (hi:i<f.size) (hf:f.size≤2) (hin:inL (bg f i) ([x.A,x.B].getD i default)=true) (hb:b.size≤1000):fc x f (F+1) ((i:Int),b)=fc x f F (((i+1:Nat):Int),b++bs (putA (bg f i) ([x.A,x.B].getD i default))):=by
 have hl:=mu hin
 obtain ⟨h1,h2,h3⟩:=j0 hin
 rw [fc]
 dsimp only
 rw [aU (by omega),cond_true,au (aK (by omega)),Int.toNat_natCast,au (aK (by omega)),au (aK (by omega)),w64 (by omega),show (i:Int)+1=((i+1:Nat):Int) by omega]
 generalize bg f i=c at*
 generalize ([x.A,x.B].getD i default)=v at*
 unfold putA at hl ⊢
 by_cases hc:c=110
 ·rw [bd hc,cond_true] at hl ⊢
  rw [cond_true,tH (by omega) (by omega) (by omega)]
  rfl
 ·have:=h3 hc
  rw [aP hc,cond_false] at hl ⊢
  rw [cond_false,wu64 (by omega),jb this (by omega) (by omega)]
  rfl
theorem xe {x:ar} {f:ByteArray} {F i:Nat} {b:ByteArray} (hi:¬i<f.size):fc x f (F+1) ((i:Int),b)=some (b,0):=by
 rw [fc]
 dsimp only
 rw [aX (by omega),cond_false]
 rfl
theorem zB {x:ar} (h:chkI x=0):qU x=some (bs (putI x),0):=by
 have hx:=lM h
 have hf:=fl x.Op
 have ⟨hop,ha,hb,ha0,hb0⟩:=hx
 unfold qU
 rw [lL,af,bH h,cond_false,mq,af,yG (by simp),af]
 dsimp only
 obtain ⟨F,hF⟩:=zA
 rw [hF,show (0:Int)=((0:Nat):Int) from rfl,show (x.Op %256).toNat=x.Op.toNat by omega]
 unfold putI
 generalize cT x.Op=f at*
 have s1:(ByteArray.empty.push (UInt8.ofNat x.Op.toNat)).size=1:=rfl
 rcases xb hf with hs | hs | hs
 ·rw [xe (by omega),hs]
  exact congrArg (fun z=>some (z,(0:Int))) (bQ (by simp [iLt]))
 ·rw [tP (by omega) hf (ha (by omega)) (by rw [s1];omega),xe (by omega),hs]
  exact congrArg (fun z=>some (z,(0:Int))) (bQ (by simp [iLt]))
 ·have hl:=mu (ha (by omega))
  rw [tP (by omega) hf (ha (by omega)) (by rw [s1];omega),tP (by omega) hf (hb (by omega)) (by rw [ByteArray.size_append,s1,aN];exact (by omega:1+(putA (bg f 0) x.A).length≤1000)),xe (by omega),hs]
  exact congrArg (fun z=>some (z,(0:Int))) (bQ (by simp [iLt]))
theorem rl {x:ar} {f:ByteArray} {F i:Nat} {b:ByteArray} (hi:i<f.size) (hf:f.size≤2) (hin:inL (bg f i) ([x.A,x.B].getD i default)=true) (hb:b.size≤1000):dz x f (F+1) (b,(i:Int))=dz x f F (b++bs (putA (bg f i) ([x.A,x.B].getD i default)),((i+1:Nat):Int)):=by
 have hl:=mu hin
 obtain ⟨h1,h2,h3⟩:=j0 hin
 have hn:nIn (i:Int) (([x.A,x.B]:List Int).length:Int)=true:=aK ⟨by omega,by simp only [List.length_cons,List.length_nil];omega⟩
 rw [dz]
 dsimp only
 rw [aU (by omega),cond_true,au (aK (by omega)),Int.toNat_natCast,au hn,au hn,w64 (by omega),show (i:Int)+1=((i+1:Nat):Int) by omega]
 generalize bg f i=c at*
 generalize ([x.A,x.B].getD i default)=v at*
 unfold putA at hl ⊢
 by_cases hc:c=110
 ·rw [bd hc,cond_true] at hl ⊢
  rw [cond_true,yF (by omega) (by omega),af,aN,au (bX (by omega))]
 ·have:=h3 hc
  rw [aP hc,cond_false] at hl ⊢
  rw [cond_false,wu64 (by omega),fm this (by omega),af,aN,au (bX (by omega))]
theorem tQ {x:ar} {f:ByteArray} {F i:Nat} {b:ByteArray} (hi:¬i<f.size):dz x f (F+1) (b,(i:Int))=some b:=by
 rw [dz]
 dsimp only
 rw [aX (by omega),cond_false]
theorem vF {x:ar} (h:chkI x=0):lC x=some (bs (putI x)):=by
 have hx:=lM h
 have hf:=fl x.Op
 have ⟨hop,ha,hb,ha0,hb0⟩:=hx
 unfold lC
 rw [kM,af,wu8 (by omega),au (aK (by omega))]
 obtain ⟨F,hF⟩:=zA
 rw [hF,show (0:Int)=((0:Nat):Int) from rfl]
 unfold putI
 generalize cT x.Op=f at*
 have s1:(ByteArray.empty.push (UInt8.ofNat x.Op.toNat)).size=1:=rfl
 rcases xb hf with hs | hs | hs
 ·rw [tQ (by omega),hs]
  exact congrArg some (bQ (by simp [iLt]))
 ·rw [rl (by omega) hf (ha (by omega)) (by rw [s1];omega),tQ (by omega),hs]
  exact congrArg some (bQ (by simp [iLt]))
 ·have hl:=mu (ha (by omega))
  rw [rl (by omega) hf (ha (by omega)) (by rw [s1];omega),rl (by omega) hf (hb (by omega)) (by rw [ByteArray.size_append,s1,aN];exact (by omega:1+(putA (bg f 0) x.A).length≤1000)),tQ (by omega),hs]
  exact congrArg some (bQ (by simp [iLt]))
end LJ
end
section
namespace LJ
open Go Go.RowKit
set_option linter.unusedVariables false
set_option linter.unusedSimpArgs false
abbrev GI:=ar×Int×List UInt8
def valA (c:Int) (r:Int×Nat×List UInt8):Int:=cond (iEq c 110) (zag r.2.1) (capN r)
def finI (k a b:Int) (t:List UInt8):GI:=cond (iEq (chkI ⟨k,a,b⟩) 0) (⟨k,a,b⟩,0,t) (⟨0,0,0⟩,chkI ⟨k,a,b⟩,[])
def Ep (k:Int) (f:ByteArray) (t:List UInt8):GI:=
 cond (iEq (f.size:Int) 0) (finI k 0 0 t)
  (cond (iEq (rdN t 0).1 0)
   (cond (iEq (f.size:Int) 1) (finI k (valA (bg f 0) (rdN t 0)) 0 (rdN t 0).2.2)
    (cond (iEq (rdN (rdN t 0).2.2 0).1 0) (finI k (valA (bg f 0) (rdN t 0)) (valA (bg f 1) (rdN (rdN t 0).2.2 0)) (rdN (rdN t 0).2.2 0).2.2) (⟨0,0,0⟩,(rdN (rdN t 0).2.2 0).1,[])))
   (⟨0,0,0⟩,(rdN t 0).1,[]))
def CM (b:UInt8) (t:List UInt8):GI:=cond (opK (b.toNat:Int)) (Ep (b.toNat:Int) (cT (b.toNat:Int)) t) (⟨0,0,0⟩,6,[])
def getI:List UInt8→GI
 | []=>(⟨0,0,0⟩,3,[])
 | b::t=>CM b t
theorem vG (b:UInt8) (t:List UInt8):getI (b::t)=CM b t:=rfl
def outI (s:ByteArray) (r:GI):Option (ar×Int×Int):=some (r.1,cond (iEq r.2.1 0) ((s.size:Int) - r.2.2.length) 0,r.2.1)
theorem Bn (r:Int×Nat×List UInt8) (h:r.2.1<18446744073709551616):IntKind.i64.wrap (iMin (r.2.1:Int) 2147483648)=(capN r:Int):=by
 unfold capN iMin
 split
 ·rw [w64 (by omega)];omega
 ·rw [w64 (by omega)];omega
theorem tR {s:ByteArray} (hs:s.size≤9007199254740992) {x2:Int×an} {f:ByteArray} {F i:Nat} {acc:List Int} {l:List UInt8} (hi:i<f.size) (hf:f.size≤2) (hl:l<:+bl s):
  fh s x2 f (F+1) ((i:Int),acc,(mkI s l 0).s,(mkI s l 0).at_,(mkI s l 0).err)=cond (iEq (rdN l 0).1 0) (fh s x2 f F (((i+1:Nat):Int),aset 2 acc i (valA (bg f i) (rdN l 0)),(mkI s (rdN l 0).2.2 0).s,(mkI s (rdN l 0).2.2 0).at_,(mkI s (rdN l 0).2.2 0).err)) (outI s (⟨0,0,0⟩,(rdN l 0).1,[])):=by
 have h0:RdOK s l 0:=⟨hl,fun h=>absurd rfl h⟩
 have hI:(⟨(mkI s l 0).s,(mkI s l 0).at_,(mkI s l 0).err⟩:an)=mkI s l 0:=rfl
 rw [fh]
 dsimp only
 rw [aU (by omega),cond_true,au (aK (by omega)),Int.toNat_natCast,hI,gw hs h0,fj hs h0,af,af,au (aK (by omega)),au (aK (by omega)),bN,af,af,w64 (by omega),show (i:Int)+1=((i+1:Nat):Int) by omega]
 dsimp only
 rw [Bn _ (qY l 0)]
 unfold valA outI
 by_cases he:(rdN l 0).1=0
 ·rw [bH he,bd he,cond_true,cond_false,cond_false,he]
  cases iEq (bg f i) 110 <;> rfl
 ·rw [b8 he,aP he,cond_false,cond_true,cond_true]
  cases iEq (bg f i) 110 <;> rfl
theorem xf {s:ByteArray} (hs:s.size≤9007199254740992) {x2:Int×an} {f:ByteArray} {F i:Nat} {acc:List Int} {l:List UInt8} (hi:¬i<f.size) (hl:l<:+bl s):
  fh s x2 f (F+1) ((i:Int),acc,(mkI s l 0).s,(mkI s l 0).at_,(mkI s l 0).err)=outI s (finI x2.1 (acc.getD 0 default) (acc.getD 1 default) l):=by
 have hI:(⟨(mkI s l 0).s,(mkI s l 0).at_,(mkI s l 0).err⟩:an)=mkI s l 0:=rfl
 have:=lI hl
 rw [fh]
 dsimp only
 rw [aX (by omega),cond_false,au (aK (by decide)),au (aK (by decide)),lL,af,hI,tI s hs l 0 hl,af,w64 (by omega)]
 show cond (iNe (chkI ⟨x2.1,acc.getD 0 default,acc.getD 1 default⟩) 0) _ _=_
 unfold outI finI
 by_cases he:chkI ⟨x2.1,acc.getD 0 default,acc.getD 1 default⟩=0
 ·rw [bH he,bd he,cond_false,cond_true]
  rfl
 ·rw [b8 he,aP he,cond_true,cond_false]
  dsimp only
  rw [aP he,cond_false]
  rfl
theorem tS {s:ByteArray} {l:List UInt8} (h:l<:+bl s):(rdN l 0).2.2<:+bl s:=(RdOK.num (s:=s) (l:=l) (e:=0) ⟨h,fun h=>absurd rfl h⟩).suf
theorem zC {s:ByteArray} (hs:s.size≤9007199254740992):qV s=outI s (getI (bl s)):=by
 unfold qV
 have h0:=RdOK.start s
 rw [qX,af,m4 hs h0,af,bN,af]
 cases hb:bl s with
 | nil=>rfl
 | cons b t=>
  have hl:(b::t)<:+bl s:=by rw [hb];exact List.suffix_refl _
  have ht:=n9 hl
  have hbb:=pk b
  show cond (iNe (0:Int) 0) _ ((mY (b.toNat:Int)).bind _)=_
  rw [bH rfl,cond_false,sU,af,rj,vG]
  unfold CM
  dsimp only [rdB]
  rw [mq,af]
  cases hk:opK (b.toNat:Int) with
  | false=>rfl
  | true=>
   rw [Bool.not_true,cond_false,cond_true]
   have hf:=fl (b.toNat:Int)
   generalize cT (b.toNat:Int)=f at*
   obtain ⟨F,hF⟩:=zA
   rw [hF]
   unfold Ep
   have e0:((0:Nat):Int)=0:=rfl
   rcases xb hf with h | h | h
   ·refine (xf hs (f:=f) (i:=0) (by omega) ht).trans ?_
    rw [bd (show (f.size:Int)=0 by omega),cond_true]
    rfl
   ·refine (tR hs (f:=f) (i:=0) (by omega) hf ht).trans ?_
    rw [aP (show (f.size:Int)≠0 by omega),cond_false,bd (show (f.size:Int)=1 by omega),cond_true,xf hs (by omega) (tS ht)]
    cases iEq (rdN t 0).1 0 <;> rfl
   ·refine (tR hs (f:=f) (i:=0) (by omega) hf ht).trans ?_
    rw [aP (show (f.size:Int)≠0 by omega),cond_false,aP (show (f.size:Int)≠1 by omega),cond_false,tR hs (by omega) hf (tS ht),xf hs (by omega) (tS (tS ht))]
    cases iEq (rdN t 0).1 0 <;> cases iEq (rdN (rdN t 0).2.2 0).1 0 <;> rfl
def RdI (s:ByteArray) (r:GI) (z:Option (ar×aA×Int)):Prop:=∃ l' e',z=some (r.1,mkR s l' e',r.2.1)∧(r.2.1=0→l'=r.2.2∧e'=0∧l'<:+bl s)
theorem RdI.err {s:ByteArray} {e:Int} {l':List UInt8} {e':Int} (h:e≠0):RdI s (⟨0,0,0⟩,e,[]) (some (⟨0,0,0⟩,mkR s l' e',e)):=⟨l',e',rfl,fun h'=>absurd h' h⟩
theorem xg {c:Int} {l:List UInt8} (h:(rdN l 0).1=0) (hin:inL c (valA c (rdN l 0))=true):l=putA c (valA c (rdN l 0))++(rdN l 0).2.2:=by
 obtain ⟨h1,h2⟩:=eV h
 obtain ⟨g1,g2,g3⟩:=j0 hin
 unfold putA valA at*
 by_cases hc:c=110
 ·rw [bd hc,cond_true,cond_true,wH]
  exact h1
 ·have:=g3 hc
  rw [aP hc,cond_false] at*
  rw [cond_false]
  have:((capN (rdN l 0):Nat):Int).toNat=(rdN l 0).2.1:=by unfold capN at*;omega
  rw [this]
  exact h1
theorem tT {k a b:Int} {t:List UInt8} (h:(finI k a b t).2.1=0):chkI ⟨k,a,b⟩=0∧finI k a b t=(⟨k,a,b⟩,0,t):=by
 unfold finI at h ⊢
 by_cases hc:chkI ⟨k,a,b⟩=0
 ·rw [bd hc,cond_true];exact ⟨hc,rfl⟩
 ·rw [aP hc,cond_false] at h;exact absurd h hc
theorem yI {l:List UInt8} (h:(getI l).2.1=0):chkI (getI l).1=0∧l=putI (getI l).1++(getI l).2.2:=by
 cases l with
 | nil=>exact absurd h (by decide:(3:Int)≠0)
 | cons b t=>
  have hu:UInt8.ofNat b.toNat=b:=gb b
  rw [vG] at h ⊢
  unfold CM at h ⊢
  cases hk:opK (b.toNat:Int) with
  | false=>rw [hk,cond_false] at h;exact absurd h (by decide:(6:Int)≠0)
  | true=>
   rw [hk,cond_true] at h
   rw [cond_true]
   have hf:=fl (b.toNat:Int)
   unfold Ep at h ⊢
   rcases xb hf with hs | hs | hs
   ·rw [bd (show ((cT (b.toNat:Int)).size:Int)=0 by omega),cond_true] at h ⊢
    obtain ⟨c1,c2⟩:=tT h
    rw [c2]
    refine ⟨c1,?_⟩
    unfold putI
    dsimp only
    rw [aX (by omega),aX (by omega),Int.toNat_natCast,hu]
    rfl
   ·rw [aP (show ((cT (b.toNat:Int)).size:Int)≠0 by omega),cond_false] at h ⊢
    by_cases h2:(rdN t 0).1=0
    ·rw [bd h2,cond_true,bd (show ((cT (b.toNat:Int)).size:Int)=1 by omega),cond_true] at h ⊢
     obtain ⟨c1,c2⟩:=tT h
     rw [c2]
     refine ⟨c1,?_⟩
     have ho:=lM c1
     have:=xg h2 (ho.a1 (by dsimp only;omega))
     unfold putI
     dsimp only at this ⊢
     rw [aU (by omega),aX (by omega),Int.toNat_natCast,hu,cond_true,cond_false,List.append_nil,List.cons_append,←this]
    ·rw [aP h2,cond_false] at h;exact absurd h h2
   ·rw [aP (show ((cT (b.toNat:Int)).size:Int)≠0 by omega),cond_false] at h ⊢
    by_cases h2:(rdN t 0).1=0
    ·rw [bd h2,cond_true,aP (show ((cT (b.toNat:Int)).size:Int)≠1 by omega),cond_false] at h ⊢
     by_cases h3:(rdN (rdN t 0).2.2 0).1=0
     ·rw [bd h3,cond_true] at h ⊢
      obtain ⟨c1,c2⟩:=tT h
      rw [c2]
      refine ⟨c1,?_⟩
      have ho:=lM c1
      have v1:=xg h2 (ho.a1 (by dsimp only;omega))
      have v2:=xg h3 (ho.b1 (by dsimp only;omega))
      unfold putI
      dsimp only at v1 v2 ⊢
      rw [aU (by omega),aU (by omega),Int.toNat_natCast,hu,cond_true,cond_true,List.cons_append,List.append_assoc,←v2,←v1]
     ·rw [aP h3,cond_false] at h;exact absurd h h3
    ·rw [aP h2,cond_false] at h;exact absurd h h2
end LJ
end
section
namespace LJ
open Go Go.RowKit
set_option linter.unusedVariables false
set_option linter.unusedSimpArgs false
theorem tU (x M k c:Nat) (hk:k≤7) (hM:∀ i,i<8→M.testBit i=c.testBit i) (hc:∀ i,c.testBit i=true→i+k<8):(x>>>k&&&M) %2 ^8=(x %2 ^8)>>>k&&&c:=by
 apply Nat.eq_of_testBit_eq
 intro i
 rw [Nat.testBit_mod_two_pow,Nat.testBit_and,Nat.testBit_and,Nat.testBit_shiftRight,Nat.testBit_shiftRight,Nat.testBit_mod_two_pow]
 by_cases hi:i<8
 ·rw [hM i hi]
  cases h:c.testBit i with
  | false=>simp
  | true=>
   have:=hc i h
   simp [hi,show k+i<8 by omega]
 ·cases h:c.testBit i with
  | false=>simp [hi]
  | true=>have:=hc i h;omega
theorem rm (x M k:Nat):(x>>>k&&&M) /2 ^8=(x /2 ^8)>>>k&&&(M /2 ^8):=by
 apply Nat.eq_of_testBit_eq
 intro i
 rw [Nat.testBit_div_two_pow,Nat.testBit_and,Nat.testBit_and,Nat.testBit_shiftRight,Nat.testBit_shiftRight,Nat.testBit_div_two_pow,Nat.testBit_div_two_pow]
 congr 2
def rep (c:Nat):Nat→Nat
 | 0=>0
 | n+1=>c+256*rep c n
def digs:Nat→Nat→List Nat
 | 0,_=>[]
 | n+1,x=>x %256::digs n (x /256)
def fp (k M x:Nat):Nat:=(x>>>k&&&M)+(x&&&M)
theorem xh {c:Nat} (hc:c<256) (n:Nat):rep c (n+1) %2 ^8=c∧rep c (n+1) /2 ^8=rep c n:=by
 simp only [rep]
 omega
theorem xi {c:Nat} (hc:c<256) (n i:Nat) (hi:i<8):(rep c (n+1)).testBit i=c.testBit i:=by
 have h:=(xh hc n).1
 have:=Nat.testBit_mod_two_pow (rep c (n+1)) 8 i
 rw [h] at this
 rw [this]
 simp [hi]
theorem oY {c k:Nat} (hc:c<256) (hk:k≤7) (hb:∀ i,c.testBit i=true→i+k<8) (hs:∀ b,b<256→fp k c b<256):∀ n x,digs n (fp k (rep c n) x)=(digs n x).map (fp k c)
 | 0,x=>rfl
 | n+1,x=>by
  have h1:=tU x (rep c (n+1)) k c hk (fun i hi=>xi hc n i hi) hb
  have h2:=tU x (rep c (n+1)) 0 c (by omega) (fun i hi=>xi hc n i hi) (fun i h=>by have:=hb i h;omega)
  have h3:=rm x (rep c (n+1)) k
  have h4:=rm x (rep c (n+1)) 0
  rw [(xh hc n).2] at h3 h4
  have h5:=hs (x %256) (by omega)
  simp only [Nat.shiftRight_zero] at h2 h4
  unfold fp at h5
  have e1:fp k (rep c (n+1)) x %256=fp k c (x %256):=by
   unfold fp
   simp only [Nat.reducePow] at h1 h2
   omega
  have e2:fp k (rep c (n+1)) x /256=fp k (rep c n) (x /256):=by
   unfold fp
   simp only [Nat.reducePow] at h1 h2 h3 h4
   omega
  simp only [digs,List.map_cons]
  rw [e1,e2,oY hc hk hb hs n (x /256)]
theorem sV:∀ n z,(∀ b∈digs n z,b /16≤4∧b %16≤4)→z<256 ^n→digs n ((z>>>4+z)&&&rep 15 n)=(digs n z).map fun b=>b /16+b %16
 | 0,z,_,_=>rfl
 | n+1,z,hb,hz=>by
  have h2:=tU (z>>>4+z) (rep 15 (n+1)) 0 15 (by omega) (fun i hi=>xi (by decide) n i hi) (fun i h=>by
   by_cases hi:i<8
   ·omega
   ·rw [show (15:Nat)=2 ^4 - 1 from rfl,Nat.testBit_two_pow_sub_one] at h
    simp at h
    omega)
  have h4:=rm (z>>>4+z) (rep 15 (n+1)) 0
  rw [(xh (by decide) n).2] at h4
  simp only [Nat.shiftRight_zero,Nat.reducePow] at h2 h4
  rw [show (15:Nat)=2 ^4 - 1 from rfl,Nat.and_two_pow_sub_one_eq_mod] at h2
  obtain ⟨g1,g2⟩:=hb (z %256) (by simp [digs])
  have hr:(z /256) %16≤4:=by
   cases n with
   | zero=>simp at hz;omega
   | succ n=>
    have:=(hb (z /256 %256) (by simp [digs])).2
    rwa [Nat.mod_mod_of_dvd _ (by decide:16∣256)] at this
  have hs:z>>>4=z /16:=by rw [Nat.shiftRight_eq_div_pow]
  have e3:(z>>>4+z) /256=(z /256)>>>4+z /256:=by
   rw [hs,Nat.shiftRight_eq_div_pow]
   omega
  simp only [digs,List.map_cons]
  have hz':z /256<256 ^n:=by
   rw [Nat.pow_succ] at hz
   exact Nat.div_lt_of_lt_mul (by rw [Nat.mul_comm];exact hz)
  rw [h4,e3,sV n (z /256) (fun b h=>hb b (by simp [digs,h])) hz',h2,hs]
  congr 1
  omega
theorem sum8 {z b0 b1 b2 b3 b4 b5 b6 b7 Z1 Z2 Z3 Z4 Z5 Z6:Nat} (h0:b0≤8) (h1:b1≤8) (h2:b2≤8) (h3:b3≤8) (h4:b4≤8) (h5:b5≤8) (h6:b6≤8) (h7:b7≤8)
  (e0:z=b0+256*Z1) (e1:Z1=b1+256*Z2) (e2:Z2=b2+256*Z3) (e3:Z3=b3+256*Z4) (e4:Z4=b4+256*Z5) (e5:Z5=b5+256*Z6) (e6:Z6=b6+256*b7):
  ∃ y v t,y=z /256+z∧y<2 ^64∧v=y /65536+y∧v<2 ^64∧t=v /4294967296+v∧t<2 ^64∧t %128=b0+b1+b2+b3+b4+b5+b6+b7:=by
 have f0:z /256=Z1:=by omega
 have f2:(z /256+z) /65536=Z2+Z3:=by rw [f0];omega
 have f4:((z /256+z) /65536+(z /256+z)) /4294967296=Z4+Z5+Z6+b7:=by rw [f2,f0];omega
 refine ⟨_,_,_,rfl,by rw [f0];omega,rfl,by rw [f2,f0];omega,rfl,by rw [f4,f2,f0];omega,?_⟩
 rw [f4,f2,f0]
 omega
def popB (b:Nat):Nat:=b %2+b /2 %2+b /4 %2+b /8 %2+b /16 %2+b /32 %2+b /64 %2+b /128 %2
def cntN (x:Nat):Nat:=((digs 8 x).map popB).sum
theorem qt:∀ b:Fin 256,fp 1 85 b<256∧fp 2 51 b<256∧fp 2 51 (fp 1 85 b) /16≤4∧fp 2 51 (fp 1 85 b) %16≤4∧fp 2 51 (fp 1 85 b) /16+fp 2 51 (fp 1 85 b) %16=popB b:=by decide+kernel
theorem xj:∀ n x,∀ b∈digs n x,b<256
 | 0,x,b,h=>by cases h
 | n+1,x,b,h=>by
  simp only [digs,List.mem_cons] at h
  rcases h with rfl | h
  ·omega
  ·exact xj n (x /256) b h
theorem Bo (c:Nat) (k:Nat) (hc:c<256) (h:∀ i:Fin 8,c.testBit i=true→(i:Nat)+k<8):∀ i,c.testBit i=true→i+k<8:=fun i hi=>by
 by_cases h8:i<8
 ·exact h ⟨i,h8⟩ hi
 ·exfalso
  have:c.testBit i=false:=Nat.testBit_lt_two_pow (Nat.lt_of_lt_of_le hc (by rw [show 256=2 ^8 from rfl];exact Nat.pow_le_pow_right (by decide) (by omega)))
  rw [this] at hi
  cases hi
theorem sW {x:Nat} :digs 8 ((fp 2 (rep 51 8) (fp 1 (rep 85 8) x)))=(digs 8 x).map fun b=>fp 2 51 (fp 1 85 b):=by
 rw [oY (by decide) (by decide) (Bo 51 2 (by decide) (by decide)) (fun b hb=>(qt ⟨b,hb⟩).2.1),oY (by decide) (by decide) (Bo 85 1 (by decide) (by decide)) (fun b hb=>(qt ⟨b,hb⟩).1),List.map_map]
 rfl
def pQ (x:Nat):Nat:=(fp 2 (rep 51 8) (fp 1 (rep 85 8) x)>>>4+fp 2 (rep 51 8) (fp 1 (rep 85 8) x))&&&rep 15 8
theorem tV {k M x:Nat} (h:M+M<18446744073709551616):fp k M x<18446744073709551616:=by
 have h1:=Nat.and_le_right (n:=x>>>k) (m:=M)
 have h2:=Nat.and_le_right (n:=x) (m:=M)
 unfold fp
 omega
theorem zD (x:Nat):digs 8 (pQ x)=(digs 8 x).map popB:=by
 have hlt:fp 2 (rep 51 8) (fp 1 (rep 85 8) x)<256 ^8:=tV (by decide)
 unfold pQ
 rw [sV 8 _ (fun b hb=>?_) hlt,sW,List.map_map]
 ·refine List.map_congr_left fun b hb=>?_
  exact (qt ⟨b,xj 8 x b hb⟩).2.2.2.2
 ·rw [sW] at hb
  obtain ⟨c,hc,rfl⟩:=List.mem_map.1 hb
  have:=qt ⟨c,xj 8 x c hc⟩
  exact ⟨this.2.2.1,this.2.2.2.1⟩
theorem Bp (x:Nat):∃ y v t,y=pQ x /256+pQ x∧y<2 ^64∧v=y /65536+y∧v<2 ^64∧t=v /4294967296+v∧t<2 ^64∧t %128=cntN x:=by
 have hd:=zD x
 have hC:pQ x<18446744073709551616:=Nat.lt_of_le_of_lt Nat.and_le_right (by decide:rep 15 8<18446744073709551616)
 have hle:∀ b∈digs 8 (pQ x),b≤8:=fun b hb=>by
  rw [hd] at hb
  obtain ⟨c,hc,rfl⟩:=List.mem_map.1 hb
  unfold popB
  omega
 have hs:cntN x=(digs 8 (pQ x)).sum:=by rw [hd];rfl
 rw [hs]
 generalize pQ x=C at*
 simp only [digs,List.mem_cons,List.not_mem_nil,or_false,forall_eq_or_imp,forall_eq] at hle
 obtain ⟨g0,g1,g2,g3,g4,g5,g6,g7⟩:=hle
 obtain ⟨y,v,t,a1,a2,a3,a4,a5,a6,a7⟩:=sum8 (z:=C) (Z1:=C /256) (Z2:=C /256 /256) (Z3:=C /256 /256 /256) (Z4:=C /256 /256 /256 /256) (Z5:=C /256 /256 /256 /256 /256) (Z6:=C /256 /256 /256 /256 /256 /256) g0 g1 g2 g3 g4 g5 g6 g7 (by omega) (by omega) (by omega) (by omega) (by omega) (by omega) (by omega)
 refine ⟨y,v,t,a1,a2,a3,a4,a5,a6,?_⟩
 rw [a7]
 simp only [digs,List.sum_cons,List.sum_nil]
 omega
theorem wu {n:Nat} (h:n<18446744073709551616):IntKind.u64.wrap (n:Int)=(n:Int):=by rw [IntKind.wrap_u64];omega
theorem sh1 (a:Nat):(a:Int) /(2:Int) ^min (1:Int).toNat IntKind.u64.bits=((a>>>1:Nat):Int):=by
 rw [show min (1:Int).toNat IntKind.u64.bits=1 from rfl,Nat.shiftRight_eq_div_pow];simp
theorem sh2 (a:Nat):(a:Int) /(2:Int) ^min (2:Int).toNat IntKind.u64.bits=((a>>>2:Nat):Int):=by
 rw [show min (2:Int).toNat IntKind.u64.bits=2 from rfl,Nat.shiftRight_eq_div_pow];simp
theorem sh4 (a:Nat):(a:Int) /(2:Int) ^min (4:Int).toNat IntKind.u64.bits=((a>>>4:Nat):Int):=by
 rw [show min (4:Int).toNat IntKind.u64.bits=4 from rfl,Nat.shiftRight_eq_div_pow];simp
theorem sh8 (a:Nat):(a:Int) /(2:Int) ^min (8:Int).toNat IntKind.u64.bits=((a /256:Nat):Int):=by
 rw [show min (8:Int).toNat IntKind.u64.bits=8 from rfl];simp
theorem sh16 (a:Nat):(a:Int) /(2:Int) ^min (16:Int).toNat IntKind.u64.bits=((a /65536:Nat):Int):=by
 rw [show min (16:Int).toNat IntKind.u64.bits=16 from rfl];simp
theorem sh32 (a:Nat):(a:Int) /(2:Int) ^min (32:Int).toNat IntKind.u64.bits=((a /4294967296:Nat):Int):=by
 rw [show min (32:Int).toNat IntKind.u64.bits=32 from rfl];simp
theorem zE {p q:Nat} (h:p+q<18446744073709551616):IntKind.u64.wrap ((p:Int)+(q:Int))=((p+q:Nat):Int):=by
 rw [←Int.natCast_add,wu h]
theorem Er (t:Int):((t+9223372036854775808) %18446744073709551616 - 9223372036854775808) %128=t %128:=by
 rw [Int.emod_def (t+9223372036854775808)]
 generalize (t+9223372036854775808) /18446744073709551616=q
 omega
set_option maxRecDepth 100000 in
theorem Es {x:Nat} (hx:x<18446744073709551616):eX (x:Int)=some ((cntN x:Nat):Int):=by
 obtain ⟨y,v,t,a1,a2,a3,a4,a5,a6,a7⟩:=Bp x
 have r0:rep 85 8=6148914691236517205:=by decide
 have r1:rep 51 8=3689348814741910323:=by decide
 have r2:rep 15 8=1085102592571150095:=by decide
 have and_u:∀ (a b:Nat),a<18446744073709551616→b<18446744073709551616→Go.bits .and .u64 (a:Int) (b:Int)=((a&&&b:Nat):Int):=fun a b ha hb=>bits_and_u64_nat a b ha hb
 have shlt:∀ (a k:Nat),a<18446744073709551616→a>>>k<18446744073709551616:=fun a k h=>by rw [Nat.shiftRight_eq_div_pow];exact Nat.lt_of_le_of_lt (Nat.div_le_self _ _) h
 generalize hA:fp 1 (rep 85 8) x=A at*
 have hAlt:A<18446744073709551616:=by rw [←hA];exact tV (by decide)
 have s1:IntKind.u64.wrap (Go.bits .and .u64 ((x:Int) /(2:Int) ^min (1:Int).toNat IntKind.u64.bits) 6148914691236517205+Go.bits .and .u64 (x:Int) 6148914691236517205)=(A:Int):=by
  rw [sh1,show (6148914691236517205:Int)=((6148914691236517205:Nat):Int) from rfl,and_u _ _ (shlt x 1 hx) (by decide),and_u _ _ hx (by decide),←r0]
  unfold fp at hA
  rw [zE (by rw [hA];exact hAlt),hA]
 generalize hB:fp 2 (rep 51 8) A=B at*
 have hBlt:B<18446744073709551616:=by rw [←hB];exact tV (by decide)
 have s2:IntKind.u64.wrap (Go.bits .and .u64 ((A:Int) /(2:Int) ^min (2:Int).toNat IntKind.u64.bits) 3689348814741910323+Go.bits .and .u64 (A:Int) 3689348814741910323)=(B:Int):=by
  rw [sh2,show (3689348814741910323:Int)=((3689348814741910323:Nat):Int) from rfl,and_u _ _ (shlt A 2 hAlt) (by decide),and_u _ _ hAlt (by decide),←r1]
  unfold fp at hB
  rw [zE (by rw [hB];exact hBlt),hB]
 have hBB:B≤rep 51 8+rep 51 8:=by
  rw [←hB]
  unfold fp
  exact Nat.add_le_add Nat.and_le_right Nat.and_le_right
 have hS:B>>>4+B<18446744073709551616:=by
  rw [Nat.shiftRight_eq_div_pow]
  rw [r1] at hBB
  omega
 have hCd:pQ x=(B>>>4+B)&&&rep 15 8:=by unfold pQ;rw [hA,hB]
 have s3:Go.bits .and .u64 (IntKind.u64.wrap ((B:Int) /(2:Int) ^min (4:Int).toNat IntKind.u64.bits+(B:Int))) 1085102592571150095=((pQ x:Nat):Int):=by
  rw [sh4,zE hS,show (1085102592571150095:Int)=((1085102592571150095:Nat):Int) from rfl,and_u _ _ hS (by decide),hCd,r2]
 generalize pQ x=C at*
 have s4:IntKind.u64.wrap ((C:Int)+(C:Int) /(2:Int) ^min (8:Int).toNat IntKind.u64.bits)=(y:Int):=by
  rw [sh8,zE (by omega),a1,Nat.add_comm]
 have s5:IntKind.u64.wrap ((y:Int)+(y:Int) /(2:Int) ^min (16:Int).toNat IntKind.u64.bits)=(v:Int):=by
  rw [sh16,zE (by omega),a3,Nat.add_comm]
 have s6:IntKind.u64.wrap ((v:Int)+(v:Int) /(2:Int) ^min (32:Int).toNat IntKind.u64.bits)=(t:Int):=by
  rw [sh32,zE (by omega),a5,Nat.add_comm]
 rw [eX]
 rw [s1,s2,s3,s4,s5,s6,i64_and127,IntKind.wrap_i64,←a7,Er]
 rfl
end LJ
end
section
namespace LJ
open Go Go.RowKit
set_option linter.unusedVariables false
set_option linter.unusedSimpArgs false
def pc:Nat→Nat→Nat
 | 0,_=>0
 | k+1,x=>x %2+pc k (x /2)
def ls:Nat→Nat→Nat→List Int
 | 0,_,_=>[]
 | k+1,n,x=>if x %2=1 then (n:Int)::ls k (n+1) (x /2) else ls k (n+1) (x /2)
theorem Et (m x:Nat):pc (m+8) x=popB (x %256)+pc m (x /256):=by
 simp only [pc]
 rw [show x /2 /2 /2 /2 /2 /2 /2 /2=x /256 by omega]
 unfold popB
 omega
theorem Bq:∀ n x,((digs n x).map popB).sum=pc (8*n) x
 | 0,x=>rfl
 | n+1,x=>by
  rw [show 8*(n+1)=8*n+8 by omega,Et]
  simp only [digs,List.map_cons,List.sum_cons]
  rw [Bq n]
theorem Fj (x:Nat):cntN x=pc 64 x:=Bq 8 x
theorem Br:∀ k,pc k 0=0
 | 0=>rfl
 | k+1=>by rw [pc,Br]
theorem Bs (a b:Nat):(a|||b) /2=a /2|||b /2:=by
 have:=Nat.or_div_two_pow (a:=a) (b:=b) (n:=1)
 simpa using this
theorem Dr (a b:Nat):(a|||b) %2=max (a %2) (b %2):=by
 have:=Nat.or_mod_two_pow (a:=a) (b:=b) (n:=1)
 simp only [Nat.reducePow] at this
 rw [this]
 rcases Nat.mod_two_eq_zero_or_one a with h | h <;> rcases Nat.mod_two_eq_zero_or_one b with g | g <;> rw [h,g] <;> rfl
theorem Ds:∀ (i x:Nat),x|||2 ^i=if x.testBit i then x else x+2 ^i
 | 0,x=>by
  have h1:=Bs x 1
  have h2:=Dr x 1
  rw [Nat.testBit_zero,Nat.pow_zero]
  have:x /2|||1 /2=x /2:=by simp
  rw [this] at h1
  split
  ·rename_i h;simp at h;omega
  ·rename_i h;simp at h;omega
 | i+1,x=>by
  have h1:=Bs x (2 ^(i+1))
  have h2:=Dr x (2 ^(i+1))
  have e:2 ^(i+1) /2=2 ^i:=by rw [Nat.pow_succ];omega
  have e':2 ^(i+1) %2=0:=by rw [Nat.pow_succ];omega
  rw [e,Ds i (x /2)] at h1
  rw [e'] at h2
  rw [Nat.testBit_succ]
  rw [Nat.pow_succ] at*
  split
  ·rename_i h;rw [if_pos h] at h1;omega
  ·rename_i h;rw [if_neg h] at h1;omega
def rot (k x:Nat):Nat:=x /2 ^(64 - k)+2 ^k*(x %2 ^(64 - k))
end LJ
end
