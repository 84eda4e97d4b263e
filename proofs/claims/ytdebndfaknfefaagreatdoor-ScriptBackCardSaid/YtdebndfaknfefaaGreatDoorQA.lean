/- Several texts of plain Lean, one behind the other. No condition. -/
import Derived.Test.YtdebndfaknfefaaGreatDoorPF
import Derived.Test.YtdebndfaknfefaaGreatDoorXPB
import Derived.Laws.Bits64b
import Derived.Laws.Bits128
import Derived.Lib.TrailingZeros
section
namespace LJ
open Go Go.RowKit
set_option linter.unusedVariables false
set_option linter.unusedSimpArgs false
theorem rL (K:(Int×ByteArray)→Option ay) (hK:∀ (n:Nat) (b:ByteArray),n<128→b.size+1≤140737488355328→K ((n:Int),b)=some ⟨b.push (UInt8.ofNat n)⟩):∀ (k f n:Nat) (b:ByteArray),n<128 ^(k+1)→k<f→b.size+(numL n).length≤140737488355328→dF K f ((n:Int),b)=some ⟨b++bs (numL n)⟩
 | k,0,n,b,hn,hf,hb=>by omega
 | k,f+1,n,b,hn,hf,hb=>by
  rw [dF]
  simp only []
  by_cases h:n<128
  ·rw [aW (by omega),cond_false]
   rw [iw h] at hb ⊢
   rw [hK n b h (by simpa using hb)]
   congr 2
   apply c8
   simp
  ·rw [aV (by omega),cond_true]
   rw [o0 h] at hb ⊢
   simp only [List.length_cons] at hb
   rw [(DW n).2,au (cH (by omega)),au (aI (by omega))]
   have hk:0<k:=by
    rcases Nat.eq_zero_or_pos k with rfl | h0
    ·simp at hn;omega
    ·exact h0
   obtain ⟨k',rfl⟩:∃ k',k=k'+1:=⟨k - 1,by omega⟩
   rw [show (n:Int) /2 ^min (7:Int).toNat IntKind.u64.bits=((n /128:Nat):Int) by rw [show min (7:Int).toNat IntKind.u64.bits=7 from rfl];omega]
   rw [rL K hK k' f (n /128) _ (by rw [Nat.pow_succ] at hn;omega) (by omega) (by rw [ByteArray.size_push];omega)]
   congr 2
   apply c8
   simp only [jz,su,ft,Int.toNat_natCast,List.append_assoc,List.cons_append,List.nil_append]
theorem lN {b:ByteArray} {n:Nat} (hn:n<18446744073709551616) (hb:b.size+(numL n).length≤140737488355328):bf ⟨b⟩ (n:Int)=some ⟨b++bs (numL n)⟩:=by
 rw [bf,iJ]
 dsimp only
 refine rL _ (fun n b hn hb=>?_) 9 fuel n b (by omega) (by have:=aJ;omega) hb
 dsimp only
 rw [au (cH hb),(DW n).1,au (aI (by omega)),show n %256=n by omega,Int.toNat_natCast]
theorem iq {b:ByteArray} {n:Int} (h0:0≤n) (hn:n<18446744073709551616) (hb:b.size+(numL n.toNat).length≤140737488355328):bf ⟨b⟩ n=some ⟨b++bs (numL n.toNat)⟩:=by
 have:=lN (b:=b) (n:=n.toNat) (by omega) hb
 rwa [Int.toNat_of_nonneg h0] at this
theorem sA {b:ByteArray} {x:Int} (h0: -9223372036854775808≤x) (h1:x<9223372036854775808) (hb:b.size+(numL (zig x)).length≤140737488355328):db ⟨b⟩ x=some ⟨b++bs (numL (zig x))⟩:=by
 unfold db
 rw [Bz h0 h1,lN (kt h0 h1) hb]
 rfl
def mkI (s:ByteArray) (l:List UInt8) (e:Int):ak:=⟨s,(s.size:Int) - l.length,e⟩
theorem kD {s:ByteArray} {l:List UInt8} (h:l<:+bl s):l.length≤s.size:=by rw [←iK];exact h.length_le
theorem Di {s:ByteArray} {b:UInt8} {l:List UInt8} (h:(b::l)<:+bl s):bc s (s.size - (l.length+1))=(b.toNat:Int):=by
 have hl:=kD h
 simp only [List.length_cons] at hl
 rw [zT s _ (by omega)]
 congr 2
 obtain ⟨t,ht⟩:=h
 have hlen:t.length=s.size - (l.length+1):=by
  have:=congrArg List.length ht
  rw [iK] at this
  simp at this
  omega
 simp only [←hlen,←ht]
 simp
theorem mY {b:UInt8} {l k:List UInt8} (h:(b::l)<:+k):l<:+k:=(List.suffix_cons b l).trans h
theorem vD (s:ByteArray) (l:List UInt8) (e x:Int) (he:e≠0→l=[]):dc (mkI s l e) x=some (mkI s [] (if e=0 then x else e)):=by
 unfold dc mkI
 dsimp only
 by_cases h:e=0
 ·rw [aO h,cond_true,if_pos h];simp
 ·have:=he h
  subst this
  rw [aK h,cond_false,if_neg h]
theorem iV (s:ByteArray) (e:Int):bV (mkI s [] e)=some (0,mkI s [] (if e=0 then 3 else e)):=by
 unfold bV
 rw [py (by simp [mkI]),cond_true,vD s [] e 3 (fun _=>rfl)]
 rfl
theorem jh (s:ByteArray) (hs:s.size≤9007199254740992) (b:UInt8) (l:List UInt8) (e:Int) (h:(b::l)<:+bl s):bV (mkI s (b::l) e)=some ((b.toNat:Int),mkI s l e):=by
 have hl:=kD h
 have hg:=Di h
 simp only [List.length_cons] at hl
 unfold bV mkI
 simp only [List.length_cons]
 rw [mM (by omega),cond_false,w64 (a:=(s.size:Int) - ((l.length+1:Nat):Int)+1) (by omega),w64 (by omega),au (aI (by omega)),show ((s.size:Int) - ((l.length+1:Nat):Int)+1 - 1).toNat=s.size - (l.length+1) by omega,hg]
 have:=n5 b
 rw [w64 (by omega)]
 congr 3
 omega
theorem D2 (l:List UInt8):valN 0 0 (numR 0 l)=((numR 0 l).2.1:Int):=by
 unfold valN
 by_cases he:(numR 0 l).1=0
 ·rw [aO he,cond_true];simp
 ·rw [aK he,cond_false,(kW l 0 he).1];rfl
theorem uw (s:ByteArray) (hs:s.size≤9007199254740992):∀ (l:List UInt8) (i f acc:Nat),i≤9→9<f+i→acc<128 ^i→l<:+bl s→
  cQ f ((acc:Int),(i:Int),s,(s.size:Int) - l.length,0)=some (valN acc i (numR i l),mkI s (numR i l).2.2 (numR i l).1)
 | l,i,0,acc,hi,hf,ha,hsuf=>by omega
 | [],i,f+1,acc,hi,hf,ha,hsuf=>by
  rw [cQ]
  dsimp only
  rw [aV (by omega),cond_true]
  have:=iV s 0
  unfold mkI at this
  rw [this,ae]
  dsimp only
  rw [cm (by simp),cond_true]
  rfl
 | b::l,i,f+1,acc,hi,hf,ha,hsuf=>by
  rw [cQ]
  dsimp only
  rw [aV (by omega),cond_true]
  have h1:=jh s hs b l 0 hsuf
  have hb:=n5 b
  unfold mkI at h1
  rw [h1,ae]
  dsimp only
  rw [bG rfl,cond_false]
  by_cases hbad:(i=9∧1<b.toNat)∨(0<i∧b.toNat=0)
  ·rw [Bw hbad,show (iEq (i:Int) 9&&iLt 1 (b.toNat:Int)||iLt 0 (i:Int)&&iEq (b.toNat:Int) 0)=true by simp only [Bool.or_eq_true,Bool.and_eq_true,cn,cG];omega,cond_true]
   have h2:=vD s l 0 2 (fun h=>absurd rfl h)
   unfold mkI at h2
   rw [h2]
   rfl
  ·rw [show (iEq (i:Int) 9&&iLt 1 (b.toNat:Int)||iLt 0 (i:Int)&&iEq (b.toNat:Int) 0)=false by simp only [Bool.or_eq_false_iff,Bool.and_eq_false_iff,ij,bd];omega,cond_false]
   have hst:=EO (acc:=acc) (b:=b.toNat) (i:=i) (by omega) ha (by omega) (by omega)
   rw [au (zR (by rw [w64 (by omega)];omega))]
   by_cases hlt:b.toNat<128
   ·rw [zU hbad hlt,aV (by omega),cond_true,hst.1,Nat.mod_eq_of_lt hlt]
    rfl
   ·rw [aW (by omega),cond_false,hst.1,w64 (a:=(i:Int)+1) (by omega)]
    have hi9:i<9:=by omega
    have ha2:acc+b.toNat %128*128 ^i<128 ^(i+1):=by
     rw [Nat.pow_succ]
     have:b.toNat %128*128 ^i≤127*128 ^i:=Nat.mul_le_mul_right _ (by omega)
     omega
    have ih:=uw s hs l (i+1) f (acc+b.toNat %128*128 ^i) (by omega) (by omega) ha2 (mY hsuf)
    rw [show ((i+1:Nat):Int)=(i:Int)+1 from by omega] at ih
    rw [ih]
    by_cases he:(numR (i+1) l).1=0
    ·rw [zV hbad hlt he]
     unfold valN
     dsimp only
     rw [aO he,cond_true,aO rfl,cond_true,he]
     congr 3
     rw [Nat.pow_succ,Nat.add_mul,Nat.add_assoc]
     congr 1
     rw [Nat.mul_comm (128 ^i) 128,←Nat.mul_assoc,Nat.mul_comm ((numR (i+1) l).2.1) 128]
    ·rw [Bx hbad hlt he]
     unfold valN
     dsimp only
     rw [aK he,(kW l (i+1) he).1]
     rfl
theorem Cw (s:ByteArray) (hs:s.size≤9007199254740992) (l:List UInt8) (h:l<:+bl s):bC (mkI s l 0)=some (((numR 0 l).2.1:Int),mkI s (numR 0 l).2.2 (numR 0 l).1):=by
 unfold bC
 have:=uw s hs l 0 fuel 0 (by omega) (by have:=aJ;omega) (by decide) h
 refine Eq.trans this ?_
 rw [D2]
theorem rM (s:ByteArray) (e:Int) (he:e≠0):bC (mkI s [] e)=some (0,mkI s [] e):=by
 unfold bC
 obtain ⟨f,hf⟩:=xf
 rw [hf,cQ]
 simp only []
 rw [aV (by decide),cond_true]
 have h1:=iV s e
 rw [if_neg he] at h1
 unfold mkI at h1 ⊢
 dsimp only
 rw [h1,ae]
 dsimp only
 rw [cm he,cond_true]
theorem D3 (s:ByteArray) (hs:s.size≤9007199254740992) (l:List UInt8) (h:l<:+bl s):cF (mkI s l 0)=some (zag (numR 0 l).2.1,mkI s (numR 0 l).2.2 (numR 0 l).1):=by
 unfold cF
 rw [Cw s hs l h]
 simp only [Option.bind_some]
 rw [xm (zW l)]
theorem yg (s:ByteArray) (e:Int) (he:e≠0):cF (mkI s [] e)=some (0,mkI s [] e):=by
 unfold cF
 rw [rM s e he]
 simp only [Option.bind_some]
 have:=xm (n:=0) (by decide)
 rw [show ((0:Nat):Int)=0 from rfl] at this
 rw [this]
 rfl
theorem sB (s:ByteArray) (hs:s.size≤9007199254740992) (l:List UInt8) (e:Int) (h:l<:+bl s):cA (mkI s l e)=some (l.length:Int):=by
 have:=kD h
 unfold cA mkI
 simp only []
 rw [w64 (by omega)]
 congr 1
 omega
theorem pH (s:ByteArray):eL s=some (mkI s (bl s) 0):=by
 unfold eL mkI
 rw [iK]
 simp
end LJ
end
section
namespace LJ
open Go Go.RowKit
set_option linter.unusedVariables false
set_option linter.unusedSimpArgs false
def rdB (l:List UInt8) (e:Int):Int×Nat×List UInt8:=match l with
 | []=>(if e=0 then 3 else e,0,[])
 | b::t=>(e,b.toNat,t)
def rdN (l:List UInt8) (e:Int):Int×Nat×List UInt8:=if e=0 then numR 0 l else (e,0,[])
structure RdOK (s:ByteArray) (l:List UInt8) (e:Int):Prop where
 suf:l<:+bl s
 err:e≠0→l=[]
theorem RdOK.start (s:ByteArray):RdOK s (bl s) 0:=⟨List.suffix_refl _,fun h=>absurd rfl h⟩
theorem RdOK.byte {s:ByteArray} {l:List UInt8} {e:Int} (h:RdOK s l e):RdOK s (rdB l e).2.2 (rdB l e).1:=by
 cases l with
 | nil=>exact ⟨List.nil_suffix,fun _=>rfl⟩
 | cons b t=>
  refine ⟨mY h.suf,fun he=>?_⟩
  have:=h.err he
  cases this
theorem RdOK.num {s:ByteArray} {l:List UInt8} {e:Int} (h:RdOK s l e):RdOK s (rdN l e).2.2 (rdN l e).1:=by
 unfold rdN
 split
 ·refine ⟨(pC l 0).trans h.suf,fun he=>?_⟩
  rw [(kW l 0 he).1]
 ·exact ⟨List.nil_suffix,fun _=>rfl⟩
theorem pJ (l:List UInt8) (e:Int):(rdN l e).2.1<18446744073709551616:=by
 unfold rdN
 split
 ·exact zW l
 ·simp
theorem lO {s:ByteArray} (hs:s.size≤9007199254740992) {l:List UInt8} {e:Int} (h:RdOK s l e):bV (mkI s l e)=some (((rdB l e).2.1:Int),mkI s (rdB l e).2.2 (rdB l e).1):=by
 cases l with
 | nil=>rw [iV];rfl
 | cons b t=>rw [jh s hs b t e h.suf];rfl
theorem eO {s:ByteArray} (hs:s.size≤9007199254740992) {l:List UInt8} {e:Int} (h:RdOK s l e):bC (mkI s l e)=some (((rdN l e).2.1:Int),mkI s (rdN l e).2.2 (rdN l e).1):=by
 unfold rdN
 by_cases he:e=0
 ·subst he;rw [if_pos rfl];exact Cw s hs l h.suf
 ·rw [if_neg he,h.err he];exact rM s e he
theorem ES:zag 0=0:=by unfold zag;simp
theorem fQ {s:ByteArray} (hs:s.size≤9007199254740992) {l:List UInt8} {e:Int} (h:RdOK s l e):cF (mkI s l e)=some (zag (rdN l e).2.1,mkI s (rdN l e).2.2 (rdN l e).1):=by
 unfold rdN
 by_cases he:e=0
 ·subst he;rw [if_pos rfl];exact D3 s hs l h.suf
 ·rw [if_neg he,h.err he,show zag (e,0,([]:List UInt8)).2.1=0 from ES];exact yg s e he
theorem pK {s:ByteArray} (hs:s.size≤9007199254740992) {l:List UInt8} {e:Int} (h:RdOK s l e):cA (mkI s l e)=some (l.length:Int):=sB s hs l e h.suf
theorem bH (s:ByteArray) (l:List UInt8) (e:Int):bg (mkI s l e)=some e:=rfl
theorem vE {s:ByteArray} {l:List UInt8} {e:Int} (h:RdOK s l e) (x:Int):dc (mkI s l e) x=some (mkI s [] (if e=0 then x else e)):=vD s l e x h.err
end LJ
end
section
namespace LJ
open Go Go.RowKit
set_option linter.unusedVariables false
set_option linter.unusedSimpArgs false
def capN (r:Int×Nat×List UInt8):Nat:=min r.2.1 2147483648
theorem eB {n:Nat} (h:n<18446744073709551616) (t:List UInt8):rdN (numL n++t) 0=(0,n,t):=by
 unfold rdN
 rw [if_pos rfl]
 exact ug t 9 0 n (by omega) (by omega) (by omega)
theorem Dj {l:List UInt8} {n:Nat} {t:List UInt8} (h:rdN l 0=(0,n,t)):l=numL n++t∧n<18446744073709551616:=by
 unfold rdN at h
 rw [if_pos rfl] at h
 have:=sv l 0 n t (by omega) h
 exact ⟨this.1,this.2.1⟩
theorem eC {l:List UInt8} (h:(rdN l 0).1=0):l=numL (rdN l 0).2.1++(rdN l 0).2.2∧(rdN l 0).2.1<18446744073709551616:=Dj (Prod.ext h rfl)
theorem vF {l:List UInt8} {e:Int} (h:(rdN l e).1=0):e=0:=by
 unfold rdN at h
 split at h
 ·assumption
 ·exact h
theorem xq {b:ByteArray} {n:Int} (hb:b.size+1≤140737488355328):cd ⟨b⟩ n=some ⟨b.push (UInt8.ofNat (n %256).toNat)⟩:=by
 unfold cd
 have:IntKind.u8.wrap n=n %256:=IntKind.wrap_u8 n
 rw [this,au (cH hb),au (aI (by omega))]
end LJ
end
section
namespace LJ
open Go Go.RowKit
set_option linter.unusedVariables false
set_option linter.unusedSimpArgs false
theorem BF {b s:ByteArray} (hs:s.size<18446744073709551616) (hb:b.size+(numL s.size).length+s.size≤140737488355328):eK ⟨b⟩ s=some ⟨b++bs (numL s.size)++s⟩:=by
 unfold eK
 rw [wu64 (by omega),lN hs (by omega),ae]
 dsimp only
 rw [au (cH (by rw [ByteArray.size_append,bb];omega))]
def rdT (l:List UInt8) (e:Int):Int×List UInt8×List UInt8:=
 if (rdN l e).1≠0 then ((rdN l e).1,[],[]) else if (rdN l e).2.2.length<(rdN l e).2.1 then (3,[],[]) else (0,(rdN l e).2.2.take (rdN l e).2.1,(rdN l e).2.2.drop (rdN l e).2.1)
theorem RdOK.text {s:ByteArray} {l:List UInt8} {e:Int} (h:RdOK s l e):RdOK s (rdT l e).2.2 (rdT l e).1:=by
 unfold rdT
 split
 ·exact ⟨List.nil_suffix,fun _=>rfl⟩
 ·split
  ·exact ⟨List.nil_suffix,fun _=>rfl⟩
  ·exact ⟨(List.drop_suffix _ _).trans h.num.suf,fun he=>absurd rfl he⟩
theorem vG {s:ByteArray} {t:List UInt8} (h:t<:+bl s) (n:Nat) (hn:n≤t.length):s.extract (s.size - t.length) (s.size - t.length+n)=bs (t.take n):=by
 apply c8
 rw [fN,ft]
 obtain ⟨p,hp⟩:=h
 have hlen:p.length=s.size - t.length:=by
  have:=congrArg List.length hp
  rw [iK] at this
  simp at this
  omega
 rw [←hlen,←hp,List.drop_take,List.drop_left]
 congr 1
 omega
theorem BG {l:List UInt8} {e:Int} (h:(rdN l e).1≠0):(rdN l e).2=(0,[]):=by
 unfold rdN at h ⊢
 split at h
 ·rename_i he;rw [if_pos he];exact (kW l 0 h).1
 ·rename_i he;rw [if_neg he]
theorem vH {s:ByteArray} (hs:s.size≤9007199254740992) {l:List UInt8} {e:Int} (h:RdOK s l e):fi (mkI s l e)=some (bs (rdT l e).2.1,mkI s (rdT l e).2.2 (rdT l e).1):=by
 unfold fi
 rw [eO (by omega) h,ae]
 have hn:=h.num
 have hz:=BG (l:=l) (e:=e)
 have hlt:=pJ l e
 unfold rdT
 generalize rdN l e=r at*
 obtain ⟨er,n,t⟩:=r
 have hl:=kD hn.suf
 dsimp only at*
 unfold mkI
 dsimp only
 rw [w64 (a:=(s.size:Int) - ((s.size:Int) - t.length)) (by omega),wu64 (by omega)]
 by_cases he:er=0
 ·rw [if_neg (by simpa using he)]
  by_cases hlt2:t.length<n
  ·rw [if_pos hlt2,aV (by omega),cond_true]
   have hf:=vE hn 3
   unfold mkI at hf
   rw [hf,ae,if_pos he]
   rfl
  ·rw [if_neg hlt2,aW (by omega),cond_false,w64 (a:=(n:Int)) (by omega),w64 (a:=(s.size:Int) - t.length+n) (by omega),w64 (by omega),au (ue (by omega)),he]
   rw [show ((s.size:Int) - t.length+n - n).toNat=s.size - t.length by omega,show ((s.size:Int) - t.length+n).toNat=s.size - t.length+n by omega,vG hn.suf n (by omega)]
   simp only [List.length_drop]
   congr 3
   omega
 ·rw [if_pos he]
  have hz:=hz he
  simp only [Prod.mk.injEq] at hz
  obtain ⟨rfl,rfl⟩:=hz
  rw [aW (by simp),cond_false]
  simp only [List.length_nil]
  rw [show IntKind.i64.wrap ((0:Nat):Int)=0 from by decide,w64 (a:=(s.size:Int) - ((0:Nat):Int)+0) (by omega),w64 (by omega),au (ue (by omega))]
  have:s.extract ((s.size:Int) - ((0:Nat):Int)+0 - 0).toNat ((s.size:Int) - ((0:Nat):Int)+0).toNat=bs []:=by
   apply c8
   rw [fN,ft]
   apply List.eq_nil_of_length_eq_zero
   simp [iK]
  rw [this]
  congr 3
end LJ
end
section
namespace LJ
open Go Go.RowKit
set_option linter.unusedVariables false
set_option linter.unusedSimpArgs false
theorem aZ {α:Type} (b:Bool) (x y:α):cond b (some x) (some y)=some (cond b x y):=by cases b <;> rfl
theorem BH (a b:Int):iEq a b=iEq b a:=by
 unfold iEq
 by_cases h:a=b
 ·subst h;rfl
 ·rw [decide_eq_false h,decide_eq_false (fun h'=>h h'.symm)]
def fitW (a:Int):Bool:=iLe (-2147483648) a&&iLt a 2147483648
theorem n8 (a:Int):jH a=some (fitW a):=by
 unfold jH fitW
 congr 1
 rw [Bool.eq_iff_iff]
 simp only [cn,Bool.and_eq_true,dB,cG]
 have h:=IntKind.wrap_i32 a
 have h2: -2147483648≤IntKind.i32.wrap a∧IntKind.i32.wrap a<2147483648:=by
  rw [h];omega
 rw [w64 (by omega),h]
 omega
theorem la {α:Type} (b:Bool) (x y:α):cond (!b) x y=cond b y x:=by cases b <;> rfl
theorem mZ (a:Int):iz a=some (fitW a):=rfl
theorem cr {α:Type} [Inhabited α] (L:List α) (i:Nat) (h:i<L.length):L.drop i=L.getD i default::L.drop (i+1):=by
 rw [List.drop_eq_getElem_cons h]
 simp [List.getD_eq_getElem?_getD,h]
end LJ
end
section
namespace LJ
open Go Go.RowKit
set_option linter.unusedVariables false
set_option linter.unusedSimpArgs false
def fitK (c k:Int):Bool:=
 cond (iEq c 117) (iEq k 1||iEq k 2) (cond (iEq c 115) (iEq k 3) (cond (iEq c 112) (iEq k 6) (cond (iEq c 99) (iEq k 4) (cond (iEq c 109) (iEq k 1) (cond (iEq c 98) (iEq k 5) (cond (iEq c 118) (iEq k 7) (cond (iEq c 113) (iEq k 1||iEq k 6) false)))))))
def fitD (L:List ai) (c o:Int):Bool:=cond (iLt o 0||iLe (L.length:Int) o) false (fitK c (L.getD o.toNat default).Kind)
theorem kE (L:List ai) (c o:Int):eW L c o=some (fitD L c o):=by
 unfold eW fitD
 cases h:(iLt o 0||iLe (L.length:Int) o) with
 | true=>rfl
 | false=>
  simp only [Bool.or_eq_false_iff,bd,ik] at h
  rw [cond_false,cond_false,au (aI ⟨h.1,h.2⟩)]
  simp only [aZ]
  rfl
def n9 (c:Int):List Int:=
 cond (iEq c 117) [1,2] (cond (iEq c 115) [3] (cond (iEq c 112) [6] (cond (iEq c 99) [4] (cond (iEq c 109) [1] (cond (iEq c 98) [5] (cond (iEq c 118) [7] (cond (iEq c 113) [1,6] [])))))))
theorem BI (c:Int):gu c=some (n9 c):=by
 obtain ⟨f,hf⟩:∃ f,fuel=f+9:=⟨fuel - 9,by have:=aJ;omega⟩
 unfold gu n9
 rw [hf]
 have w:∀ n:Int,0≤n→n<9→IntKind.i64.wrap (n+1)=n+1:=fun n h0 h1=>w64 (by omega)
 have step:∀ (k:Nat) (i:Int) (b:Int) (l:List Int),0≤i→i<8→bc (⟨#[117,115,112,99,109,98,118,113]⟩:ByteArray) i.toNat=b→([[1,2],[3],[6],[4],[1],[5],[7],[1,6]]:List (List Int)).getD i.toNat default=l→df c (k+1) i=cond (iEq c b) (some l) (df c k (i+1)):=fun k i b l h0 h1 hb hl=>by
  rw [df,show ((⟨#[117,115,112,99,109,98,118,113]⟩:ByteArray).size:Int)=8 from rfl,show (([[1,2],[3],[6],[4],[1],[5],[7],[1,6]]:List (List Int)).length:Int)=8 from rfl,aV h1,cond_true,au (aI ⟨h0,h1⟩),au (aI ⟨h0,h1⟩),hb,hl,BH b c,w i h0 (by omega)]
 rw [step (f+8) 0 117 [1,2] (by decide) (by decide) (by decide) (by decide),step (f+7) (0+1) 115 [3] (by decide) (by decide) (by decide) (by decide),step (f+6) (0+1+1) 112 [6] (by decide) (by decide) (by decide) (by decide),step (f+5) (0+1+1+1) 99 [4] (by decide) (by decide) (by decide) (by decide),step (f+4) (0+1+1+1+1) 109 [1] (by decide) (by decide) (by decide) (by decide),step (f+3) (0+1+1+1+1+1) 98 [5] (by decide) (by decide) (by decide) (by decide),step (f+2) (0+1+1+1+1+1+1) 118 [7] (by decide) (by decide) (by decide) (by decide),step (f+1) (0+1+1+1+1+1+1+1) 113 [1,6] (by decide) (by decide) (by decide) (by decide)]
 rw [df,aW (by decide),cond_false]
 simp only [aZ]
theorem z8 (L:List ai) (o:Int) (ks:List Int) (ho:0≤o∧o<L.length) (hk:ks.length≤100):∀ (n i f:Nat),i+n=ks.length→n<f→cx L o ks f (i:Int)=some ((ks.drop i).any fun k=>iEq (L.getD o.toNat default).Kind k)
 | n,i,0,hi,hf=>by omega
 | 0,i,f+1,hi,hf=>by
  rw [cx,aW (by omega),List.drop_eq_nil_of_le (by omega)]
  rfl
 | n+1,i,f+1,hi,hf=>by
  rw [cx,aV (by omega),py ho.1,aV ho.2]
  simp only [Bool.and_self,cond_true]
  rw [au (aI ho),au (aI ⟨by omega,by omega⟩),Int.toNat_natCast,List.drop_eq_getElem_cons (by omega),List.any_cons]
  have e:ks.getD i default=ks[i]:=by simp [List.getD_eq_getElem?_getD,show i<ks.length by omega]
  rw [e]
  cases h:iEq (L.getD o.toNat default).Kind ks[i] with
  | true=>rfl
  | false=>
   rw [cond_false,w64 (by omega),show (i:Int)+1=((i+1:Nat):Int) by omega,z8 L o ks ho hk n (i+1) f (by omega) (by omega)]
   rfl
theorem m4 (L:List ai) (c o:Int):fO L c o=some (fitD L c o):=by
 unfold fO fitD
 rw [BI,ae]
 have hk:(n9 c).length≤100:=by
  unfold n9
  repeat' (first | (cases iEq c _ <;> simp only [cond_true,cond_false]) | decide)
 cases h:(iLt o 0||iLe (L.length:Int) o) with
 | true=>
  obtain ⟨f,hf⟩:=xf
  rw [hf,cx]
  have:((iLt 0 ((n9 c).length:Int)&&iLe 0 o)&&iLt o (L.length:Int))=false:=by
   simp only [Bool.or_eq_true,cG,dB] at h
   simp only [Bool.and_eq_false_iff,bd,ik]
   omega
  rw [this]
  rfl
 | false=>
  simp only [Bool.or_eq_false_iff,bd,ik] at h
  have:=z8 L o (n9 c) ⟨h.1,h.2⟩ hk (n9 c).length 0 fuel (by omega) (by have:=aJ;omega)
  rw [show (0:Int)=((0:Nat):Int) from rfl,this,cond_false]
  congr 1
  generalize (L.getD o.toNat default).Kind=k
  unfold n9 fitK
  rw [List.drop_zero]
  repeat' (first | (cases iEq c _ <;> simp only [cond_true,cond_false]) | simp [Bool.or_false])
def badD (L:List ai) (d:ai):Int:=
 cond (iEq d.Kind 3) (cond (iLe 1 d.B&&iLe d.B 1000&&iLe 0 d.A&&iLe d.A d.B) 0 1) (cond (iEq d.Kind 6) (cond (iLe 1 d.A&&iLe d.A 1000) (cond (iEq d.B 0) 0 2) 1)
  (cond (iEq d.Kind 7) (cond (fitW d.A&&fitD L 117 d.B) 0 1) (cond (iEq d.Kind 1||iEq d.Kind 2||iEq d.Kind 4||iEq d.Kind 5) (cond (iEq d.A 0&&iEq d.B 0) 0 2) 6)))
theorem vI (L:List ai) (d:ai):mP L d=some (badD L d):=by
 unfold mP badD jG
 rw [n8,kE]
 simp only [ae,la,aZ]
 cases h3:iEq d.Kind 3 with
 | true=>simp only [cond_true];
 | false=>
  cases h6:iEq d.Kind 6 with
  | true=>simp only [cond_true,cond_false]
  | false=>
   cases h7:iEq d.Kind 7 with
   | true=>
    simp only [cond_true,cond_false]
    cases fitW d.A <;> simp [aZ]
   | false=>
    simp only [cond_false]
    cases h1:iEq d.Kind 1 <;> cases h2:iEq d.Kind 2 <;> cases h4:iEq d.Kind 4 <;> cases h5:iEq d.Kind 5 <;> rfl
theorem ux (L:List ai) (d:ai):iL L d=some (badD L d):=by
 unfold iL badD
 rw [mZ,m4]
 by_cases h:d.Kind<1∨7<d.Kind
 ·rw [show (iLt d.Kind 1||iLt 7 d.Kind)=true by simp only [Bool.or_eq_true,cG];exact h,cond_true]
  rw [aK (show d.Kind≠3 by omega),aK (show d.Kind≠6 by omega),aK (show d.Kind≠7 by omega),aK (show d.Kind≠1 by omega),aK (show d.Kind≠2 by omega),aK (show d.Kind≠4 by omega),aK (show d.Kind≠5 by omega)]
  rfl
 ·rw [show (iLt d.Kind 1||iLt 7 d.Kind)=false by simp only [Bool.or_eq_false_iff,bd];omega,cond_false]
  have ne:∀ a b:Int,iNe a b= !iEq a b:=fun a b=>by unfold iNe iEq;simp
  have lt:∀ a b:Int,iLt a b= !iLe b a:=fun a b=>by
   unfold iLt iLe
   by_cases hab:a<b
   ·rw [decide_eq_true hab,decide_eq_false (by omega)];rfl
   ·rw [decide_eq_false hab,decide_eq_true (by omega)];rfl
  have cases7:d.Kind=1∨d.Kind=2∨d.Kind=3∨d.Kind=4∨d.Kind=5∨d.Kind=6∨d.Kind=7:=by omega
  simp only [ne,lt]
  rcases cases7 with e | e | e | e | e | e | e <;> rw [e] <;> simp only [show iEq 1 3=false from rfl,show iEq 1 6=false from rfl,show iEq 1 7=false from rfl,show iEq 1 1=true from rfl,show iEq 2 3=false from rfl,show iEq 2 6=false from rfl,show iEq 2 7=false from rfl,show iEq 2 1=false from rfl,show iEq 2 2=true from rfl,show iEq 3 3=true from rfl,show iEq 3 6=false from rfl,show iEq 3 7=false from rfl,show iEq 4 3=false from rfl,show iEq 4 6=false from rfl,show iEq 4 7=false from rfl,show iEq 4 1=false from rfl,show iEq 4 2=false from rfl,show iEq 4 4=true from rfl,show iEq 5 3=false from rfl,show iEq 5 6=false from rfl,show iEq 5 7=false from rfl,show iEq 5 1=false from rfl,show iEq 5 2=false from rfl,show iEq 5 4=false from rfl,show iEq 5 5=true from rfl,show iEq 6 3=false from rfl,show iEq 6 6=true from rfl,show iEq 6 7=false from rfl,show iEq 7 3=false from rfl,show iEq 7 6=false from rfl,show iEq 7 7=true from rfl,cond_true,cond_false,Bool.false_and,Bool.true_and,Bool.not_true,Bool.not_false,Bool.or_false,Bool.false_or,Bool.or_true,Bool.true_or,ae,Bool.not_not,Bool.and_false,Bool.and_true]
  all_goals first
   | rfl
   | (cases fitW d.A <;> simp [aZ] <;> (cases fitD L 117 d.B <;> rfl))
   | (cases iLe 1 d.B <;> cases iLe d.B 1000 <;> cases iLe 0 d.A <;> cases iLe d.A d.B <;> rfl)
   | (cases iLe 1 d.A <;> cases iLe d.A 1000 <;> cases iEq d.B 0 <;> rfl)
   | (cases iEq d.A 0 <;> cases iEq d.B 0 <;> rfl)
def chkD (L:List ai):List ai→Int→Int×Int
 | [],_=>(0,0)
 | d::t,i=>cond (iNe (badD L d) 0) (i,badD L d) (chkD L t (i+1))
def chkL (L:List ai):Int×Int:=cond (iLt 32 (L.length:Int)) (0,4) (chkD L L 0)
theorem ke (L:List ai) (hL:L.length≤32):∀ (n i f:Nat),i+n=L.length→n<f→ei L f (i:Int)=some (chkD L (L.drop i) (i:Int))
 | n,i,0,hi,hf=>by omega
 | 0,i,f+1,hi,hf=>by
  rw [ei,aW (by omega),List.drop_eq_nil_of_le (by omega)]
  rfl
 | n+1,i,f+1,hi,hf=>by
  rw [ei,aV (by omega),cond_true,au (aI ⟨by omega,by omega⟩),Int.toNat_natCast,vI,ae,cr L i (by omega),chkD,w64 (by omega),show (i:Int)+1=((i+1:Nat):Int) by omega,ke L hL n (i+1) f (by omega) (by omega),aZ]
theorem j4 (L:List ai):gz L=some (chkL L):=by
 unfold gz chkL
 by_cases h:32<(L.length:Int)
 ·rw [aV h];rfl
 ·rw [aW (by omega),cond_false,cond_false]
  exact ke L (by omega) L.length 0 fuel (by omega) (by have:=aJ;omega)
theorem jK (L:List ai) (hL:L.length≤32):∀ (n i f:Nat),i+n=L.length→n<f→cu L f (i:Int)=some (chkD L (L.drop i) (i:Int))
 | n,i,0,hi,hf=>by omega
 | 0,i,f+1,hi,hf=>by
  rw [cu,aW (by omega),List.drop_eq_nil_of_le (by omega)]
  rfl
 | n+1,i,f+1,hi,hf=>by
  rw [cu,aV (by omega),cond_true,au (aI ⟨by omega,by omega⟩),Int.toNat_natCast,ux,ae,cr L i (by omega),chkD,w64 (by omega),show (i:Int)+1=((i+1:Nat):Int) by omega,jK L hL n (i+1) f (by omega) (by omega),aZ]
theorem qP (L:List ai):fE L=some (chkL L):=by
 unfold fE chkL
 by_cases h:32<(L.length:Int)
 ·rw [aV h];rfl
 ·rw [aW (by omega),cond_false,cond_false]
  exact jK L (by omega) L.length 0 fuel (by omega) (by have:=aJ;omega)
end LJ
end
section
namespace LJ
open Go Go.RowKit
set_option linter.unusedVariables false
set_option linter.unusedSimpArgs false
structure RngD (d:ai):Prop where
 k:1≤d.Kind∧d.Kind≤7
 a: -2147483648≤d.A∧d.A<2147483648
 b:0≤d.B∧d.B<2147483648
 a0:d.Kind≠7→0≤d.A
 az:d.Kind≠3→d.Kind≠6→d.Kind≠7→d.A=0
 bz:d.Kind≠3→d.Kind≠7→d.B=0
theorem BJ {L:List ai} {c o:Int} (h:fitD L c o=true):0≤o∧o<L.length:=by
 unfold fitD at h
 cases hb:(iLt o 0||iLe (L.length:Int) o) with
 | true=>rw [hb] at h;cases h
 | false=>simp only [Bool.or_eq_false_iff,bd,ik] at hb;omega
theorem RngD.of {L:List ai} (hL:L.length≤32) {d:ai} (h:badD L d=0):RngD d:=by
 unfold badD at h
 by_cases h3:d.Kind=3
 ·rw [aO h3,cond_true] at h
  cases hb:(iLe 1 d.B&&iLe d.B 1000&&iLe 0 d.A&&iLe d.A d.B) with
  | false=>rw [hb] at h;cases h
  | true=>
   simp only [Bool.and_eq_true,dB] at hb
   constructor <;> omega
 ·rw [aK h3,cond_false] at h
  by_cases h6:d.Kind=6
  ·rw [aO h6,cond_true] at h
   cases hb:(iLe 1 d.A&&iLe d.A 1000) with
   | false=>rw [hb] at h;cases h
   | true=>
    rw [hb,cond_true] at h
    cases hz:iEq d.B 0 with
    | false=>rw [hz] at h;cases h
    | true=>
     simp only [Bool.and_eq_true,dB] at hb
     rw [cn] at hz
     constructor <;> omega
  ·rw [aK h6,cond_false] at h
   by_cases h7:d.Kind=7
   ·rw [aO h7,cond_true] at h
    cases hb:(fitW d.A&&fitD L 117 d.B) with
    | false=>rw [hb] at h;cases h
    | true=>
     simp only [Bool.and_eq_true] at hb
     have h2:=BJ hb.2
     have h1:=hb.1
     unfold fitW at h1
     simp only [Bool.and_eq_true,dB,cG] at h1
     constructor <;> omega
   ·rw [aK h7,cond_false] at h
    cases hb:(iEq d.Kind 1||iEq d.Kind 2||iEq d.Kind 4||iEq d.Kind 5) with
    | false=>rw [hb] at h;cases h
    | true=>
     rw [hb,cond_true] at h
     cases hz:(iEq d.A 0&&iEq d.B 0) with
     | false=>rw [hz] at h;cases h
     | true=>
      simp only [Bool.or_eq_true,Bool.and_eq_true,cn] at hb hz
      constructor <;> omega
theorem vJ {L:List ai} :∀ {M:List ai} {i:Int},(chkD L M i).2=0→∀ d∈M,badD L d=0
 | [],i,h=>fun d hd=>by cases hd
 | x::M,i,h=>by
  unfold chkD at h
  by_cases hx:badD L x=0
  ·rw [bG hx,cond_false] at h
   intro d hd
   rcases List.mem_cons.1 hd with rfl | hd
   ·exact hx
   ·exact vJ h d hd
  ·rw [cm hx,cond_true] at h
   exact absurd h hx
theorem uy {L:List ai} :∀ {M:List ai} {i:Int},(∀ d∈M,badD L d=0)→chkD L M i=(0,0)
 | [],i,h=>rfl
 | x::M,i,h=>by
  unfold chkD
  rw [bG (h x (List.mem_cons_self ..)),cond_false]
  exact uy fun d hd=>h d (List.mem_cons_of_mem _ hd)
theorem pL {L:List ai} (h:(chkL L).2=0):L.length≤32∧chkL L=(0,0)∧(∀ d∈L,badD L d=0)∧∀ d∈L,RngD d:=by
 unfold chkL at h ⊢
 by_cases hl:32<(L.length:Int)
 ·rw [aV hl,cond_true] at h;cases h
 ·rw [aW (by omega),cond_false] at h ⊢
  have h1:=vJ h
  exact ⟨by omega,uy h1,h1,fun d hd=>RngD.of (by omega) (h1 d hd)⟩
def putD (d:ai):List UInt8:=UInt8.ofNat d.Kind.toNat::(if d.Kind=3 then numL d.A.toNat++numL d.B.toNat else if d.Kind=6 then numL d.A.toNat else if d.Kind=7 then numL (zig d.A)++numL d.B.toNat else [])
def pM (L:List ai):List UInt8:=numL L.length++L.flatMap putD
theorem xr {d:ai} (h:RngD d):(putD d).length≤21:=by
 have ⟨_,ha,hb,_,_,_⟩:=h
 have h1:=aM (n:=d.A.toNat) (by omega)
 have h2:=aM (n:=d.B.toNat) (by omega)
 have h3:=aM (n:=zig d.A) (kt (by omega) (by omega))
 unfold putD
 rw [List.length_cons]
 split
 ·rw [List.length_append];omega
 ·split
  ·omega
  ·split
   ·rw [List.length_append];omega
   ·simp
theorem ji {α:Type} (f:α→List UInt8) (m:Nat):∀ {L:List α},(∀ d∈L,(f d).length≤m)→(L.flatMap f).length≤m*L.length
 | [],h=>by simp
 | x::L,h=>by
  rw [List.flatMap_cons,List.length_append,List.length_cons]
  have h1:=h x (List.mem_cons_self ..)
  have h2:=ji f m (L:=L) fun d hd=>h d (List.mem_cons_of_mem _ hd)
  have:m*(L.length+1)=m*L.length+m:=by rw [Nat.mul_add,Nat.mul_one]
  omega
theorem uz {L:List ai} (hL:L.length≤32) (h:∀ d∈L,RngD d):(pM L).length≤1000:=by
 unfold pM
 rw [List.length_append]
 have:=aM (n:=L.length) (by omega)
 have:=ji putD 21 (fun d hd=>xr (h d hd))
 omega
theorem sC (a b c:ByteArray):a++b++c=a++(b++c):=ByteArray.append_assoc
theorem lA (L:List ai) (hL:L.length≤32) (h:∀ d∈L,RngD d):∀ (n i f:Nat) (b:ByteArray),i+n=L.length→n<f→b.size+21*n≤10000→
  dt L f ((i:Int),b)=some (b++bs ((L.drop i).flatMap putD),0)
 | n,i,0,b,hi,hf,hb=>by omega
 | 0,i,f+1,b,hi,hf,hb=>by
  rw [dt]
  dsimp only
  rw [aW (by omega),cond_false,List.drop_eq_nil_of_le (by omega)]
  show some (b,(0:Int))=_
  congr 2
  apply c8
  simp
 | n+1,i,f+1,b,hi,hf,hb=>by
  rw [dt]
  dsimp only
  have hm:L.getD i default∈L:=by
   rw [List.getD_eq_getElem?_getD,List.getElem?_eq_getElem (by omega)]
   exact List.getElem_mem _
  have hd:=h _ hm
  rw [aV (by omega),cond_true,au (aI ⟨by omega,by omega⟩),Int.toNat_natCast,cr L i (by omega),List.flatMap_cons]
  generalize L.getD i default=d at*
  have hlen:=xr hd
  have ⟨hk,ha,hbb,ha0,haz,hbz⟩:=hd
  have h1:=aM (n:=d.A.toNat) (by omega)
  have h2:=aM (n:=d.B.toNat) (by omega)
  have h3:=aM (n:=zig d.A) (kt (by omega) (by omega))
  unfold cd
  rw [wu8 (by omega),au (cH (by dsimp only;omega)),au (aI (by omega)),ae]
  dsimp only
  have w:IntKind.i64.wrap ((i:Int)+1)=((i+1:Nat):Int):=by rw [w64 (by omega)];omega
  have sz:(b.push (UInt8.ofNat d.Kind.toNat)).size=b.size+1:=ByteArray.size_push
  have go:∀ (x:List UInt8),UInt8.ofNat d.Kind.toNat::x=putD d→dt L f (IntKind.i64.wrap ((i:Int)+1),b.push (UInt8.ofNat d.Kind.toNat)++bs x)=some (b++bs (putD d++(L.drop (i+1)).flatMap putD),0):=fun x hx=>by
   have hxl:x.length≤20:=by rw [←hx] at hlen;simpa using hlen
   rw [w,lA L hL h n (i+1) f _ (by omega) (by omega) (by rw [ByteArray.size_append,sz,bb];omega)]
   congr 2
   apply c8
   rw [←hx]
   simp
  by_cases k3:d.Kind=3
  ·have a0:=ha0 (by omega)
   rw [aO k3,cond_true,wu64 (a:=d.A) (by omega),wu64 (a:=d.B) (by omega),iq a0 (by omega) (by omega),ae,iq hbb.1 (by omega) (by rw [ByteArray.size_append,bb];omega),ae]
   dsimp only
   rw [sC,←pB]
   exact go _ (by unfold putD;rw [if_pos k3])
  ·rw [aK k3,cond_false]
   by_cases k6:d.Kind=6
   ·have a0:=ha0 (by omega)
    rw [aO k6,cond_true,wu64 (a:=d.A) (by omega),iq a0 (by omega) (by omega),ae]
    exact go _ (by unfold putD;rw [if_neg k3,if_pos k6])
   ·rw [aK k6,cond_false]
    by_cases k7:d.Kind=7
    ·rw [aO k7,cond_true,wu64 (a:=d.B) (by omega),sA (by omega) (by omega) (by omega),ae,iq hbb.1 (by omega) (by rw [ByteArray.size_append,bb];omega),ae]
     dsimp only
     rw [sC,←pB]
     exact go _ (by unfold putD;rw [if_neg k3,if_neg k6,if_pos k7])
    ·rw [aK k7,cond_false]
     have:=go [] (by unfold putD;rw [if_neg k3,if_neg k6,if_neg k7])
     have e:b.push (UInt8.ofNat d.Kind.toNat)++bs []=b.push (UInt8.ofNat d.Kind.toNat):=c8 (by simp)
     rwa [e] at this
theorem vK {L:List ai} (h:(chkL L).2=0):mS L=some (bs (pM L),0):=by
 obtain ⟨h1,h2,h3,h4⟩:=pL h
 unfold mS
 rw [j4,ae,bG h,cond_false,wu64 (by omega),lN (by omega) (by have:=aM (n:=L.length) (by omega);simp;omega),ae]
 dsimp only
 have:=aM (n:=L.length) (by omega)
 rw [show (0:Int)=((0:Nat):Int) from rfl,lA L h1 h4 L.length 0 fuel _ (by omega) (by have:=aJ;omega) (by rw [ByteArray.size_append,bb];simp;omega)]
 exact congrArg (fun z=>some (z,(0:Int))) (c8 (by unfold pM;simp))
end LJ
end
section
namespace LJ
open Go Go.RowKit
set_option linter.unusedVariables false
set_option linter.unusedSimpArgs false
theorem jj {s:ByteArray} (hs:s.size≤9007199254740992) {l:List UInt8} {e:Int} (h:RdOK s l e):im (mkI s l e)=some ((capN (rdN l e):Int),mkI s (rdN l e).2.2 (rdN l e).1):=by
 unfold im
 rw [eO hs h,ae]
 dsimp only
 congr 2
 unfold capN iMin
 have:=pJ l e
 split
 ·rw [w64 (by omega)];omega
 ·rw [w64 (by omega)];omega
def pN (b:UInt8) (t:List UInt8):ai×Int×List UInt8:=
 cond (iLt (b.toNat:Int) 1||iLt 7 (b.toNat:Int)) (⟨b.toNat,0,0⟩,6,t)
  (cond (iEq (b.toNat:Int) 3) (⟨b.toNat,capN (rdN t 0),capN (rdN (rdN t 0).2.2 (rdN t 0).1)⟩,(rdN (rdN t 0).2.2 (rdN t 0).1).1,(rdN (rdN t 0).2.2 (rdN t 0).1).2.2)
  (cond (iEq (b.toNat:Int) 6) (⟨b.toNat,capN (rdN t 0),0⟩,(rdN t 0).1,(rdN t 0).2.2)
  (cond (iEq (b.toNat:Int) 7) (⟨b.toNat,zag (rdN t 0).2.1,capN (rdN (rdN t 0).2.2 (rdN t 0).1)⟩,(rdN (rdN t 0).2.2 (rdN t 0).1).1,(rdN (rdN t 0).2.2 (rdN t 0).1).2.2)
  (⟨b.toNat,0,0⟩,0,t))))
def ga:List UInt8→ai×Int×List UInt8
 | []=>(⟨0,0,0⟩,3,[])
 | b::t=>pN b t
theorem lP (b:UInt8) (t:List UInt8):ga (b::t)=pN b t:=rfl
theorem pO {k:Int} :∃ z,kC k=some z∧sEq z ByteArray.empty=(iLt k 1||iLt 7 k):=by
 by_cases h:1≤k∧k≤7
 ·have h7:k=1∨k=2∨k=3∨k=4∨k=5∨k=6∨k=7:=by omega
  rcases h7 with rfl | rfl | rfl | rfl | rfl | rfl | rfl <;> exact ⟨_,rfl,by decide+kernel⟩
 ·refine ⟨ByteArray.empty,?_,?_⟩
  ·unfold kC
   rw [aK (show k≠1 by omega),aK (show k≠2 by omega),aK (show k≠3 by omega),aK (show k≠4 by omega),aK (show k≠5 by omega),aK (show k≠6 by omega),aK (show k≠7 by omega)]
   rfl
  ·rw [yc rfl]
   exact (by simp only [Bool.or_eq_true,cG];omega:(iLt k 1||iLt 7 k)=true).symm
theorem uA {s:ByteArray} (hs:s.size≤9007199254740992) {l:List UInt8} (h:l<:+bl s):∃ er,jI (mkI s l 0)=some ((ga l).1,(ga l).2.1,mkI s (ga l).2.2 er)∧((ga l).2.1=0→er=0∧(ga l).2.2<:+bl s):=by
 have h0:RdOK s l 0:=⟨h,fun h=>absurd rfl h⟩
 unfold jI
 cases l with
 | nil=>
  rw [iV,ae]
  dsimp only
  rw [bH,ae,if_pos rfl,aK (by decide),cond_false,ae,Bool.false_and,cond_false,aK (by decide),cond_false,aK (by decide),cond_false,aK (by decide),cond_false]
  exact ⟨3,rfl,fun h=>absurd h (by decide:(3:Int)≠0)⟩
 | cons b t=>
  have ht:RdOK s t 0:=h0.byte
  have hb:=n5 b
  rw [jh s hs b t 0 h,ae]
  dsimp only
  rw [bH,ae,aO rfl,cond_true]
  obtain ⟨z,hz,hz2⟩:=pO (k:=(b.toNat:Int))
  rw [hz,ae,Bool.true_and,hz2,lP]
  unfold pN
  cases hk:(iLt (b.toNat:Int) 1||iLt 7 (b.toNat:Int)) with
  | true=>exact ⟨_,rfl,fun h=>absurd h (by decide:(6:Int)≠0)⟩
  | false=>
   rw [cond_false,cond_false]
   cases k3:iEq (b.toNat:Int) 3 with
   | true=>
    rw [cond_true,cond_true,jj hs ht,ae,jj hs ht.num,ae,bH,ae]
    exact ⟨_,rfl,fun h=>⟨h,ht.num.num.suf⟩⟩
   | false=>
    rw [cond_false,cond_false]
    cases k6:iEq (b.toNat:Int) 6 with
    | true=>
     rw [cond_true,cond_true,jj hs ht,ae,bH,ae]
     exact ⟨_,rfl,fun h=>⟨h,ht.num.suf⟩⟩
    | false=>
     rw [cond_false,cond_false]
     cases k7:iEq (b.toNat:Int) 7 with
     | true=>
      rw [cond_true,cond_true,fQ hs ht,ae,jj hs ht.num,ae,bH,ae]
      exact ⟨_,rfl,fun h=>⟨h,ht.num.num.suf⟩⟩
     | false=>
      rw [cond_false,cond_false]
      exact ⟨_,rfl,fun h=>⟨rfl,ht.suf⟩⟩
def cL:Nat→List UInt8→List ai→List ai×Int×List UInt8
 | 0,l,acc=>(acc,0,l)
 | n+1,l,acc=>cond (iEq (ga l).2.1 0) (cL n (ga l).2.2 (acc++[(ga l).1])) ([],(ga l).2.1,[])
def jL (l:List UInt8):List ai×Int×List UInt8:=
 cond (iEq (rdN l 0).1 0) (cond (iLt 32 ((rdN l 0).2.1:Int)) ([],4,[])
  (cond (iEq (cL (rdN l 0).2.1 (rdN l 0).2.2 []).2.1 0)
   (cond (iEq (chkL (cL (rdN l 0).2.1 (rdN l 0).2.2 []).1).2 0) ((cL (rdN l 0).2.1 (rdN l 0).2.2 []).1,0,(cL (rdN l 0).2.1 (rdN l 0).2.2 []).2.2) ([],(chkL (cL (rdN l 0).2.1 (rdN l 0).2.2 []).1).2,[]))
   ([],(cL (rdN l 0).2.1 (rdN l 0).2.2 []).2.1,[])))
  ([],(rdN l 0).1,[])
theorem Cx {s:ByteArray} (hs:s.size≤9007199254740992) (x2:Int×ak) (N:Nat) (hN:x2.1=(N:Int)) (hN2:N≤32):∀ (n i f:Nat) (acc:List ai) (l:List UInt8),i+n=N→n<f→acc.length=i→l<:+bl s→
  fJ s x2 f ((i:Int),acc,(mkI s l 0).s,(mkI s l 0).at_,(mkI s l 0).err)=
   cond (iEq (cL n l acc).2.1 0) (cond (iEq (chkL (cL n l acc).1).2 0) (some ((cL n l acc).1,(s.size:Int) - (cL n l acc).2.2.length,0)) (some ([],0,(chkL (cL n l acc).1).2))) (some ([],0,(cL n l acc).2.1))
 | n,i,0,acc,l,hi,hf,ha,hl=>by omega
 | 0,i,f+1,acc,l,hi,hf,ha,hl=>by
  have:=kD hl
  rw [fJ]
  dsimp only
  have hI:(⟨(mkI s l 0).s,(mkI s l 0).at_,(mkI s l 0).err⟩:ak)=mkI s l 0:=rfl
  rw [hN,aW (by omega),cond_false,j4,ae,hI,show cL 0 l acc=(acc,0,l) from rfl,aO rfl,cond_true]
  dsimp only
  by_cases hc:(chkL acc).2=0
  ·rw [bG hc,cond_false,aO hc,cond_true,sB s hs l 0 hl,ae,w64 (by omega)]
  ·rw [cm hc,cond_true,aK hc,cond_false]
 | n+1,i,f+1,acc,l,hi,hf,ha,hl=>by
  rw [fJ]
  dsimp only
  have hI:(⟨(mkI s l 0).s,(mkI s l 0).at_,(mkI s l 0).err⟩:ak)=mkI s l 0:=rfl
  obtain ⟨er,h1,h2⟩:=uA hs hl
  rw [hN,aV (by omega),cond_true,hI,h1,ae]
  dsimp only
  rw [cL]
  by_cases he:(ga l).2.1=0
  ·obtain ⟨rfl,h3⟩:=h2 he
   rw [bG he,cond_false,aO he,cond_true,au (cH (by simp only [List.length_cons,List.length_nil];omega)),wu64 (by omega),show (i:Int)+1=((i+1:Nat):Int) by omega]
   exact Cx hs x2 N hN hN2 n (i+1) f _ _ (by omega) (by omega) (by simp;omega) h3
  ·rw [cm he,cond_true,aK he,cond_false,aK he,cond_false]
theorem vL {s:ByteArray} (hs:s.size≤9007199254740992):mV s=some ((jL (bl s)).1,cond (iEq (jL (bl s)).2.1 0) ((s.size:Int) - (jL (bl s)).2.2.length) 0,(jL (bl s)).2.1):=by
 unfold mV
 have h0:=RdOK.start s
 rw [pH,ae,eO hs h0,ae,bH,ae]
 have hn:=h0.num
 dsimp only
 unfold jL
 by_cases he:(rdN (bl s) 0).1=0
 ·rw [bG he,cond_false,aO he,cond_true]
  by_cases hl:32<((rdN (bl s) 0).2.1:Int)
  ·rw [aV hl,cond_true,cond_true];rfl
  ·rw [aW (by omega),cond_false,cond_false,he]
   have:=Cx hs (((rdN (bl s) 0).2.1:Int),mkI s (rdN (bl s) 0).2.2 0) (rdN (bl s) 0).2.1 rfl (by omega) (rdN (bl s) 0).2.1 0 fuel [] (rdN (bl s) 0).2.2 (by omega) (by have:=aJ;omega) rfl hn.suf
   refine Eq.trans this ?_
   generalize cL (rdN (bl s) 0).2.1 (rdN (bl s) 0).2.2 []=r
   by_cases h1:r.2.1=0
   ·rw [aO h1,cond_true,cond_true]
    by_cases h2:(chkL r.1).2=0
    ·rw [aO h2,cond_true,cond_true];rfl
    ·rw [aK h2,cond_false,cond_false];dsimp only;rw [aK h2,cond_false]
   ·rw [aK h1,cond_false,cond_false];dsimp only;rw [aK h1,cond_false]
 ·rw [cm he,cond_true,aK he,cond_false];dsimp only;rw [aK he,cond_false]
theorem vM {d:ai} (h:RngD d) (t:List UInt8):ga (putD d++t)=(d,0,t):=by
 have ⟨hk,ha,hb,ha0,haz,hbz⟩:=h
 obtain ⟨K,A,B⟩:=d
 dsimp only at*
 unfold putD
 dsimp only
 have hu:(UInt8.ofNat K.toNat).toNat=K.toNat:=by simp [UInt8.toNat_ofNat];omega
 rw [List.cons_append,lP]
 unfold pN
 rw [hu,show (K.toNat:Int)=K by omega,show (iLt K 1||iLt 7 K)=false by simp only [Bool.or_eq_false_iff,bd];omega,cond_false]
 by_cases k3:K=3
 ·have a0:=ha0 (by omega)
  rw [aO k3,cond_true,if_pos k3,List.append_assoc,eB (by omega),eB (by omega)]
  simp only [Prod.mk.injEq,and_true,ai.mk.injEq,true_and]
  unfold capN
  dsimp only
  omega
 ·rw [aK k3,cond_false,if_neg k3]
  by_cases k6:K=6
  ·have a0:=ha0 (by omega)
   rw [aO k6,cond_true,if_pos k6,eB (by omega)]
   simp only [Prod.mk.injEq,and_true,ai.mk.injEq,true_and]
   unfold capN
   dsimp only
   omega
  ·rw [aK k6,cond_false,if_neg k6]
   by_cases k7:K=7
   ·have hz:=kt (x:=A) (by omega) (by omega)
    rw [aO k7,cond_true,if_pos k7,List.append_assoc,eB hz,eB (by omega)]
    simp only [Prod.mk.injEq,and_true,ai.mk.injEq,true_and]
    unfold capN
    dsimp only
    rw [vu]
    omega
   ·rw [aK k7,cond_false,if_neg k7]
    simp only [Prod.mk.injEq,and_true,ai.mk.injEq,List.nil_append,true_and]
    omega
theorem pP:∀ (L acc:List ai) (t:List UInt8),(∀ d∈L,RngD d)→cL L.length (L.flatMap putD++t) acc=(acc++L,0,t)
 | [],acc,t,h=>by simp [cL]
 | d::L,acc,t,h=>by
  rw [List.length_cons,cL,List.flatMap_cons,List.append_assoc,vM (h d (List.mem_cons_self ..))]
  dsimp only
  rw [aO rfl,cond_true,pP L _ t fun x hx=>h x (List.mem_cons_of_mem _ hx)]
  simp
theorem Aa {L:List ai} (h:(chkL L).2=0) (t:List UInt8):jL (pM L++t)=(L,0,t):=by
 obtain ⟨h1,h2,h3,h4⟩:=pL h
 unfold jL pM
 rw [List.append_assoc,eB (by omega)]
 dsimp only
 rw [aO rfl,cond_true,aW (by omega),cond_false,pP L [] t h4]
 dsimp only
 rw [aO rfl,cond_true,List.nil_append,aO h,cond_true]
theorem yh {l:List UInt8} (h:(ga l).2.1=0) (hr:RngD (ga l).1):l=putD (ga l).1++(ga l).2.2:=by
 cases l with
 | nil=>exact absurd h (by decide:(3:Int)≠0)
 | cons b t=>
  have hu:UInt8.ofNat b.toNat=b:=fD b
  have hb:=n5 b
  rw [lP] at h hr ⊢
  unfold pN at h hr ⊢
  cases hk:(iLt (b.toNat:Int) 1||iLt 7 (b.toNat:Int)) with
  | true=>rw [hk,cond_true] at h;exact absurd h (by decide:(6:Int)≠0)
  | false=>
   rw [hk,cond_false] at h hr
   rw [cond_false]
   by_cases k3:(b.toNat:Int)=3
   ·rw [aO k3,cond_true] at h hr ⊢
    dsimp only at h
    have e1:=vF h
    obtain ⟨i1,j1⟩:=eC (l:=t) e1
    rw [e1] at h
    obtain ⟨i2,j2⟩:=eC (l:=(rdN t 0).2.2) h
    rw [e1] at hr ⊢
    have ⟨_,ha,hbb,_,_,_⟩:=hr
    generalize (rdN (rdN t 0).2.2 0)=r2 at*
    generalize (rdN t 0)=r1 at*
    obtain ⟨x1,n1,t1⟩:=r1
    obtain ⟨x2,n2,t2⟩:=r2
    unfold putD capN at*
    dsimp only at*
    rw [if_pos k3,Int.toNat_natCast,hu,show ((min n1 2147483648:Nat):Int).toNat=n1 by omega,show ((min n2 2147483648:Nat):Int).toNat=n2 by omega,List.cons_append,List.append_assoc,←i2,←i1]
   ·rw [aK k3,cond_false] at h hr ⊢
    by_cases k6:(b.toNat:Int)=6
    ·rw [aO k6,cond_true] at h hr ⊢
     dsimp only at h
     obtain ⟨i1,j1⟩:=eC (l:=t) h
     have ⟨_,ha,hbb,_,_,_⟩:=hr
     generalize (rdN t 0)=r1 at*
     obtain ⟨x1,n1,t1⟩:=r1
     unfold putD capN at*
     dsimp only at*
     rw [if_neg k3,if_pos k6,Int.toNat_natCast,hu,show ((min n1 2147483648:Nat):Int).toNat=n1 by omega,List.cons_append,←i1]
    ·rw [aK k6,cond_false] at h hr ⊢
     by_cases k7:(b.toNat:Int)=7
     ·rw [aO k7,cond_true] at h hr ⊢
      dsimp only at h
      have e1:=vF h
      obtain ⟨i1,j1⟩:=eC (l:=t) e1
      rw [e1] at h
      obtain ⟨i2,j2⟩:=eC (l:=(rdN t 0).2.2) h
      rw [e1] at hr ⊢
      have ⟨_,ha,hbb,_,_,_⟩:=hr
      generalize (rdN (rdN t 0).2.2 0)=r2 at*
      generalize (rdN t 0)=r1 at*
      obtain ⟨x1,n1,t1⟩:=r1
      obtain ⟨x2,n2,t2⟩:=r2
      unfold putD capN at*
      dsimp only at*
      rw [if_neg k3,if_neg k6,if_pos k7,Int.toNat_natCast,hu,vv,show ((min n2 2147483648:Nat):Int).toNat=n2 by omega,List.cons_append,List.append_assoc,←i2,←i1]
     ·rw [aK k7,cond_false]
      unfold putD
      dsimp only
      rw [if_neg k3,if_neg k6,if_neg k7,Int.toNat_natCast,hu]
      rfl
theorem pQ:∀ (n:Nat) (l:List UInt8) (acc:List ai),(cL n l acc).2.1=0→(∀ d∈(cL n l acc).1,RngD d)→∃ L,(cL n l acc).1=acc++L∧L.length=n∧l=L.flatMap putD++(cL n l acc).2.2
 | 0,l,acc,h,hr=>⟨[],by simp [cL]⟩
 | n+1,l,acc,h,hr=>by
  rw [cL] at h hr ⊢
  by_cases he:(ga l).2.1=0
  ·rw [aO he,cond_true] at h hr ⊢
   obtain ⟨L,h1,h2,h3⟩:=pQ n _ _ h hr
   have hd:RngD (ga l).1:=hr _ (by rw [h1];simp)
   refine ⟨(ga l).1::L,by rw [h1];simp,by simp [h2],?_⟩
   rw [List.flatMap_cons,List.append_assoc,←h3]
   exact yh he hd
  ·rw [aK he,cond_false] at h
   exact absurd h he
theorem pR {l:List UInt8} (h:(jL l).2.1=0):(chkL (jL l).1).2=0∧l=pM (jL l).1++(jL l).2.2:=by
 unfold jL at h ⊢
 by_cases a1:(rdN l 0).1=0
 ·rw [aO a1,cond_true] at h ⊢
  cases a2:iLt 32 ((rdN l 0).2.1:Int) with
  | true=>rw [a2,cond_true] at h;exact absurd h (by decide:(4:Int)≠0)
  | false=>
   rw [a2,cond_false] at h
   rw [cond_false]
   by_cases a3:(cL (rdN l 0).2.1 (rdN l 0).2.2 []).2.1=0
   ·rw [aO a3,cond_true] at h ⊢
    by_cases a4:(chkL (cL (rdN l 0).2.1 (rdN l 0).2.2 []).1).2=0
    ·rw [aO a4,cond_true]
     refine ⟨a4,?_⟩
     obtain ⟨c1,c2,c3,c4⟩:=pL a4
     obtain ⟨L,h1,h2,h3⟩:=pQ _ _ _ a3 c4
     obtain ⟨i1,j1⟩:=eC (l:=l) a1
     dsimp only
     unfold pM
     rw [h1,List.nil_append,h2,List.append_assoc,←h3]
     exact i1
    ·rw [aK a4,cond_false] at h;exact absurd h a4
   ·rw [aK a3,cond_false] at h;exact absurd h a3
 ·rw [aK a1,cond_false] at h;exact absurd h a1
end LJ
end
section
namespace LJ
open Go Go.RowKit
set_option linter.unusedVariables false
set_option linter.unusedSimpArgs false
def sD:List ByteArray:=[(⟨#[112,117,115,104]⟩:ByteArray),(⟨#[108,111,97,100]⟩:ByteArray),(⟨#[115,116,111,114,101]⟩:ByteArray),(⟨#[97,100,100]⟩:ByteArray),(⟨#[115,117,98]⟩:ByteArray),(⟨#[109,117,108]⟩:ByteArray),(⟨#[100,105,118]⟩:ByteArray),(⟨#[109,111,100]⟩:ByteArray),(⟨#[110,101,103]⟩:ByteArray),(⟨#[108,116]⟩:ByteArray),(⟨#[101,113]⟩:ByteArray),(⟨#[97,110,100]⟩:ByteArray),(⟨#[111,114]⟩:ByteArray),(⟨#[120,111,114]⟩:ByteArray),(⟨#[115,104,108]⟩:ByteArray),(⟨#[115,104,114]⟩:ByteArray),(⟨#[100,117,112]⟩:ByteArray),(⟨#[100,114,111,112]⟩:ByteArray),(⟨#[106,117,109,112]⟩:ByteArray),(⟨#[122,101,114,111]⟩:ByteArray),(⟨#[99,97,108,108]⟩:ByteArray),(⟨#[114,101,116]⟩:ByteArray),(⟨#[115,101,108,102]⟩:ByteArray),(⟨#[110,111,119]⟩:ByteArray),(⟨#[111,117,116]⟩:ByteArray),(⟨#[121,105,101,108,100]⟩:ByteArray),(⟨#[119,97,105,116]⟩:ByteArray),(⟨#[119,97,105,116,102,111,114]⟩:ByteArray),(⟨#[115,108,101,101,112]⟩:ByteArray),(⟨#[117,110,108,111,99,107]⟩:ByteArray),(⟨#[112,111,115,116]⟩:ByteArray),(⟨#[103,105,118,101]⟩:ByteArray),(⟨#[99,119,97,105,116]⟩:ByteArray),(⟨#[99,119,97,105,116,102,111,114]⟩:ByteArray),(⟨#[115,105,103,110,97,108]⟩:ByteArray),(⟨#[98,114,111,97,100,99,97,115,116]⟩:ByteArray),(⟨#[101,110,114,111,108]⟩:ByteArray),(⟨#[108,101,97,118,101]⟩:ByteArray),(⟨#[97,114,114,105,118,101]⟩:ByteArray),(⟨#[97,114,114,105,118,101,102,111,114]⟩:ByteArray),(⟨#[115,112,97,119,110]⟩:ByteArray),(⟨#[106,111,105,110]⟩:ByteArray),(⟨#[106,111,105,110,102,111,114]⟩:ByteArray),(⟨#[103,114,97,110,116]⟩:ByteArray),(⟨#[119,97,105,118,101]⟩:ByteArray),(⟨#[114,101,97,100]⟩:ByteArray),(⟨#[119,114,105,116,101]⟩:ByteArray),(⟨#[98,101,103,105,110]⟩:ByteArray),(⟨#[99,111,109,109,105,116]⟩:ByteArray),(⟨#[99,108,97,105,109]⟩:ByteArray),(⟨#[100,101,97,100]⟩:ByteArray),(⟨#[109,101,110,100]⟩:ByteArray)]
def pS:List ByteArray:=[(⟨#[110]⟩:ByteArray),(⟨#[107]⟩:ByteArray),(⟨#[107]⟩:ByteArray),ByteArray.empty,ByteArray.empty,ByteArray.empty,ByteArray.empty,ByteArray.empty,ByteArray.empty,ByteArray.empty,ByteArray.empty,ByteArray.empty,ByteArray.empty,ByteArray.empty,ByteArray.empty,ByteArray.empty,ByteArray.empty,ByteArray.empty,(⟨#[116]⟩:ByteArray),(⟨#[116]⟩:ByteArray),(⟨#[102]⟩:ByteArray),ByteArray.empty,ByteArray.empty,ByteArray.empty,ByteArray.empty,ByteArray.empty,(⟨#[119]⟩:ByteArray),(⟨#[119]⟩:ByteArray),ByteArray.empty,(⟨#[117]⟩:ByteArray),(⟨#[115]⟩:ByteArray),(⟨#[112]⟩:ByteArray),(⟨#[99,109]⟩:ByteArray),(⟨#[99,109]⟩:ByteArray),(⟨#[99]⟩:ByteArray),(⟨#[99]⟩:ByteArray),(⟨#[98]⟩:ByteArray),(⟨#[98]⟩:ByteArray),(⟨#[98]⟩:ByteArray),(⟨#[98]⟩:ByteArray),(⟨#[102]⟩:ByteArray),(⟨#[106,106]⟩:ByteArray),(⟨#[106,106]⟩:ByteArray),ByteArray.empty,ByteArray.empty,(⟨#[118]⟩:ByteArray),(⟨#[118]⟩:ByteArray),ByteArray.empty,ByteArray.empty,(⟨#[113]⟩:ByteArray),(⟨#[109]⟩:ByteArray),(⟨#[109]⟩:ByteArray)]
def m5:List ByteArray:=[(⟨#[110]⟩:ByteArray),(⟨#[107]⟩:ByteArray),(⟨#[107]⟩:ByteArray),(⟨#[46]⟩:ByteArray),(⟨#[46]⟩:ByteArray),(⟨#[46]⟩:ByteArray),(⟨#[46]⟩:ByteArray),(⟨#[46]⟩:ByteArray),(⟨#[46]⟩:ByteArray),(⟨#[46]⟩:ByteArray),(⟨#[46]⟩:ByteArray),(⟨#[46]⟩:ByteArray),(⟨#[46]⟩:ByteArray),(⟨#[46]⟩:ByteArray),(⟨#[46]⟩:ByteArray),(⟨#[46]⟩:ByteArray),(⟨#[46]⟩:ByteArray),(⟨#[46]⟩:ByteArray),(⟨#[116]⟩:ByteArray),(⟨#[116]⟩:ByteArray),(⟨#[102]⟩:ByteArray),(⟨#[46]⟩:ByteArray),(⟨#[46]⟩:ByteArray),(⟨#[46]⟩:ByteArray),(⟨#[46]⟩:ByteArray),(⟨#[46]⟩:ByteArray),(⟨#[119]⟩:ByteArray),(⟨#[119]⟩:ByteArray),(⟨#[46]⟩:ByteArray),(⟨#[117]⟩:ByteArray),(⟨#[115]⟩:ByteArray),(⟨#[112]⟩:ByteArray),(⟨#[99,109]⟩:ByteArray),(⟨#[99,109]⟩:ByteArray),(⟨#[99]⟩:ByteArray),(⟨#[99]⟩:ByteArray),(⟨#[98]⟩:ByteArray),(⟨#[98]⟩:ByteArray),(⟨#[98]⟩:ByteArray),(⟨#[98]⟩:ByteArray),(⟨#[102]⟩:ByteArray),(⟨#[106,106]⟩:ByteArray),(⟨#[106,106]⟩:ByteArray),(⟨#[46]⟩:ByteArray),(⟨#[46]⟩:ByteArray),(⟨#[118]⟩:ByteArray),(⟨#[118]⟩:ByteArray),(⟨#[46]⟩:ByteArray),(⟨#[46]⟩:ByteArray),(⟨#[113]⟩:ByteArray),(⟨#[109]⟩:ByteArray),(⟨#[109]⟩:ByteArray)]
theorem vN:sD.length=52:=by decide
theorem vO:pS.length=52:=by decide
theorem uB:m5.length=52:=by decide
theorem uC:eI (⟨#[112,117,115,104,32,108,111,97,100,32,115,116,111,114,101,32,97,100,100,32,115,117,98,32,109,117,108,32,100,105,118,32,109,111,100,32,110,101,103,32,108,116,32,101,113,32,97,110,100,32,111,114,32,120,111,114,32,115,104,108,32,115,104,114,32,100,117,112,32,100,114,111,112,32,106,117,109,112,32,122,101,114,111,32,99,97,108,108,32,114,101,116,32,115,101,108,102,32,110,111,119,32,111,117,116,32,121,105,101,108,100,32,119,97,105,116,32,119,97,105,116,102,111,114,32,115,108,101,101,112,32,117,110,108,111,99,107,32,112,111,115,116,32,103,105,118,101,32,99,119,97,105,116,32,99,119,97,105,116,102,111,114,32,115,105,103,110,97,108,32,98,114,111,97,100,99,97,115,116,32,101,110,114,111,108,32,108,101,97,118,101,32,97,114,114,105,118,101,32,97,114,114,105,118,101,102,111,114,32,115,112,97,119,110,32,106,111,105,110,32,106,111,105,110,102,111,114,32,103,114,97,110,116,32,119,97,105,118,101,32,114,101,97,100,32,119,114,105,116,101,32,98,101,103,105,110,32,99,111,109,109,105,116,32,99,108,97,105,109,32,100,101,97,100,32,109,101,110,100]⟩:ByteArray)=some sD:=by decide+kernel
theorem uD:eI (⟨#[110,32,107,32,107,32,46,32,46,32,46,32,46,32,46,32,46,32,46,32,46,32,46,32,46,32,46,32,46,32,46,32,46,32,46,32,116,32,116,32,102,32,46,32,46,32,46,32,46,32,46,32,119,32,119,32,46,32,117,32,115,32,112,32,99,109,32,99,109,32,99,32,99,32,98,32,98,32,98,32,98,32,102,32,106,106,32,106,106,32,46,32,46,32,118,32,118,32,46,32,46,32,113,32,109,32,109]⟩:ByteArray)=some m5:=by decide+kernel
def opK (k:Int):Bool:=iLe 0 k&&iLt k 52
theorem iW {k:Int} :opK k=true↔0≤k∧k<52:=by unfold opK;simp only [Bool.and_eq_true,dB,cG]
theorem xt {k:Int} :opK k=false↔¬(0≤k∧k<52):=by rw [←iW];simp
theorem j5 (k:Int):jZ k=some (opK k):=rfl
theorem gL (k:Int):dQ k=some (opK k):=by
 unfold dQ opK
 congr 1
 have:iLe k 51=iLt k 52:=by unfold iLe iLt;congr 1;rw [eq_iff_iff];omega
 rw [this]
def BK (k:Int):ByteArray:=cond (opK k) (sD.getD k.toNat default) ByteArray.empty
def ct (k:Int):ByteArray:=cond (opK k) (pS.getD k.toNat default) ByteArray.empty
theorem rN (k:Int):lM k=some (BK k):=by
 unfold lM BK
 rw [j5,ae,uC,ae]
 cases h:opK k with
 | false=>rfl
 | true=>
  have:=iW.1 h
  rw [Bool.not_true,cond_false,cond_true,au (aI (by rw [vN];omega))]
theorem Ab:∀ k:Fin 52,cond (sEq (m5.getD k default) (⟨#[46]⟩:ByteArray)) ByteArray.empty (m5.getD k default)=pS.getD k default:=by decide+kernel
theorem lb (k:Int):j0 k=some (ct k):=by
 unfold j0 ct
 rw [j5,ae,uD,ae]
 cases h:opK k with
 | false=>rfl
 | true=>
  have hk:=iW.1 h
  rw [Bool.not_true,cond_false,cond_true,au (aI (by rw [uB];omega))]
  have:=Ab ⟨k.toNat,by omega⟩
  dsimp only at this
  rw [←this]
  cases sEq (m5.getD k.toNat default) (⟨#[46]⟩:ByteArray) <;> rfl
theorem BL:∀ k:Fin 52,sD.getD k default≠ByteArray.empty:=by decide+kernel
theorem pT (k:Int):sEq (BK k) ByteArray.empty= !opK k:=by
 unfold BK
 cases h:opK k with
 | false=>exact yc rfl
 | true=>
  have hk:=iW.1 h
  exact yd (BL ⟨k.toNat,by omega⟩)
end LJ
end
section
namespace LJ
open Go Go.RowKit
set_option linter.unusedVariables false
set_option linter.unusedSimpArgs false
theorem yi:∀ k:Fin 52,(pS.getD k default).size≤2:=by decide+kernel
theorem dY (k:Int):(ct k).size≤2:=by
 unfold ct
 cases h:opK k with
 | false=>simp
 | true=>
  have hk:=iW.1 h
  exact yi ⟨k.toNat,by omega⟩
theorem qQ:jY=some pS:=rfl
theorem m6 (k:Int):iA k=some (ct k):=by
 unfold iA ct
 rw [gL,ae,qQ,ae]
 cases h:opK k with
 | false=>rfl
 | true=>
  have:=iW.1 h
  rw [Bool.not_true,cond_false,cond_true,au (aI (by rw [vO];omega))]
def inL (c n:Int):Bool:=
 cond (iEq c 110) (fitW n) (cond (iEq c 107) (iLe 0 n&&iLt n 8) (cond (iEq c 116) (iLe 0 n&&iLt n 200) (cond (iEq c 102) (iLe 0 n&&iLt n 16) (cond (iEq c 106) (iLe 1 n&&iLe n 4) (iLe 0 n&&iLt n 32)))))
theorem Ac (c n:Int):uv c n=some (inL c n):=by
 unfold uv inL
 rw [n8,ae]
 simp only [aZ]
 congr 1
 by_cases h:c=119
 ·subst h;rfl
 ·rw [aK h];rfl
def vP (c:Int):Int:=cond (iEq c 107) 7 (cond (iEq c 116) 199 (cond (iEq c 102) 15 (cond (iEq c 106) 4 31)))
def pU (c:Int):Int:=cond (iEq c 106) 1 0
theorem Dk (c:Int):iB c=some (vP c):=by
 unfold iB vP
 simp only [aZ]
theorem BM (c:Int):gv c=some (pU c):=by
 unfold gv pU
 simp only [aZ]
theorem uE (c n:Int):inL c n=cond (iEq c 110) (fitW n) (!(iLt n (pU c))&& !(iLt (vP c) n)):=by
 have key:∀ a b:Int,(!(iLt n a)&& !(iLt b n))=(iLe a n&&iLt n (b+1)):=fun a b=>by
  rw [Bool.eq_iff_iff]
  simp only [Bool.and_eq_true,Bool.not_eq_true',bd,dB,cG]
  omega
 unfold inL pU vP
 cases iEq c 110 with
 | true=>rfl
 | false=>
  rw [cond_false,cond_false]
  by_cases h1:c=107
  ·subst h1;exact (key 0 7).symm
  ·rw [aK h1]
   by_cases h2:c=116
   ·subst h2;exact (key 0 199).symm
   ·rw [aK h2]
    by_cases h3:c=102
    ·subst h3;exact (key 0 15).symm
    ·rw [aK h3]
     by_cases h4:c=106
     ·subst h4
      rw [aO rfl]
      simp only [cond_true,cond_false]
      rw [key 1 4,Bool.eq_iff_iff]
      simp only [Bool.and_eq_true,dB,cG]
      omega
     ·rw [aK h4];exact (key 0 31).symm
theorem jw {c n:Int} (h:inL c n=true): -2147483648≤n∧n<2147483648∧(c≠110→0≤n):=by
 rw [uE] at h
 by_cases hc:c=110
 ·rw [aO hc,cond_true] at h
  unfold fitW at h
  simp only [Bool.and_eq_true,dB,cG] at h
  exact ⟨h.1,h.2,fun h'=>absurd hc h'⟩
 ·rw [aK hc,cond_false] at h
  simp only [Bool.and_eq_true,Bool.not_eq_true',bd] at h
  have h1:0≤pU c∧vP c≤199:=by
   unfold pU vP
   cases iEq c 107 <;> cases iEq c 116 <;> cases iEq c 102 <;> cases iEq c 106 <;> simp only [cond_true,cond_false] <;> omega
  exact ⟨by omega,by omega,fun _=>by omega⟩
def okF (f:ByteArray) (A B:Int):Bool:=(iLe (f.size:Int) 0||inL (bc f 0) A)&&(iLe (f.size:Int) 1||inL (bc f 1) B)
def zF (f:ByteArray) (A B:Int):Bool:=(iLt 0 (f.size:Int)||iEq A 0)&&(iLt 1 (f.size:Int)||iEq B 0)
def jjF (f:ByteArray) (A B:Int):Bool:=sEq f (⟨#[106,106]⟩:ByteArray)&&iLt B A
def chkF (f:ByteArray) (A B:Int):Int:=cond (okF f A B) (cond (jjF f A B) 1 (cond (zF f A B) 0 2)) 1
def chkI (x:aq):Int:=cond (opK x.Op) (chkF (ct x.Op) x.A x.B) 6
theorem vQ {f:ByteArray} (hf:f.size≤2):f.size=0∨f.size=1∨f.size=2:=by omega
theorem Ad:∃ F,fuel=F+1+1+1:=⟨fuel - 3,by have:=aJ;omega⟩
theorem sE {x:aq} {f:ByteArray} {F i:Nat} (hi:i+f.size<2):cM x f (F+1) (i:Int)=cond (iNe ([x.A,x.B].getD (f.size+i) default) 0) (some 2) (cM x f F ((i+1:Nat):Int)):=by
 rw [cM,aV (by omega),cond_true,au (zR (by omega)),au (aI (by omega)),au (aI (by omega)),w64 (by omega),show ((f.size:Int)+(i:Int)).toNat=f.size+i by omega,show (i:Int)+1=((i+1:Nat):Int) by omega]
theorem vR {x:aq} {f:ByteArray} {F i:Nat} (hi:¬i+f.size<2):cM x f (F+1) (i:Int)=some 0:=by
 rw [cM,aW (by omega),cond_false]
theorem lQ (a b:Int):iNe a b= !iEq a b:=by unfold iNe iEq;simp
theorem D4 (x:aq) {f:ByteArray} (hf:f.size≤2):cM x f fuel 0=some (cond (zF f x.A x.B) 0 2):=by
 obtain ⟨F,hF⟩:=Ad
 rw [hF,show (0:Int)=((0:Nat):Int) from rfl]
 unfold zF
 rcases vQ hf with h | h | h
 ·rw [sE (by omega),sE (by omega),vR (by omega),h,lQ,lQ]
  show cond (!iEq x.A 0) (some 2) (cond (!iEq x.B 0) (some 2) (some 0))=_
  cases iEq x.A 0 <;> cases iEq x.B 0 <;> rfl
 ·rw [sE (by omega),vR (by omega),h,lQ]
  show cond (!iEq x.B 0) (some 2) (some 0)=_
  cases iEq x.B 0 <;> rfl
 ·rw [vR (by omega),h]
  rfl
theorem sF {x:aq} {F i:Nat} (hi:i<2):ca x (F+1) (i:Int)=cond (iNe ([x.A,x.B].getD i default) 0) (some 2) (ca x F ((i+1:Nat):Int)):=by
 rw [ca,aV (by omega),cond_true,au (aI ⟨by omega,by simp only [List.length_cons,List.length_nil];omega⟩),w64 (by omega),Int.toNat_natCast,show (i:Int)+1=((i+1:Nat):Int) by omega]
theorem vS {x:aq} {F i:Nat} (hi:¬i<2):ca x (F+1) (i:Int)=some 0:=by
 rw [ca,aW (by omega),cond_false]
theorem D5 (x:aq) {f:ByteArray} (hf:f.size≤2):ca x fuel (f.size:Int)=some (cond (zF f x.A x.B) 0 2):=by
 obtain ⟨F,hF⟩:=Ad
 rw [hF]
 unfold zF
 rcases vQ hf with h | h | h
 ·rw [h,sF (by omega),sF (by omega),vS (by omega),lQ,lQ]
  show cond (!iEq x.A 0) (some 2) (cond (!iEq x.B 0) (some 2) (some 0))=_
  cases iEq x.A 0 <;> cases iEq x.B 0 <;> rfl
 ·rw [h,sF (by omega),vS (by omega),lQ]
  show cond (!iEq x.B 0) (some 2) (some 0)=_
  cases iEq x.B 0 <;> rfl
 ·rw [h,vS (by omega)]
  rfl
theorem Dl {x:aq} {f:ByteArray} {F i:Nat} (hi:i<f.size) (hf:f.size≤2):dh x f (F+1) (i:Int)=cond (inL (bc f i) ([x.A,x.B].getD i default)) (dh x f F ((i+1:Nat):Int)) (some 1):=by
 rw [dh,aV (by omega),cond_true,au (aI (by omega)),au (aI (by omega)),Int.toNat_natCast,Ac,ae,la,w64 (by omega),show (i:Int)+1=((i+1:Nat):Int) by omega]
theorem D6 {x:aq} {f:ByteArray} {F i:Nat} (hi:¬i<f.size) (hf:f.size≤2):dh x f (F+1) (i:Int)=some (cond (jjF f x.A x.B) 1 (cond (zF f x.A x.B) 0 2)):=by
 rw [dh,aW (by omega),cond_false,au (ue (by omega)),D4 x hf]
 unfold jjF
 simp only [aZ]
theorem Dm {x:aq} {f:ByteArray} {F i:Nat} (hi:i<f.size) (hf:f.size≤2):bN x f (F+1) (i:Int)=cond (inL (bc f i) ([x.A,x.B].getD i default)) (bN x f F ((i+1:Nat):Int)) (some 1):=by
 have h2:nIn (i:Int) (([x.A,x.B]:List Int).length:Int)=true:=aI ⟨by omega,by simp only [List.length_cons,List.length_nil];omega⟩
 have h1:nIn (i:Int) (f.size:Int)=true:=aI (by omega)
 rw [bN,aV (by omega),cond_true,h1,h2,mZ,BM,Dk,uE,w64 (by omega),Int.toNat_natCast,show (i:Int)+1=((i+1:Nat):Int) by omega]
 simp only [au,ae,la,lQ]
 generalize bc f i=c
 generalize ([x.A,x.B].getD i default)=v
 cases iEq c 110 with
 | true=>simp only [cond_true,cond_false]
 | false=>
  simp only [cond_true,cond_false]
  cases iLt v (pU c) <;> cases iLt (vP c) v <;> rfl
theorem D7 {x:aq} {f:ByteArray} {F i:Nat} (hi:¬i<f.size) (hf:f.size≤2):bN x f (F+1) (i:Int)=some (cond (jjF f x.A x.B) 1 (cond (zF f x.A x.B) 0 2)):=by
 rw [bN,aW (by omega),cond_false,D5 x hf]
 unfold jjF
 simp only [aZ]
theorem Ae {x:aq} {f:ByteArray} (hf:f.size≤2) (g:Nat→Int→Option Int) (hs:∀ F i:Nat,i<f.size→g (F+1) (i:Int)=cond (inL (bc f i) ([x.A,x.B].getD i default)) (g F ((i+1:Nat):Int)) (some 1)) (he:∀ F i:Nat,¬i<f.size→g (F+1) (i:Int)=some (cond (jjF f x.A x.B) 1 (cond (zF f x.A x.B) 0 2))):g fuel 0=some (chkF f x.A x.B):=by
 obtain ⟨F,hF⟩:=Ad
 rw [hF,show (0:Int)=((0:Nat):Int) from rfl]
 unfold chkF okF
 rcases vQ hf with h | h | h
 ·rw [he _ _ (by omega),h];rfl
 ·rw [hs _ _ (by omega),he _ _ (by omega),h]
  show cond (inL (bc f 0) x.A) _ _=_
  cases inL (bc f 0) x.A <;> rfl
 ·rw [hs _ _ (by omega),hs _ _ (by omega),he _ _ (by omega),h]
  show cond (inL (bc f 0) x.A) (cond (inL (bc f 1) x.B) _ _) _=_
  cases inL (bc f 0) x.A <;> cases inL (bc f 1) x.B <;> rfl
theorem kF (x:aq):iR x=some (chkI x):=by
 unfold iR chkI
 rw [rN,ae,pT,lb,ae,la]
 have hf:=dY x.Op
 rw [Ae hf (dh x (ct x.Op)) (fun F i hi=>Dl hi hf) (fun F i hi=>D6 hi hf),aZ]
theorem lB (x:aq):gy x=some (chkI x):=by
 unfold gy chkI
 rw [gL,ae,m6,ae,la]
 have hf:=dY x.Op
 rw [Ae hf (bN x (ct x.Op)) (fun F i hi=>Dm hi hf) (fun F i hi=>D7 hi hf),aZ]
structure OkI (x:aq):Prop where
 op:0≤x.Op∧x.Op<52
 a1:0<(ct x.Op).size→inL (bc (ct x.Op) 0) x.A=true
 b1:1<(ct x.Op).size→inL (bc (ct x.Op) 1) x.B=true
 a0:(ct x.Op).size=0→x.A=0
 b0:(ct x.Op).size≤1→x.B=0
theorem lR {x:aq} (h:chkI x=0):OkI x:=by
 unfold chkI at h
 cases hk:opK x.Op with
 | false=>rw [hk] at h;cases h
 | true=>
  rw [hk,cond_true] at h
  unfold chkF at h
  cases h1:okF (ct x.Op) x.A x.B with
  | false=>rw [h1] at h;cases h
  | true=>
   rw [h1,cond_true] at h
   cases h2:jjF (ct x.Op) x.A x.B with
   | true=>rw [h2] at h;cases h
   | false=>
    rw [h2,cond_false] at h
    cases h3:zF (ct x.Op) x.A x.B with
    | false=>rw [h3] at h;cases h
    | true=>
     unfold okF at h1
     unfold zF at h3
     simp only [Bool.and_eq_true,Bool.or_eq_true,dB,cG,cn] at h1 h3
     exact ⟨iW.1 hk,fun hs=>h1.1.resolve_left (by omega),fun hs=>h1.2.resolve_left (by omega),fun hs=>h3.1.resolve_left (by omega),fun hs=>h3.2.resolve_left (by omega)⟩
def putA (c n:Int):List UInt8:=cond (iEq c 110) (numL (zig n)) (numL n.toNat)
def putI (x:aq):List UInt8:=UInt8.ofNat x.Op.toNat::(cond (iLt 0 ((ct x.Op).size:Int)) (putA (bc (ct x.Op) 0) x.A) []++cond (iLt 1 ((ct x.Op).size:Int)) (putA (bc (ct x.Op) 1) x.B) [])
theorem o4 {c n:Int} (h:inL c n=true):(putA c n).length≤10:=by
 obtain ⟨h1,h2,h3⟩:=jw h
 unfold putA
 by_cases hc:c=110
 ·rw [aO hc];exact aM (kt (by omega) (by omega))
 ·have:=h3 hc
  rw [aK hc];exact aM (by omega)
theorem xu {x:aq} (h:OkI x):(putI x).length≤21:=by
 unfold putI
 rw [List.length_cons,List.length_append]
 have h1:(cond (iLt 0 ((ct x.Op).size:Int)) (putA (bc (ct x.Op) 0) x.A) []).length≤10:=by
  by_cases hs:0<(ct x.Op).size
  ·rw [aV (by omega)];exact o4 (h.a1 hs)
  ·rw [aW (by omega)];simp
 have h2:(cond (iLt 1 ((ct x.Op).size:Int)) (putA (bc (ct x.Op) 1) x.B) []).length≤10:=by
  by_cases hs:1<(ct x.Op).size
  ·rw [aV (by omega)];exact o4 (h.b1 hs)
  ·rw [aW (by omega)];simp
 omega
theorem sG {x:aq} {f:ByteArray} {F i:Nat} {b:ByteArray} (hi:i<f.size) (hf:f.size≤2) (hin:inL (bc f i) ([x.A,x.B].getD i default)=true) (hb:b.size≤1000):eJ x f (F+1) ((i:Int),b)=eJ x f F (((i+1:Nat):Int),b++bs (putA (bc f i) ([x.A,x.B].getD i default))):=by
 have hl:=o4 hin
 obtain ⟨h1,h2,h3⟩:=jw hin
 rw [eJ]
 dsimp only
 rw [aV (by omega),cond_true,au (aI (by omega)),Int.toNat_natCast,au (aI (by omega)),au (aI (by omega)),w64 (by omega),show (i:Int)+1=((i+1:Nat):Int) by omega]
 generalize bc f i=c at*
 generalize ([x.A,x.B].getD i default)=v at*
 unfold putA at hl ⊢
 by_cases hc:c=110
 ·rw [aO hc,cond_true] at hl ⊢
  rw [cond_true,sA (by omega) (by omega) (by omega)]
  rfl
 ·have:=h3 hc
  rw [aK hc,cond_false] at hl ⊢
  rw [cond_false,wu64 (by omega),iq this (by omega) (by omega)]
  rfl
theorem vT {x:aq} {f:ByteArray} {F i:Nat} {b:ByteArray} (hi:¬i<f.size):eJ x f (F+1) ((i:Int),b)=some (b,0):=by
 rw [eJ]
 dsimp only
 rw [aW (by omega),cond_false]
 rfl
theorem yj {x:aq} (h:chkI x=0):pF x=some (bs (putI x),0):=by
 have hx:=lR h
 have hf:=dY x.Op
 have ⟨hop,ha,hb,ha0,hb0⟩:=hx
 unfold pF
 rw [kF,ae,bG h,cond_false,lb,ae,xq (by simp),ae]
 dsimp only
 obtain ⟨F,hF⟩:=Ad
 rw [hF,show (0:Int)=((0:Nat):Int) from rfl,show (x.Op %256).toNat=x.Op.toNat by omega]
 unfold putI
 generalize ct x.Op=f at*
 have s1:(ByteArray.empty.push (UInt8.ofNat x.Op.toNat)).size=1:=rfl
 rcases vQ hf with hs | hs | hs
 ·rw [vT (by omega),hs]
  exact congrArg (fun z=>some (z,(0:Int))) (c8 (by simp [iLt]))
 ·rw [sG (by omega) hf (ha (by omega)) (by rw [s1];omega),vT (by omega),hs]
  exact congrArg (fun z=>some (z,(0:Int))) (c8 (by simp [iLt]))
 ·have hl:=o4 (ha (by omega))
  rw [sG (by omega) hf (ha (by omega)) (by rw [s1];omega),sG (by omega) hf (hb (by omega)) (by rw [ByteArray.size_append,s1,bb];exact (by omega:1+(putA (bc f 0) x.A).length≤1000)),vT (by omega),hs]
  exact congrArg (fun z=>some (z,(0:Int))) (c8 (by simp [iLt]))
end LJ
end
section
namespace LJ
open Go Go.RowKit
set_option linter.unusedVariables false
set_option linter.unusedSimpArgs false
abbrev GI:=aq×Int×List UInt8
def valA (c:Int) (r:Int×Nat×List UInt8):Int:=cond (iEq c 110) (zag r.2.1) (capN r)
def finI (k a b:Int) (t:List UInt8):GI:=cond (iEq (chkI ⟨k,a,b⟩) 0) (⟨k,a,b⟩,0,t) (⟨0,0,0⟩,chkI ⟨k,a,b⟩,[])
def BN (k:Int) (f:ByteArray) (t:List UInt8):GI:=
 cond (iEq (f.size:Int) 0) (finI k 0 0 t)
  (cond (iEq (rdN t 0).1 0)
   (cond (iEq (f.size:Int) 1) (finI k (valA (bc f 0) (rdN t 0)) 0 (rdN t 0).2.2)
    (cond (iEq (rdN (rdN t 0).2.2 0).1 0) (finI k (valA (bc f 0) (rdN t 0)) (valA (bc f 1) (rdN (rdN t 0).2.2 0)) (rdN (rdN t 0).2.2 0).2.2) (⟨0,0,0⟩,(rdN (rdN t 0).2.2 0).1,[])))
   (⟨0,0,0⟩,(rdN t 0).1,[]))
def Af (b:UInt8) (t:List UInt8):GI:=cond (opK (b.toNat:Int)) (BN (b.toNat:Int) (ct (b.toNat:Int)) t) (⟨0,0,0⟩,6,[])
def getI:List UInt8→GI
 | []=>(⟨0,0,0⟩,3,[])
 | b::t=>Af b t
theorem pV (b:UInt8) (t:List UInt8):getI (b::t)=Af b t:=rfl
def outI (s:ByteArray) (r:GI):Option (aq×Int×Int):=some (r.1,cond (iEq r.2.1 0) ((s.size:Int) - r.2.2.length) 0,r.2.1)
theorem Ag (r:Int×Nat×List UInt8) (h:r.2.1<18446744073709551616):IntKind.i64.wrap (iMin (r.2.1:Int) 2147483648)=(capN r:Int):=by
 unfold capN iMin
 split
 ·rw [w64 (by omega)];omega
 ·rw [w64 (by omega)];omega
theorem sH {s:ByteArray} (hs:s.size≤9007199254740992) {x2:Int×ak} {f:ByteArray} {F i:Nat} {acc:List Int} {l:List UInt8} (hi:i<f.size) (hf:f.size≤2) (hl:l<:+bl s):
  eN s x2 f (F+1) ((i:Int),acc,(mkI s l 0).s,(mkI s l 0).at_,(mkI s l 0).err)=cond (iEq (rdN l 0).1 0) (eN s x2 f F (((i+1:Nat):Int),aset 2 acc i (valA (bc f i) (rdN l 0)),(mkI s (rdN l 0).2.2 0).s,(mkI s (rdN l 0).2.2 0).at_,(mkI s (rdN l 0).2.2 0).err)) (outI s (⟨0,0,0⟩,(rdN l 0).1,[])):=by
 have h0:RdOK s l 0:=⟨hl,fun h=>absurd rfl h⟩
 have hI:(⟨(mkI s l 0).s,(mkI s l 0).at_,(mkI s l 0).err⟩:ak)=mkI s l 0:=rfl
 rw [eN]
 dsimp only
 rw [aV (by omega),cond_true,au (aI (by omega)),Int.toNat_natCast,hI,fQ hs h0,eO hs h0,ae,ae,au (aI (by omega)),au (aI (by omega)),bH,ae,ae,w64 (by omega),show (i:Int)+1=((i+1:Nat):Int) by omega]
 dsimp only
 rw [Ag _ (pJ l 0)]
 unfold valA outI
 by_cases he:(rdN l 0).1=0
 ·rw [bG he,aO he,cond_true,cond_false,cond_false,he]
  cases iEq (bc f i) 110 <;> rfl
 ·rw [cm he,aK he,cond_false,cond_true,cond_true]
  cases iEq (bc f i) 110 <;> rfl
theorem vU {s:ByteArray} (hs:s.size≤9007199254740992) {x2:Int×ak} {f:ByteArray} {F i:Nat} {acc:List Int} {l:List UInt8} (hi:¬i<f.size) (hl:l<:+bl s):
  eN s x2 f (F+1) ((i:Int),acc,(mkI s l 0).s,(mkI s l 0).at_,(mkI s l 0).err)=outI s (finI x2.1 (acc.getD 0 default) (acc.getD 1 default) l):=by
 have hI:(⟨(mkI s l 0).s,(mkI s l 0).at_,(mkI s l 0).err⟩:ak)=mkI s l 0:=rfl
 have:=kD hl
 rw [eN]
 dsimp only
 rw [aW (by omega),cond_false,au (aI (by decide)),au (aI (by decide)),kF,ae,hI,sB s hs l 0 hl,ae,w64 (by omega)]
 show cond (iNe (chkI ⟨x2.1,acc.getD 0 default,acc.getD 1 default⟩) 0) _ _=_
 unfold outI finI
 by_cases he:chkI ⟨x2.1,acc.getD 0 default,acc.getD 1 default⟩=0
 ·rw [bG he,aO he,cond_false,cond_true]
  rfl
 ·rw [cm he,aK he,cond_true,cond_false]
  dsimp only
  rw [aK he,cond_false]
  rfl
theorem sI {s:ByteArray} {l:List UInt8} (h:l<:+bl s):(rdN l 0).2.2<:+bl s:=(RdOK.num (s:=s) (l:=l) (e:=0) ⟨h,fun h=>absurd rfl h⟩).suf
theorem yk {s:ByteArray} (hs:s.size≤9007199254740992):pG s=outI s (getI (bl s)):=by
 unfold pG
 have h0:=RdOK.start s
 rw [pH,ae,lO hs h0,ae,bH,ae]
 cases hb:bl s with
 | nil=>rfl
 | cons b t=>
  have hl:(b::t)<:+bl s:=by rw [hb];exact List.suffix_refl _
  have ht:=mY hl
  have hbb:=n5 b
  show cond (iNe (0:Int) 0) _ ((lM (b.toNat:Int)).bind _)=_
  rw [bG rfl,cond_false,rN,ae,pT,pV]
  unfold Af
  dsimp only [rdB]
  rw [lb,ae]
  cases hk:opK (b.toNat:Int) with
  | false=>rfl
  | true=>
   rw [Bool.not_true,cond_false,cond_true]
   have hf:=dY (b.toNat:Int)
   generalize ct (b.toNat:Int)=f at*
   obtain ⟨F,hF⟩:=Ad
   rw [hF]
   unfold BN
   have e0:((0:Nat):Int)=0:=rfl
   rcases vQ hf with h | h | h
   ·refine (vU hs (f:=f) (i:=0) (by omega) ht).trans ?_
    rw [aO (show (f.size:Int)=0 by omega),cond_true]
    rfl
   ·refine (sH hs (f:=f) (i:=0) (by omega) hf ht).trans ?_
    rw [aK (show (f.size:Int)≠0 by omega),cond_false,aO (show (f.size:Int)=1 by omega),cond_true,vU hs (by omega) (sI ht)]
    cases iEq (rdN t 0).1 0 <;> rfl
   ·refine (sH hs (f:=f) (i:=0) (by omega) hf ht).trans ?_
    rw [aK (show (f.size:Int)≠0 by omega),cond_false,aK (show (f.size:Int)≠1 by omega),cond_false,sH hs (by omega) hf (sI ht),vU hs (by omega) (sI (sI ht))]
    cases iEq (rdN t 0).1 0 <;> cases iEq (rdN (rdN t 0).2.2 0).1 0 <;> rfl
theorem vV {c n:Int} (h:inL c n=true) (t:List UInt8):(rdN (putA c n++t) 0).1=0∧(rdN (putA c n++t) 0).2.2=t∧valA c (rdN (putA c n++t) 0)=n:=by
 obtain ⟨h1,h2,h3⟩:=jw h
 unfold putA valA
 by_cases hc:c=110
 ·rw [aO hc,cond_true,cond_true,eB (kt (by omega) (by omega))]
  exact ⟨rfl,rfl,vu n⟩
 ·have:=h3 hc
  rw [aK hc,cond_false,cond_false,eB (by omega)]
  refine ⟨rfl,rfl,?_⟩
  unfold capN
  dsimp only
  omega
theorem BO {x:aq} (h:chkI x=0) (t:List UInt8):getI (putI x++t)=(x,0,t):=by
 have ⟨hop,ha,hb,ha0,hb0⟩:=lR h
 have hf:=dY x.Op
 unfold putI
 rw [List.cons_append,pV]
 unfold Af
 have hu:((UInt8.ofNat x.Op.toNat).toNat:Int)=x.Op:=by simp [UInt8.toNat_ofNat];omega
 rw [hu,iW.2 hop,cond_true]
 have fin:∀ a b t',a=x.A→b=x.B→t'=t→finI x.Op a b t'=(x,0,t):=fun a b t' e1 e2 e3=>by
  subst e1;subst e2;subst e3
  unfold finI
  rw [aO (show chkI ⟨x.Op,x.A,x.B⟩=0 from h),cond_true]
 unfold BN
 generalize ct x.Op=f at*
 rcases vQ hf with hs | hs | hs
 ·rw [aO (show (f.size:Int)=0 by omega),cond_true,aW (by omega),aW (by omega)]
  exact fin _ _ _ (ha0 hs).symm (hb0 (by omega)).symm rfl
 ·obtain ⟨r1,r2,r3⟩:=vV (ha (by omega)) t
  rw [aK (show (f.size:Int)≠0 by omega),cond_false,aV (show 0<(f.size:Int) by omega),aW (by omega),cond_true,cond_false,List.append_nil,aO r1,cond_true,aO (show (f.size:Int)=1 by omega),cond_true]
  exact fin _ _ _ r3 (hb0 (by omega)).symm r2
 ·obtain ⟨r1,r2,r3⟩:=vV (ha (by omega)) (putA (bc f 1) x.B++t)
  obtain ⟨q1,q2,q3⟩:=vV (hb (by omega)) t
  rw [aK (show (f.size:Int)≠0 by omega),cond_false,aV (show 0<(f.size:Int) by omega),aV (show 1<(f.size:Int) by omega),cond_true,cond_true,List.append_assoc,aO r1,cond_true,aK (show (f.size:Int)≠1 by omega),cond_false,r2,aO q1,cond_true]
  exact fin _ _ _ r3 q3 q2
theorem vW {c:Int} {l:List UInt8} (h:(rdN l 0).1=0) (hin:inL c (valA c (rdN l 0))=true):l=putA c (valA c (rdN l 0))++(rdN l 0).2.2:=by
 obtain ⟨h1,h2⟩:=eC h
 obtain ⟨g1,g2,g3⟩:=jw hin
 unfold putA valA at*
 by_cases hc:c=110
 ·rw [aO hc,cond_true,cond_true,vv]
  exact h1
 ·have:=g3 hc
  rw [aK hc,cond_false] at*
  rw [cond_false]
  have:((capN (rdN l 0):Nat):Int).toNat=(rdN l 0).2.1:=by unfold capN at*;omega
  rw [this]
  exact h1
theorem sJ {k a b:Int} {t:List UInt8} (h:(finI k a b t).2.1=0):chkI ⟨k,a,b⟩=0∧finI k a b t=(⟨k,a,b⟩,0,t):=by
 unfold finI at h ⊢
 by_cases hc:chkI ⟨k,a,b⟩=0
 ·rw [aO hc,cond_true];exact ⟨hc,rfl⟩
 ·rw [aK hc,cond_false] at h;exact absurd h hc
theorem xv {l:List UInt8} (h:(getI l).2.1=0):chkI (getI l).1=0∧l=putI (getI l).1++(getI l).2.2:=by
 cases l with
 | nil=>exact absurd h (by decide:(3:Int)≠0)
 | cons b t=>
  have hu:UInt8.ofNat b.toNat=b:=fD b
  rw [pV] at h ⊢
  unfold Af at h ⊢
  cases hk:opK (b.toNat:Int) with
  | false=>rw [hk,cond_false] at h;exact absurd h (by decide:(6:Int)≠0)
  | true=>
   rw [hk,cond_true] at h
   rw [cond_true]
   have hf:=dY (b.toNat:Int)
   unfold BN at h ⊢
   rcases vQ hf with hs | hs | hs
   ·rw [aO (show ((ct (b.toNat:Int)).size:Int)=0 by omega),cond_true] at h ⊢
    obtain ⟨c1,c2⟩:=sJ h
    rw [c2]
    refine ⟨c1,?_⟩
    unfold putI
    dsimp only
    rw [aW (by omega),aW (by omega),Int.toNat_natCast,hu]
    rfl
   ·rw [aK (show ((ct (b.toNat:Int)).size:Int)≠0 by omega),cond_false] at h ⊢
    by_cases h2:(rdN t 0).1=0
    ·rw [aO h2,cond_true,aO (show ((ct (b.toNat:Int)).size:Int)=1 by omega),cond_true] at h ⊢
     obtain ⟨c1,c2⟩:=sJ h
     rw [c2]
     refine ⟨c1,?_⟩
     have ho:=lR c1
     have:=vW h2 (ho.a1 (by dsimp only;omega))
     unfold putI
     dsimp only at this ⊢
     rw [aV (by omega),aW (by omega),Int.toNat_natCast,hu,cond_true,cond_false,List.append_nil,List.cons_append,←this]
    ·rw [aK h2,cond_false] at h;exact absurd h h2
   ·rw [aK (show ((ct (b.toNat:Int)).size:Int)≠0 by omega),cond_false] at h ⊢
    by_cases h2:(rdN t 0).1=0
    ·rw [aO h2,cond_true,aK (show ((ct (b.toNat:Int)).size:Int)≠1 by omega),cond_false] at h ⊢
     by_cases h3:(rdN (rdN t 0).2.2 0).1=0
     ·rw [aO h3,cond_true] at h ⊢
      obtain ⟨c1,c2⟩:=sJ h
      rw [c2]
      refine ⟨c1,?_⟩
      have ho:=lR c1
      have v1:=vW h2 (ho.a1 (by dsimp only;omega))
      have v2:=vW h3 (ho.b1 (by dsimp only;omega))
      unfold putI
      dsimp only at v1 v2 ⊢
      rw [aV (by omega),aV (by omega),Int.toNat_natCast,hu,cond_true,cond_true,List.cons_append,List.append_assoc,←v2,←v1]
     ·rw [aK h3,cond_false] at h;exact absurd h h3
    ·rw [aK h2,cond_false] at h;exact absurd h h2
end LJ
end
section
namespace LJ
open Go Go.RowKit
set_option linter.unusedVariables false
set_option linter.unusedSimpArgs false
theorem sK (x M k c:Nat) (hk:k≤7) (hM:∀ i,i<8→M.testBit i=c.testBit i) (hc:∀ i,c.testBit i=true→i+k<8):(x>>>k&&&M) %2 ^8=(x %2 ^8)>>>k&&&c:=by
 apply Nat.eq_of_testBit_eq
 intro i
 rw [Nat.testBit_mod_two_pow,Nat.testBit_and,Nat.testBit_and,Nat.testBit_shiftRight,Nat.testBit_shiftRight,Nat.testBit_mod_two_pow]
 by_cases hi:i<8
 ·rw [hM i hi]
  cases h:c.testBit i with
  | false=>simp
  | true=>
   have:=hc i h
   simp [hi,show k+i<8 by omega]
 ·cases h:c.testBit i with
  | false=>simp [hi]
  | true=>have:=hc i h;omega
theorem pW (x M k:Nat):(x>>>k&&&M) /2 ^8=(x /2 ^8)>>>k&&&(M /2 ^8):=by
 apply Nat.eq_of_testBit_eq
 intro i
 rw [Nat.testBit_div_two_pow,Nat.testBit_and,Nat.testBit_and,Nat.testBit_shiftRight,Nat.testBit_shiftRight,Nat.testBit_div_two_pow,Nat.testBit_div_two_pow]
 congr 2
def rep (c:Nat):Nat→Nat
 | 0=>0
 | n+1=>c+256*rep c n
def digs:Nat→Nat→List Nat
 | 0,_=>[]
 | n+1,x=>x %256::digs n (x /256)
def eP (k M x:Nat):Nat:=(x>>>k&&&M)+(x&&&M)
theorem vX {c:Nat} (hc:c<256) (n:Nat):rep c (n+1) %2 ^8=c∧rep c (n+1) /2 ^8=rep c n:=by
 simp only [rep]
 omega
theorem vY {c:Nat} (hc:c<256) (n i:Nat) (hi:i<8):(rep c (n+1)).testBit i=c.testBit i:=by
 have h:=(vX hc n).1
 have:=Nat.testBit_mod_two_pow (rep c (n+1)) 8 i
 rw [h] at this
 rw [this]
 simp [hi]
theorem nN {c k:Nat} (hc:c<256) (hk:k≤7) (hb:∀ i,c.testBit i=true→i+k<8) (hs:∀ b,b<256→eP k c b<256):∀ n x,digs n (eP k (rep c n) x)=(digs n x).map (eP k c)
 | 0,x=>rfl
 | n+1,x=>by
  have h1:=sK x (rep c (n+1)) k c hk (fun i hi=>vY hc n i hi) hb
  have h2:=sK x (rep c (n+1)) 0 c (by omega) (fun i hi=>vY hc n i hi) (fun i h=>by have:=hb i h;omega)
  have h3:=pW x (rep c (n+1)) k
  have h4:=pW x (rep c (n+1)) 0
  rw [(vX hc n).2] at h3 h4
  have h5:=hs (x %256) (by omega)
  simp only [Nat.shiftRight_zero] at h2 h4
  unfold eP at h5
  have e1:eP k (rep c (n+1)) x %256=eP k c (x %256):=by
   unfold eP
   simp only [Nat.reducePow] at h1 h2
   omega
  have e2:eP k (rep c (n+1)) x /256=eP k (rep c n) (x /256):=by
   unfold eP
   simp only [Nat.reducePow] at h1 h2 h3 h4
   omega
  simp only [digs,List.map_cons]
  rw [e1,e2,nN hc hk hb hs n (x /256)]
theorem rO:∀ n z,(∀ b∈digs n z,b /16≤4∧b %16≤4)→z<256 ^n→digs n ((z>>>4+z)&&&rep 15 n)=(digs n z).map fun b=>b /16+b %16
 | 0,z,_,_=>rfl
 | n+1,z,hb,hz=>by
  have h2:=sK (z>>>4+z) (rep 15 (n+1)) 0 15 (by omega) (fun i hi=>vY (by decide) n i hi) (fun i h=>by
   by_cases hi:i<8
   ·omega
   ·rw [show (15:Nat)=2 ^4 - 1 from rfl,Nat.testBit_two_pow_sub_one] at h
    simp at h
    omega)
  have h4:=pW (z>>>4+z) (rep 15 (n+1)) 0
  rw [(vX (by decide) n).2] at h4
  simp only [Nat.shiftRight_zero,Nat.reducePow] at h2 h4
  rw [show (15:Nat)=2 ^4 - 1 from rfl,Nat.and_two_pow_sub_one_eq_mod] at h2
  obtain ⟨g1,g2⟩:=hb (z %256) (by simp [digs])
  have hr:(z /256) %16≤4:=by
   cases n with
   | zero=>simp at hz;omega
   | succ n=>
    have:=(hb (z /256 %256) (by simp [digs])).2
    rwa [Nat.mod_mod_of_dvd _ (by decide:16∣256)] at this
  have hs:z>>>4=z /16:=by rw [Nat.shiftRight_eq_div_pow]
  have e3:(z>>>4+z) /256=(z /256)>>>4+z /256:=by
   rw [hs,Nat.shiftRight_eq_div_pow]
   omega
  simp only [digs,List.map_cons]
  have hz':z /256<256 ^n:=by
   rw [Nat.pow_succ] at hz
   exact Nat.div_lt_of_lt_mul (by rw [Nat.mul_comm];exact hz)
  rw [h4,e3,rO n (z /256) (fun b h=>hb b (by simp [digs,h])) hz',h2,hs]
  congr 1
  omega
theorem sum8 {z b0 b1 b2 b3 b4 b5 b6 b7 Z1 Z2 Z3 Z4 Z5 Z6:Nat} (h0:b0≤8) (h1:b1≤8) (h2:b2≤8) (h3:b3≤8) (h4:b4≤8) (h5:b5≤8) (h6:b6≤8) (h7:b7≤8)
  (e0:z=b0+256*Z1) (e1:Z1=b1+256*Z2) (e2:Z2=b2+256*Z3) (e3:Z3=b3+256*Z4) (e4:Z4=b4+256*Z5) (e5:Z5=b5+256*Z6) (e6:Z6=b6+256*b7):
  ∃ y v t,y=z /256+z∧y<2 ^64∧v=y /65536+y∧v<2 ^64∧t=v /4294967296+v∧t<2 ^64∧t %128=b0+b1+b2+b3+b4+b5+b6+b7:=by
 have f0:z /256=Z1:=by omega
 have f2:(z /256+z) /65536=Z2+Z3:=by rw [f0];omega
 have f4:((z /256+z) /65536+(z /256+z)) /4294967296=Z4+Z5+Z6+b7:=by rw [f2,f0];omega
 refine ⟨_,_,_,rfl,by rw [f0];omega,rfl,by rw [f2,f0];omega,rfl,by rw [f4,f2,f0];omega,?_⟩
 rw [f4,f2,f0]
 omega
def popB (b:Nat):Nat:=b %2+b /2 %2+b /4 %2+b /8 %2+b /16 %2+b /32 %2+b /64 %2+b /128 %2
def cntN (x:Nat):Nat:=((digs 8 x).map popB).sum
theorem o5:∀ b:Fin 256,eP 1 85 b<256∧eP 2 51 b<256∧eP 2 51 (eP 1 85 b) /16≤4∧eP 2 51 (eP 1 85 b) %16≤4∧eP 2 51 (eP 1 85 b) /16+eP 2 51 (eP 1 85 b) %16=popB b:=by decide+kernel
theorem vZ:∀ n x,∀ b∈digs n x,b<256
 | 0,x,b,h=>by cases h
 | n+1,x,b,h=>by
  simp only [digs,List.mem_cons] at h
  rcases h with rfl | h
  ·omega
  ·exact vZ n (x /256) b h
theorem Ah (c:Nat) (k:Nat) (hc:c<256) (h:∀ i:Fin 8,c.testBit i=true→(i:Nat)+k<8):∀ i,c.testBit i=true→i+k<8:=fun i hi=>by
 by_cases h8:i<8
 ·exact h ⟨i,h8⟩ hi
 ·exfalso
  have:c.testBit i=false:=Nat.testBit_lt_two_pow (Nat.lt_of_lt_of_le hc (by rw [show 256=2 ^8 from rfl];exact Nat.pow_le_pow_right (by decide) (by omega)))
  rw [this] at hi
  cases hi
theorem rP {x:Nat} :digs 8 ((eP 2 (rep 51 8) (eP 1 (rep 85 8) x)))=(digs 8 x).map fun b=>eP 2 51 (eP 1 85 b):=by
 rw [nN (by decide) (by decide) (Ah 51 2 (by decide) (by decide)) (fun b hb=>(o5 ⟨b,hb⟩).2.1),nN (by decide) (by decide) (Ah 85 1 (by decide) (by decide)) (fun b hb=>(o5 ⟨b,hb⟩).1),List.map_map]
 rfl
def oC (x:Nat):Nat:=(eP 2 (rep 51 8) (eP 1 (rep 85 8) x)>>>4+eP 2 (rep 51 8) (eP 1 (rep 85 8) x))&&&rep 15 8
theorem sL {k M x:Nat} (h:M+M<18446744073709551616):eP k M x<18446744073709551616:=by
 have h1:=Nat.and_le_right (n:=x>>>k) (m:=M)
 have h2:=Nat.and_le_right (n:=x) (m:=M)
 unfold eP
 omega
theorem yl (x:Nat):digs 8 (oC x)=(digs 8 x).map popB:=by
 have hlt:eP 2 (rep 51 8) (eP 1 (rep 85 8) x)<256 ^8:=sL (by decide)
 unfold oC
 rw [rO 8 _ (fun b hb=>?_) hlt,rP,List.map_map]
 ·refine List.map_congr_left fun b hb=>?_
  exact (o5 ⟨b,vZ 8 x b hb⟩).2.2.2.2
 ·rw [rP] at hb
  obtain ⟨c,hc,rfl⟩:=List.mem_map.1 hb
  have:=o5 ⟨c,vZ 8 x c hc⟩
  exact ⟨this.2.2.1,this.2.2.2.1⟩
theorem Ai (x:Nat):∃ y v t,y=oC x /256+oC x∧y<2 ^64∧v=y /65536+y∧v<2 ^64∧t=v /4294967296+v∧t<2 ^64∧t %128=cntN x:=by
 have hd:=yl x
 have hC:oC x<18446744073709551616:=Nat.lt_of_le_of_lt Nat.and_le_right (by decide:rep 15 8<18446744073709551616)
 have hle:∀ b∈digs 8 (oC x),b≤8:=fun b hb=>by
  rw [hd] at hb
  obtain ⟨c,hc,rfl⟩:=List.mem_map.1 hb
  unfold popB
  omega
 have hs:cntN x=(digs 8 (oC x)).sum:=by rw [hd];rfl
 rw [hs]
 generalize oC x=C at*
 simp only [digs,List.mem_cons,List.not_mem_nil,or_false,forall_eq_or_imp,forall_eq] at hle
 obtain ⟨g0,g1,g2,g3,g4,g5,g6,g7⟩:=hle
 obtain ⟨y,v,t,a1,a2,a3,a4,a5,a6,a7⟩:=sum8 (z:=C) (Z1:=C /256) (Z2:=C /256 /256) (Z3:=C /256 /256 /256) (Z4:=C /256 /256 /256 /256) (Z5:=C /256 /256 /256 /256 /256) (Z6:=C /256 /256 /256 /256 /256 /256) g0 g1 g2 g3 g4 g5 g6 g7 (by omega) (by omega) (by omega) (by omega) (by omega) (by omega) (by omega)
 refine ⟨y,v,t,a1,a2,a3,a4,a5,a6,?_⟩
 rw [a7]
 simp only [digs,List.sum_cons,List.sum_nil]
 omega
theorem wu {n:Nat} (h:n<18446744073709551616):IntKind.u64.wrap (n:Int)=(n:Int):=by rw [IntKind.wrap_u64];omega
theorem sh1 (a:Nat):(a:Int) /(2:Int) ^min (1:Int).toNat IntKind.u64.bits=((a>>>1:Nat):Int):=by
 rw [show min (1:Int).toNat IntKind.u64.bits=1 from rfl,Nat.shiftRight_eq_div_pow];simp
theorem sh2 (a:Nat):(a:Int) /(2:Int) ^min (2:Int).toNat IntKind.u64.bits=((a>>>2:Nat):Int):=by
 rw [show min (2:Int).toNat IntKind.u64.bits=2 from rfl,Nat.shiftRight_eq_div_pow];simp
theorem sh4 (a:Nat):(a:Int) /(2:Int) ^min (4:Int).toNat IntKind.u64.bits=((a>>>4:Nat):Int):=by
 rw [show min (4:Int).toNat IntKind.u64.bits=4 from rfl,Nat.shiftRight_eq_div_pow];simp
theorem sh8 (a:Nat):(a:Int) /(2:Int) ^min (8:Int).toNat IntKind.u64.bits=((a /256:Nat):Int):=by
 rw [show min (8:Int).toNat IntKind.u64.bits=8 from rfl];simp
theorem sh16 (a:Nat):(a:Int) /(2:Int) ^min (16:Int).toNat IntKind.u64.bits=((a /65536:Nat):Int):=by
 rw [show min (16:Int).toNat IntKind.u64.bits=16 from rfl];simp
theorem sh32 (a:Nat):(a:Int) /(2:Int) ^min (32:Int).toNat IntKind.u64.bits=((a /4294967296:Nat):Int):=by
 rw [show min (32:Int).toNat IntKind.u64.bits=32 from rfl];simp
theorem ym {p q:Nat} (h:p+q<18446744073709551616):IntKind.u64.wrap ((p:Int)+(q:Int))=((p+q:Nat):Int):=by
 rw [←Int.natCast_add,wu h]
theorem Dn (t:Int):((t+9223372036854775808) %18446744073709551616 - 9223372036854775808) %128=t %128:=by
 rw [Int.emod_def (t+9223372036854775808)]
 generalize (t+9223372036854775808) /18446744073709551616=q
 omega
set_option maxRecDepth 100000 in
theorem Dp {x:Nat} (hx:x<18446744073709551616):eD (x:Int)=some ((cntN x:Nat):Int):=by
 obtain ⟨y,v,t,a1,a2,a3,a4,a5,a6,a7⟩:=Ai x
 have r0:rep 85 8=6148914691236517205:=by decide
 have r1:rep 51 8=3689348814741910323:=by decide
 have r2:rep 15 8=1085102592571150095:=by decide
 have and_u:∀ (a b:Nat),a<18446744073709551616→b<18446744073709551616→Go.bits .and .u64 (a:Int) (b:Int)=((a&&&b:Nat):Int):=fun a b ha hb=>bits_and_u64_nat a b ha hb
 have shlt:∀ (a k:Nat),a<18446744073709551616→a>>>k<18446744073709551616:=fun a k h=>by rw [Nat.shiftRight_eq_div_pow];exact Nat.lt_of_le_of_lt (Nat.div_le_self _ _) h
 generalize hA:eP 1 (rep 85 8) x=A at*
 have hAlt:A<18446744073709551616:=by rw [←hA];exact sL (by decide)
 have s1:IntKind.u64.wrap (Go.bits .and .u64 ((x:Int) /(2:Int) ^min (1:Int).toNat IntKind.u64.bits) 6148914691236517205+Go.bits .and .u64 (x:Int) 6148914691236517205)=(A:Int):=by
  rw [sh1,show (6148914691236517205:Int)=((6148914691236517205:Nat):Int) from rfl,and_u _ _ (shlt x 1 hx) (by decide),and_u _ _ hx (by decide),←r0]
  unfold eP at hA
  rw [ym (by rw [hA];exact hAlt),hA]
 generalize hB:eP 2 (rep 51 8) A=B at*
 have hBlt:B<18446744073709551616:=by rw [←hB];exact sL (by decide)
 have s2:IntKind.u64.wrap (Go.bits .and .u64 ((A:Int) /(2:Int) ^min (2:Int).toNat IntKind.u64.bits) 3689348814741910323+Go.bits .and .u64 (A:Int) 3689348814741910323)=(B:Int):=by
  rw [sh2,show (3689348814741910323:Int)=((3689348814741910323:Nat):Int) from rfl,and_u _ _ (shlt A 2 hAlt) (by decide),and_u _ _ hAlt (by decide),←r1]
  unfold eP at hB
  rw [ym (by rw [hB];exact hBlt),hB]
 have hBB:B≤rep 51 8+rep 51 8:=by
  rw [←hB]
  unfold eP
  exact Nat.add_le_add Nat.and_le_right Nat.and_le_right
 have hS:B>>>4+B<18446744073709551616:=by
  rw [Nat.shiftRight_eq_div_pow]
  rw [r1] at hBB
  omega
 have hCd:oC x=(B>>>4+B)&&&rep 15 8:=by unfold oC;rw [hA,hB]
 have s3:Go.bits .and .u64 (IntKind.u64.wrap ((B:Int) /(2:Int) ^min (4:Int).toNat IntKind.u64.bits+(B:Int))) 1085102592571150095=((oC x:Nat):Int):=by
  rw [sh4,ym hS,show (1085102592571150095:Int)=((1085102592571150095:Nat):Int) from rfl,and_u _ _ hS (by decide),hCd,r2]
 generalize oC x=C at*
 have s4:IntKind.u64.wrap ((C:Int)+(C:Int) /(2:Int) ^min (8:Int).toNat IntKind.u64.bits)=(y:Int):=by
  rw [sh8,ym (by omega),a1,Nat.add_comm]
 have s5:IntKind.u64.wrap ((y:Int)+(y:Int) /(2:Int) ^min (16:Int).toNat IntKind.u64.bits)=(v:Int):=by
  rw [sh16,ym (by omega),a3,Nat.add_comm]
 have s6:IntKind.u64.wrap ((v:Int)+(v:Int) /(2:Int) ^min (32:Int).toNat IntKind.u64.bits)=(t:Int):=by
  rw [sh32,ym (by omega),a5,Nat.add_comm]
 rw [eD]
 rw [s1,s2,s3,s4,s5,s6,i64_and127,IntKind.wrap_i64,←a7,Dn]
 rfl
end LJ
end
section
namespace LJ
open Go Go.RowKit
set_option linter.unusedVariables false
set_option linter.unusedSimpArgs false
def pc:Nat→Nat→Nat
 | 0,_=>0
 | k+1,x=>x %2+pc k (x /2)
def ls:Nat→Nat→Nat→List Int
 | 0,_,_=>[]
 | k+1,n,x=>if x %2=1 then (n:Int)::ls k (n+1) (x /2) else ls k (n+1) (x /2)
theorem Dq (m x:Nat):pc (m+8) x=popB (x %256)+pc m (x /256):=by
 simp only [pc]
 rw [show x /2 /2 /2 /2 /2 /2 /2 /2=x /256 by omega]
 unfold popB
 omega
theorem Aj:∀ n x,((digs n x).map popB).sum=pc (8*n) x
 | 0,x=>rfl
 | n+1,x=>by
  rw [show 8*(n+1)=8*n+8 by omega,Dq]
  simp only [digs,List.map_cons,List.sum_cons]
  rw [Aj n]
theorem D8 (x:Nat):cntN x=pc 64 x:=Aj 8 x
theorem Ak:∀ k,pc k 0=0
 | 0=>rfl
 | k+1=>by rw [pc,Ak]
theorem Al (a b:Nat):(a|||b) /2=a /2|||b /2:=by
 have:=Nat.or_div_two_pow (a:=a) (b:=b) (n:=1)
 simpa using this
theorem Cy (a b:Nat):(a|||b) %2=max (a %2) (b %2):=by
 have:=Nat.or_mod_two_pow (a:=a) (b:=b) (n:=1)
 simp only [Nat.reducePow] at this
 rw [this]
 rcases Nat.mod_two_eq_zero_or_one a with h | h <;> rcases Nat.mod_two_eq_zero_or_one b with g | g <;> rw [h,g] <;> rfl
theorem Cz:∀ (i x:Nat),x|||2 ^i=if x.testBit i then x else x+2 ^i
 | 0,x=>by
  have h1:=Al x 1
  have h2:=Cy x 1
  rw [Nat.testBit_zero,Nat.pow_zero]
  have:x /2|||1 /2=x /2:=by simp
  rw [this] at h1
  split
  ·rename_i h;simp at h;omega
  ·rename_i h;simp at h;omega
 | i+1,x=>by
  have h1:=Al x (2 ^(i+1))
  have h2:=Cy x (2 ^(i+1))
  have e:2 ^(i+1) /2=2 ^i:=by rw [Nat.pow_succ];omega
  have e':2 ^(i+1) %2=0:=by rw [Nat.pow_succ];omega
  rw [e,Cz i (x /2)] at h1
  rw [e'] at h2
  rw [Nat.testBit_succ]
  rw [Nat.pow_succ] at*
  split
  ·rename_i h;rw [if_pos h] at h1;omega
  ·rename_i h;rw [if_neg h] at h1;omega
def rot (k x:Nat):Nat:=x /2 ^(64 - k)+2 ^k*(x %2 ^(64 - k))
end LJ
end
