/- Plain laws: bytes, numbers as bytes, and what reads them. No Go in it. -/
import Derived.Test.YtdebndfaknfefaaGreatDoorXRow
import Derived.Laws.Bits64b
import Derived.Laws.BitsLemmas
namespace LJ
open Go Go.RowKit
set_option linter.unusedVariables false
set_option linter.unusedSimpArgs false
theorem w64 {a:Int} (h: -9223372036854775808≤a∧a≤9223372036854775807):IntKind.i64.wrap a=a:=by rw [IntKind.wrap_i64];omega
theorem wu64 {a:Int} (h:0≤a∧a≤18446744073709551615):IntKind.u64.wrap a=a:=by rw [IntKind.wrap_u64];omega
theorem aj {α β:Type} (a:α) (f:α→Option β):(some a).bind f=f a:=rfl
def bl (s:ByteArray):List UInt8:=s.data.toList
def bs (l:List UInt8):ByteArray:=⟨l.toArray⟩
@[simp] theorem iB (l:List UInt8):bl (bs l)=l:=rfl
@[simp] theorem DD (s:ByteArray):bs (bl s)=s:=by cases s;simp [bs,bl]
theorem l8 {s t:ByteArray} (h:bl s=bl t):s=t:=by rw [←DD s,h,DD]
theorem gU (s:ByteArray):(bl s).length=s.size:=rfl
@[simp] theorem eY (l:List UInt8):(bs l).size=l.length:=by rw [←gU,iB]
@[simp] theorem DE (s t:ByteArray):bl (s++t)=bl s++bl t:=by simp [bl,ByteArray.data_append]
@[simp] theorem EC (s:ByteArray) (b:UInt8):bl (s.push b)=bl s++[b]:=by simp [bl,ByteArray.push]
@[simp] theorem Ew:bl ByteArray.empty=[]:=rfl
theorem eS (s:ByteArray) (i j:Nat):bl (s.extract i j)=((bl s).take j).drop i:=by
 rw [List.drop_take]
 simp only [bl,ByteArray.data_extract,Array.toList_extract,List.extract_eq_take_drop]
theorem zV (s:ByteArray) (i:Nat) (h:i<s.size):bf s i=(((bl s)[i]'(by rw [gU];exact h)).toNat:Int):=by
 have h':i<s.data.size:=h
 unfold bf bl
 simp only [ByteArray.get!,getElem!_pos s.data i h',Array.getElem_toList]
theorem j4 (b:UInt8):b.toNat<256:=b.toNat_lt
theorem fX (b:UInt8):UInt8.ofNat b.toNat=b:=by simp
def numL (n:Nat):List UInt8:=if h:n<128 then [UInt8.ofNat n] else UInt8.ofNat (n %128+128)::numL (n /128)
decreasing_by omega
theorem yj {n:Nat} (h:n<128):numL n=[UInt8.ofNat n]:=by unfold numL;rw [dif_pos h]
theorem Bo {n:Nat} (h:¬n<128):numL n=UInt8.ofNat (n %128+128)::numL (n /128):=by rw [numL,dif_neg h]
def numR:Nat→List UInt8→Int×Nat×List UInt8
 | _,[]=>(3,0,[])
 | k,b::t=>if (k=9∧1<b.toNat)∨(0<k∧b.toNat=0) then (2,0,[]) else if b.toNat<128 then (0,b.toNat,t) else
  if (numR (k+1) t).1=0 then (0,b.toNat %128+128*(numR (k+1) t).2.1,(numR (k+1) t).2.2) else ((numR (k+1) t).1,0,[])
theorem xk {k:Nat} {b:UInt8} {t:List UInt8} (h:(k=9∧1<b.toNat)∨(0<k∧b.toNat=0)):numR k (b::t)=(2,0,[]):=by simp only [numR];rw [if_pos h]
theorem ug {k:Nat} {b:UInt8} {t:List UInt8} (h:¬((k=9∧1<b.toNat)∨(0<k∧b.toNat=0))) (h2:b.toNat<128):numR k (b::t)=(0,b.toNat,t):=by simp only [numR];rw [if_neg h,if_pos h2]
theorem uh {k:Nat} {b:UInt8} {t:List UInt8} (h:¬((k=9∧1<b.toNat)∨(0<k∧b.toNat=0))) (h2:¬b.toNat<128) (h3:(numR (k+1) t).1=0):numR k (b::t)=(0,b.toNat %128+128*(numR (k+1) t).2.1,(numR (k+1) t).2.2):=by simp only [numR];rw [if_neg h,if_neg h2,if_pos h3]
theorem xl {k:Nat} {b:UInt8} {t:List UInt8} (h:¬((k=9∧1<b.toNat)∨(0<k∧b.toNat=0))) (h2:¬b.toNat<128) (h3:(numR (k+1) t).1≠0):numR k (b::t)=((numR (k+1) t).1,0,[]):=by simp only [numR];rw [if_neg h,if_neg h2,if_neg h3]
def valN (acc i:Nat) (r:Int×Nat×List UInt8):Int:=cond (iEq r.1 0) ((acc+r.2.1*128 ^i:Nat):Int) 0
theorem sD:∀ (l:List UInt8) (k n:Nat) (t:List UInt8),k≤9→numR k l=(0,n,t)→l=numL n++t∧n<2 ^(64 - 7*k)∧(0<k→0<n)
 | [],k,n,t,hk,h=>by simp [numR] at h
 | b::l,k,n,t,hk,h=>by
  simp only [numR] at h
  have hb:=j4 b
  split at h
  ·simp at h
  ·rename_i hc
   split at h
   ·rename_i hlt
    simp only [Prod.mk.injEq,true_and] at h
    obtain ⟨rfl,rfl⟩:=h
    refine ⟨?_,?_,fun hk0=>by omega⟩
    ·rw [yj hlt,fX];rfl
    ·rcases Nat.lt_or_ge k 9 with h9 | h9
     ·have:2 ^8≤2 ^(64 - 7*k):=Nat.pow_le_pow_right (by decide) (by omega)
      omega
     ·have:k=9:=by omega
      subst this
      simp
      omega
   ·rename_i hge
    have hk9:k<9:=by
     rcases Nat.lt_or_ge k 9 with h9 | h9
     ·exact h9
     ·exfalso;omega
    split at h
    ·rename_i he
     simp only [Prod.mk.injEq,true_and] at h
     obtain ⟨rfl,rfl⟩:=h
     obtain ⟨h1,h2,h3⟩:=sD l (k+1) _ _ (by omega) (show numR (k+1) l=(0,(numR (k+1) l).2.1,(numR (k+1) l).2.2) from by rw [←he])
     have h3':=h3 (by omega)
     generalize (numR (k+1) l).2.1=m at*
     generalize (numR (k+1) l).2.2=u at*
     have hd:(b.toNat %128+128*m) /128=m:=by omega
     have hm:(b.toNat %128+128*m) %128+128=b.toNat:=by omega
     refine ⟨?_,?_,fun _=>by omega⟩
     ·rw [Bo (by omega),hd,hm,fX,h1];rfl
     ·have:2 ^(64 - 7*k)=2 ^(64 - 7*(k+1))*128:=by rw [show 64 - 7*k=64 - 7*(k+1)+7 by omega,Nat.pow_add]
      rw [this]
      have:m+1≤2 ^(64 - 7*(k+1)):=h2
      have:=Nat.mul_le_mul_right 128 this
      omega
    ·rename_i he
     simp only [Prod.mk.injEq] at h
     exact absurd h.1 he
theorem jF:∀ (l:List UInt8) (k:Nat),(numR k l).1≠0→(numR k l).2=(0,[])∧((numR k l).1=2∨(numR k l).1=3)
 | [],k,h=>by simp [numR]
 | b::l,k,h=>by
  simp only [numR] at h ⊢
  split
  ·simp
  ·split
   ·rename_i h1 h2;simp [h1,h2] at h
   ·split
    ·rename_i h1 h2 h3;simp [h1,h2,h3] at h
    ·rename_i h3
     exact ⟨rfl,(jF l (k+1) h3).2⟩
theorem ql:∀ (l:List UInt8) (k:Nat),(numR k l).2.2<:+l
 | [],k=>by simp [numR]
 | b::l,k=>by
  simp only [numR]
  split
  ·simp
  ·split
   ·exact List.suffix_cons ..
   ·split
    ·exact (ql l (k+1)).trans (List.suffix_cons ..)
    ·simp
theorem vz (l:List UInt8):(numR 0 l).2.1<18446744073709551616:=by
 by_cases h:(numR 0 l).1=0
 ·exact (sD l 0 _ (numR 0 l).2.2 (by omega) (by rw [←h])).2.1
 ·rw [(jF l 0 h).1];decide
theorem ui (x:Int) (h0:0≤x) (h1:x<9223372036854775808):Go.bits .xor .i64 x 0=x:=by
 have hy:BitVec.ofInt 64 0=0#64:=by decide
 show IntKind.i64.wrap ((BitVec.ofInt 64 x^^^BitVec.ofInt 64 0).toNat:Int)=_
 rw [hy,BitVec.xor_zero,BitVec.toNat_ofInt,IntKind.wrap_i64]
 have:((2 ^64:Nat):Int)=18446744073709551616:=rfl
 rw [this]
 omega
theorem uj (x:Int) (h0:0≤x) (h1:x<9223372036854775808):Go.bits .xor .i64 x (-1)= -x - 1:=by
 have hy:BitVec.ofInt 64 (-1)=BitVec.allOnes 64:=by decide
 show IntKind.i64.wrap ((BitVec.ofInt 64 x^^^BitVec.ofInt 64 (-1)).toNat:Int)=_
 rw [hy,BitVec.xor_allOnes,BitVec.toNat_not,BitVec.toNat_ofInt,IntKind.wrap_i64]
 have:((2 ^64:Nat):Int)=18446744073709551616:=rfl
 rw [this]
 omega
def zig (x:Int):Nat:=if 0≤x then (2*x).toNat else (-2*x - 1).toNat
def zag (n:Nat):Int:=if n %2=0 then ((n /2:Nat):Int) else -((n /2:Nat):Int) - 1
theorem vA (n:Nat):zig (zag n)=n:=by unfold zag zig;split <;> split <;> omega
theorem CT {n:Int} (h0:0≤n) (h1:n<18446744073709551616):Go.bits .and .u64 n 1=n %2:=by
 have:=bits_and_u64_nat n.toNat 1 (by omega) (by decide)
 rw [Int.toNat_of_nonneg h0,Nat.and_one_is_mod] at this
 rw [show (1:Int)=((1:Nat):Int) from rfl,this]
 omega
theorem xm {n:Nat} (h1:n<18446744073709551616):Go.bits .xor .i64 (IntKind.i64.wrap ((n:Int) /2 ^min (1:Int).toNat IntKind.u64.bits)) (IntKind.i64.wrap (0 - (IntKind.i64.wrap (Go.bits .and .u64 (n:Int) 1))))=zag n:=by
 rw [show (2:Int) ^min (Int.toNat 1) IntKind.u64.bits=2 from rfl,CT (by omega) (by omega),w64 (a:=(n:Int) /2) (by omega),w64 (a:=(n:Int) %2) (by omega)]
 unfold zag
 by_cases h:n %2=0
 ·rw [if_pos h,show (n:Int) %2=0 by omega,show IntKind.i64.wrap (0 - 0)=0 from by decide]
  rw [ui _ (by omega) (by omega)]
  omega
 ·rw [if_neg h,show (n:Int) %2=1 by omega,show IntKind.i64.wrap (0 - 1)= -1 from by decide]
  rw [uj _ (by omega) (by omega)]
  omega
theorem DF {x y k:Nat} (hx:x<2 ^k):x|||(y*2 ^k)=x+y*2 ^k:=by
 rw [Nat.or_comm,Nat.mul_comm,←Nat.two_pow_add_eq_or_of_lt hx]
 omega
theorem DG {acc b:Nat} {i:Nat} (hi:i<10) (h1:acc<128 ^i) (hb:b<256) (h9:i=9→b≤1):Go.bits .or .u64 (acc:Int) (IntKind.u64.wrap (IntKind.u64.wrap (Go.bits .and .i64 (b:Int) 127)*2 ^min (IntKind.i64.wrap ((7:Int)*(i:Int))).toNat IntKind.u64.bits))=((acc+(b %128)*128 ^i:Nat):Int)∧acc+(b %128)*128 ^i<18446744073709551616:=by
 have e1:Go.bits .and .i64 (b:Int) 127=(b:Int) %128:=bits_mask .i64 8 (by decide) (fun n h0 h1=>by rw [IntKind.wrap_i64];omega) 7 (by decide) b (by omega) (by simpa using (by omega:(b:Int)<256))
 rw [e1,w64 (a:=7*(i:Int)) (by omega),show (7*(i:Int)).toNat=7*i by omega,show min (7*i) IntKind.u64.bits=7*i from Nat.min_eq_left (by simp [IntKind.bits];omega),show IntKind.u64.wrap ((b:Int) %128)=(b:Int) %128 by rw [IntKind.wrap_u64];omega]
 obtain ⟨c,hc⟩:∃ c:Nat,b %128=c:=⟨_,rfl⟩
 have hc':(b:Int) %128=(c:Int):=by omega
 have hc2:c<128:=by omega
 have hc9:i=9→c≤1:=fun h=>by have:=h9 h;omega
 rw [hc,hc']
 have p1:(2:Nat) ^(7*i)=128 ^i:=by rw [Nat.pow_mul]
 have p2:(2:Int) ^(7*i)=((128 ^i:Nat):Int):=by rw [←p1];norm_cast
 have top:acc+c*128 ^i<18446744073709551616∧c*128 ^i<18446744073709551616:=by
  have hle:c*128 ^i+128 ^i≤18446744073709551616:=by
   rcases Nat.lt_or_ge i 9 with h | h
   ·have:128 ^i≤128 ^8:=Nat.pow_le_pow_right (by decide) (by omega)
    calc c*128 ^i+128 ^i=(c+1)*128 ^i:=by rw [Nat.add_mul,Nat.one_mul]
     _≤128*128 ^8:=Nat.mul_le_mul (by omega) this
     _≤_:=by decide
   ·have hi9:i=9:=by omega
    subst hi9
    have:=hc9 rfl
    have h9':(128:Nat) ^9=9223372036854775808:=by decide
    rw [h9']
    omega
  omega
 have w1:IntKind.u64.wrap ((c:Int)*2 ^(7*i))=((c*128 ^i:Nat):Int):=by
  rw [p2,←Int.natCast_mul,IntKind.wrap_u64]
  omega
 rw [w1,bits_or_u64_nat acc (c*128 ^i) (by omega) top.2]
 have:acc|||c*128 ^i=acc+c*128 ^i:=by rw [←p1];exact DF (by rw [p1];exact h1)
 rw [this]
 exact ⟨rfl,top.1⟩
end LJ
