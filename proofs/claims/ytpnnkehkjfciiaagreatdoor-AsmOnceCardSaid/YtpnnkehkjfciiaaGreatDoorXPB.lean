/- Plain laws: bytes, numbers as bytes, and what reads them. No Go in it. -/
import Derived.Test.YtpnnkehkjfciiaaGreatDoorXRow
import Derived.Laws.Bits64b
import Derived.Laws.BitsLemmas
namespace LJ
open Go Go.RowKit
set_option linter.unusedVariables false
set_option linter.unusedSimpArgs false
theorem w64 {a:Int} (h: -9223372036854775808≤a∧a≤9223372036854775807):IntKind.i64.wrap a=a:=by rw [IntKind.wrap_i64];omega
theorem ah {α β:Type} (a:α) (f:α→Option β):(some a).bind f=f a:=rfl
def bl (s:ByteArray):List UInt8:=s.data.toList
def bs (l:List UInt8):ByteArray:=⟨l.toArray⟩
@[simp] theorem ir (l:List UInt8):bl (bs l)=l:=rfl
@[simp] theorem pT (s:ByteArray):bs (bl s)=s:=by cases s;simp [bs,bl]
theorem bS {s t:ByteArray} (h:bl s=bl t):s=t:=by rw [←pT s,h,pT]
theorem qU (s:ByteArray):(bl s).length=s.size:=rfl
@[simp] theorem aD (l:List UInt8):(bs l).size=l.length:=by rw [←qU,ir]
@[simp] theorem xd (s t:ByteArray):bl (s++t)=bl s++bl t:=by simp [bl,ByteArray.data_append]
@[simp] theorem xR (s:ByteArray) (b:UInt8):bl (s.push b)=bl s++[b]:=by simp [bl,ByteArray.push]
@[simp] theorem xL:bl ByteArray.empty=[]:=rfl
theorem eV (s:ByteArray) (i j:Nat):bl (s.extract i j)=((bl s).take j).drop i:=by
 rw [List.drop_take]
 simp only [bl,ByteArray.data_extract,Array.toList_extract,List.extract_eq_take_drop]
def numL (n:Nat):List UInt8:=if h:n<128 then [UInt8.ofNat n] else UInt8.ofNat (n %128+128)::numL (n /128)
decreasing_by omega
def numR:Nat→List UInt8→Int×Nat×List UInt8
 | _,[]=>(3,0,[])
 | k,b::t=>if (k=9∧1<b.toNat)∨(0<k∧b.toNat=0) then (2,0,[]) else if b.toNat<128 then (0,b.toNat,t) else
  if (numR (k+1) t).1=0 then (0,b.toNat %128+128*(numR (k+1) t).2.1,(numR (k+1) t).2.2) else ((numR (k+1) t).1,0,[])
def valN (acc i:Nat) (r:Int×Nat×List UInt8):Int:=cond (iEq r.1 0) ((acc+r.2.1*128 ^i:Nat):Int) 0
def zig (x:Int):Nat:=if 0≤x then (2*x).toNat else (-2*x - 1).toNat
def zag (n:Nat):Int:=if n %2=0 then ((n /2:Nat):Int) else -((n /2:Nat):Int) - 1
end LJ
