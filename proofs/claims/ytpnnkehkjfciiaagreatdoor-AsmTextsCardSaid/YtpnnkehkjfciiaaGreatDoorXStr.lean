/- A logic for the walks: rows of bytes, and texts. -/
import Derived.Test.YtpnnkehkjfciiaaGreatDoorXLit
import Derived.Laws.IdiomStrings
namespace LJ
open Go Go.RowKit
set_option linter.unusedVariables false
set_option linter.unusedSimpArgs false
def rl (b:UInt8):List DV:=[.int .u8 (b.toNat:Int)]
def bC (s:ByteArray):List (List DV):=s.data.toList.map rl
def vY:List DV→UInt8
 | [.int _ n]=>UInt8.ofNat n.toNat
 | _=>0
def vh (es:List (List DV)):ByteArray:=⟨(es.map vY).toArray⟩
theorem gi (s:ByteArray):(bC s).length=s.size:=by simp [bC]
theorem nS (s t:ByteArray):bC (s++t)=bC s++bC t:=by
 unfold bC
 rw [←List.map_append,ByteArray.data_append,Array.toList_append]
theorem qB (s:ByteArray) (b:UInt8):bC (s.push b)=bC s++[rl b]:=by
 simp [bC,ByteArray.push]
theorem sK {n:Int} (h0:0≤n) (h1:n<256):[DV.int .u8 n]=rl (UInt8.ofNat n.toNat):=by
 unfold rl
 congr 2
 have:n.toNat<256:=by omega
 rw [UInt8.toNat_ofNat_of_lt' (by simpa using this)]
 omega
theorem iy {s:ByteArray} {n:Int} (h0:0≤n) (h1:n<256):bC s++[[.int .u8 n]]=bC (s.push (UInt8.ofNat n.toNat)):=by
 rw [qB,sK h0 h1]
theorem jm (s:ByteArray):(bC s).flatten=s.data.toList.map fun b=>DV.int .u8 (b.toNat:Int):=by
 unfold bC rl
 induction s.data.toList with
 | nil=>rfl
 | cons b l ih=>simp [ih]
section
variable {P:Program} {o:Oper} {E:Env} {m:Mem} {x:Operand} {T T' e:TypeId}
theorem Y.str_own {n:Nat} {e':TypeId} {sz:Nat} {s:ByteArray} {es:List (List DV)} (hx:IsOp E x (.own n)) (hn:m.get n=some (.row e' sz es)) (hes:es=bC s) (ho:o.op= .convert T T' x) (hs:P.underlying T=some (.slice e)) (he:P.underlying e=some (.int .u8)) (hd:P.underlying T'=some .string):
  aG P o E m (.d (.str s)):=fun c F N w a hm hE=>by
 subst hes
 have hv:=hx.own_eval hE
 obtain ⟨vs,⟨hl,h2⟩,hz,hr⟩:=hm.obj n _ hn
 refine ⟨.string s, .d .str,fun w' _ hw=>?_⟩
 rcases h2 with ⟨g1,g2⟩ | ⟨g,cap,cur,g1,_,g3,_⟩
 ·have hs0:s=ByteArray.empty:=by
   rw [gi] at g2
   have:s.data.size=0:=g2
   cases s with
   | mk d=>
    have:d=#[]:=Array.eq_empty_of_size_eq_zero this
    subst this
    rfl
  unfold execOp
  simp only [ho,hv,g1]
  rw [Sem.run_bind,run_convert_bytes_string w' T T' e none 0 0 hs he hd]
  simp [Conv.bytesToString,hs0]
 ·have hcells:∀ j (hj:j<s.data.toList.length),w'.cell? ((⟨g,0,none⟩:Addr).add j)=some (.int .u8 ((s.data.toList[j]).toNat:Int)):=by
   intro j hj
   rw [Addr.add_lit,Nat.zero_add,sJ hn g1 hw j]
   obtain ⟨u,hu,hru⟩:=(hm.obj n _ hn).row_cell g1 (off:=j) (d:= .int .u8 ((s.data.toList[j]).toNat:Int)) (by rw [jm,List.getElem?_map,List.getElem?_eq_getElem hj];rfl)
   rw [hu,hru.int_inv]
  have hlen:(bC s).length=s.data.toList.length:=by simp [bC]
  unfold execOp
  simp only [ho,hv,g1]
  rw [hlen,Sem.run_bind,run_convert_bytes_back w' T T' e ⟨g,0,none⟩ cap s.data.toList hs he hd hcells]
  simp
end
end LJ
