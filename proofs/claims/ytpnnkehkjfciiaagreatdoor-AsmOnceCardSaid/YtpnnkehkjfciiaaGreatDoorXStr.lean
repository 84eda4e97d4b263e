/- A logic for the walks: rows of bytes, and texts. -/
import Derived.Test.YtpnnkehkjfciiaaGreatDoorXLit
import Derived.Laws.IdiomStrings
namespace LJ
open Go Go.RowKit
set_option linter.unusedVariables false
set_option linter.unusedSimpArgs false
def w8 (b:UInt8):List DV:=[.int .u8 (b.toNat:Int)]
def b8 (s:ByteArray):List (List DV):=s.data.toList.map w8
def xO:List DV→UInt8
 | [.int _ n]=>UInt8.ofNat n.toNat
 | _=>0
def w9 (es:List (List DV)):ByteArray:=⟨(es.map xO).toArray⟩
theorem gB (s:ByteArray):(b8 s).length=s.size:=by simp [b8]
theorem ox (s t:ByteArray):b8 (s++t)=b8 s++b8 t:=by
 unfold b8
 rw [←List.map_append,ByteArray.data_append,Array.toList_append]
theorem jD (s:ByteArray):(b8 s).flatten=s.data.toList.map fun b=>DV.int .u8 (b.toNat:Int):=by
 unfold b8 w8
 induction s.data.toList with
 | nil=>rfl
 | cons b l ih=>simp [ih]
section
variable {P:Program} {o:Oper} {E:Env} {m:Mem} {x:Operand} {T T' e:TypeId}
theorem Y.str_own {n:Nat} {e':TypeId} {sz:Nat} {s:ByteArray} {es:List (List DV)} (hx:IsOp E x (.own n)) (hn:m.get n=some (.row e' sz es)) (hes:es=b8 s) (ho:o.op= .convert T T' x) (hs:P.underlying T=some (.slice e)) (he:P.underlying e=some (.int .u8)) (hd:P.underlying T'=some .string):
  aF P o E m (.d (.str s)):=fun c F N w a hm hE=>by
 subst hes
 have hv:=hx.own_eval hE
 obtain ⟨vs,⟨hl,h2⟩,hz,hr⟩:=hm.obj n _ hn
 refine ⟨.string s, .d .str,fun w' _ hw=>?_⟩
 rcases h2 with ⟨g1,g2⟩ | ⟨g,cap,cur,g1,_,g3,_⟩
 ·have hs0:s=ByteArray.empty:=by
   rw [gB] at g2
   have:s.data.size=0:=g2
   cases s with
   | mk d=>
    have:d=#[]:=Array.eq_empty_of_size_eq_zero this
    subst this
    rfl
  unfold execOp
  simp only [ho,hv,g1]
  rw [Sem.run_bind,run_convert_bytes_string w' T T' e none 0 0 hs he hd]
  simp [Conv.bytesToString,hs0]
 ·have hcells:∀ j (hj:j<s.data.toList.length),w'.cell? ((⟨g,0,none⟩:Addr).add j)=some (.int .u8 ((s.data.toList[j]).toNat:Int)):=by
   intro j hj
   rw [Addr.add_lit,Nat.zero_add,uG hn g1 hw j]
   obtain ⟨u,hu,hru⟩:=(hm.obj n _ hn).row_cell g1 (off:=j) (d:= .int .u8 ((s.data.toList[j]).toNat:Int)) (by rw [jD,List.getElem?_map,List.getElem?_eq_getElem hj];rfl)
   rw [hu,hru.int_inv]
  have hlen:(b8 s).length=s.data.toList.length:=by simp [b8]
  unfold execOp
  simp only [ho,hv,g1]
  rw [hlen,Sem.run_bind,run_convert_bytes_back w' T T' e ⟨g,0,none⟩ cap s.data.toList hs he hd hcells]
  simp
end
end LJ
