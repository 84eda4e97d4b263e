/- A logic for the walks: the contract of strings.Index over the kit's shelf. -/
import Derived.Test.YtpnnkehkjfciiaaGreatDoorXErr
import Derived.Shelf.Strings.Search3
namespace LJ
open Go Go.RowKit
set_option linter.unusedVariables false
set_option linter.unusedSimpArgs false
def nIdx (s:ByteArray):Bool:=decide (s.size<4294967281)
theorem pZ {s:ByteArray} (h:s.size<4294967281):nIdx s=true:=decide_eq_true h
def idxT (s sub:ByteArray):Int:=Lib.index s.data.toList sub.data.toList
theorem Done.num {F:Nat→Prop} {N:aI} {w:World} {n:Int} (hm:mc F N w []):∃ v F' N',Done F N w [] (.d (.int .i64 n)) [] (.returned (.int .i64 n)) w v F' N':=
 ⟨_,_,N,Done.made hm ⟨rfl,rfl,rfl,Nat.le_refl _,fun _ _=>rfl⟩ .int⟩
open Go.Shelf Go.Proofs in
theorem Spec.indexL {P:Program} {ρ:Ren} (L:Lays.n219 P ρ) (hg:pJ.contains (ρ.g 1,true)=true) {s sub:ByteArray} (hn:nIdx s=true):Spec P (ρ.f 219) [.d (.str s), .d (.str sub)] [] (.d (.int .i64 (idxT s sub))) []:=fun F N w vals hm hlen hr=>by
 have h1:s.size<4294967281:=of_decide_eq_true hn
 match vals,hlen with
 | [v0,v1],_=>
 have e0:=(hr 0 v0 (.d (.str s)) rfl rfl).d_inv.str_inv
 have e1:=(hr 1 v1 (.d (.str sub)) rfl rfl).d_inv.str_inv
 subst e0 e1
 obtain ⟨_,v,hv,m,rfl⟩:=hm.glob.shape _ _ (List.contains_iff_mem.1 hg)
 refine (Any.stringslite_Index L s sub m w h1 hv).mono ?_
 rintro e w' ⟨rfl,rfl⟩
 exact Done.num hm
end LJ
