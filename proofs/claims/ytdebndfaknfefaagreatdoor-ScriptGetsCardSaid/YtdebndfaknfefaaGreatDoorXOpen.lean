/- A logic for the walks: what a law's arguments say, whatever their type (ints, bools, texts, slices, structs). -/
import Derived.Test.YtdebndfaknfefaaGreatDoorXTxt
import Derived.ChangeArms
namespace LJ
open Go Go.RowKit
set_option linter.unusedVariables false
set_option linter.unusedSimpArgs false
inductive CK:Type
 | int (k:IntKind)
 | bool
 | str
 | slice (es:List CK)
inductive Conf:CK→DV→Prop
 | int {k:IntKind} {n:Int} (h:(Lit.int k n).wf=true):Conf (.int k) (.int k n)
 | bool {b:Bool} :Conf .bool (.bool b)
 | str {s:ByteArray} (h:s.size≤maxLen):Conf .str (.str s)
 | slice {es:List CK} {n:Nat} {f:Nat→List DV} (hn:n≤maxLen) (hl:∀ i,i<n→(f i).length=es.length) (h:∀ i,i<n→∀ (j:Nat) (k:CK) (d:DV),es[j]? =some k→(f i)[j]? =some d→Conf k d):Conf (.slice es) (.slf n f)
def xc (P:Program) (r:TypeId→List CK→Bool) (ks:List CK):Nat→List Field→Bool
 | o,[]=>Nat.beq o ks.length
 | o,f::fs=>Nat.beq f.offset o&&r f.type ((ks.drop o).take (P.cellsOf f.type))&&xc P r ks (o+P.cellsOf f.type) fs
def ckOK (P:Program):Nat→TypeId→List CK→Bool
 | 0,_,_=>false
 | g+1,t,ks=>Nat.beq (P.cellsOf t) ks.length&&(match P.underlying t,ks with
  | some (.int k),[.int k']=>decide (k'=k)
  | some .bool,[.bool]=>true
  | some .string,[.str]=>true
  | some (.slice e),[.slice es]=>Nat.blt 0 es.length&&ckOK P g e es
  | some (.struct fs),ks=>xc P (ckOK P g) ks 0 fs.toList
  | _,_=>false)
section
variable {H:Type} {enc:TypeId×Value→H} {P:Program} {w:World} {base:Nat} {spare:Nat→Bool} {held:Bool}
def Says (w:World) (cs:List Value) (ks:List CK):Prop:=
 cs.length=ks.length∧∃ ds:List DV,ds.length=ks.length∧(∀ (i:Nat) (v:Value) (d:DV),cs[i]? =some v→ds[i]? =some d→RepD (fun b=>b<w.heap.size) w v d)∧∀ (i:Nat) (k:CK) (d:DV),ks[i]? =some k→ds[i]? =some d→Conf k d
theorem CP {a:Addr} {v:Value} (h:w.cell? a=some v):a.block<w.heap.size:=by
 unfold World.cell? at h
 split at h
 ·rename_i hb
  exact (Array.getElem?_eq_some_iff.1 hb).1
 ·cases h
end
end LJ
