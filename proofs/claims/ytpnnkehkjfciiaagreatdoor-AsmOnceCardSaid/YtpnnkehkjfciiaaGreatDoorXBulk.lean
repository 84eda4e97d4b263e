/- What the arguments of a law weigh: the bulk of what a value says is at most the bulk of its reading. -/
import Derived.Test.YtpnnkehkjfciiaaGreatDoorXArg
namespace LJ
open Go Go.RowKit
set_option linter.unusedVariables false
set_option linter.unusedSimpArgs false
noncomputable def DV.bulk (d:DV):Nat:=
 DV.rec (motive_1:=fun _=>Nat) (motive_2:=fun _=>Nat) (motive_3:=fun _=>Nat)
  (fun _ _=>1) (fun _=>1) (fun s=>s.size+1) 1 1 1 (fun _ _ b=>b) (fun _ b=>b) (fun _ b=>b+1) (fun n _ b=>((List.range n).map b).sum+1) (fun _ b=>b)
  0 (fun _ _ a b=>a+b) 0 (fun _ _ a b=>a+b) d
noncomputable def wL (l:List DV):Nat:=l.foldr (fun d n=>d.bulk+n) 0
@[simp] theorem xm:wL []=0:=rfl
@[simp] theorem w6 (d:DV) (l:List DV):wL (d::l)=d.bulk+wL l:=rfl
@[simp] theorem xM (k:IntKind) (n:Int):(DV.int k n).bulk=1:=rfl
@[simp] theorem xn (b:Bool):(DV.bool b).bulk=1:=rfl
@[simp] theorem xN (s:ByteArray):(DV.str s).bulk=s.size+1:=rfl
inductive Shp:CK→DV→Prop
 | int {k:IntKind} {n:Int} :Shp (.int k) (.int k n)
 | bool {b:Bool} :Shp .bool (.bool b)
 | str {s:ByteArray} :Shp .str (.str s)
 | slice {es:List CK} {n:Nat} {f:Nat→List DV} (hl:∀ i,i<n→(f i).length=es.length) (h:∀ i,i<n→∀ (j:Nat) (k:CK) (d:DV),es[j]? =some k→(f i)[j]? =some d→Shp k d):Shp (.slice es) (.slf n f)
def ShpL (ks:List CK) (ds:List DV):Prop:=ds.length=ks.length∧∀ (j:Nat) (k:CK) (d:DV),ks[j]? =some k→ds[j]? =some d→Shp k d
end LJ
