/- A logic for the walks: a law's arguments as lists and structs. -/
import Derived.Test.YtdebndfaknfefaaGreatDoorXPB
import Derived.DataShut
namespace LJ
open Go Go.RowKit
set_option linter.unusedVariables false
set_option linter.unusedSimpArgs false
def Le (d d':DV):Prop:=∀ F w v,RepD F w v d→RepD F w v d'
theorem Le.rfl' {d:DV} :Le d d:=fun _ _ _ h=>h
inductive LeL:List DV→List DV→Prop
 | nil:LeL [] []
 | cons {d d':DV} {l l':List DV} (h:Le d d') (hs:LeL l l'):LeL (d::l) (d'::l')
theorem LeL.len {l l':List DV} (h:LeL l l'):l.length=l'.length:=by
 induction h with
 | nil=>rfl
 | cons h hs ih=>simp [ih]
theorem LeL.get {l l':List DV} (h:LeL l l'):∀ (i:Nat) (d d':DV),l[i]? =some d→l'[i]? =some d'→Le d d':=by
 induction h with
 | nil=>intro i d d' h;simp at h
 | cons h hs ih=>
  intro i d d' h1 h2
  cases i with
  | zero=>simp at h1 h2;subst h1;subst h2;exact h
  | succ i=>simp at h1 h2;exact ih i d d' h1 h2
def EO (ks:List CK) (ds:List DV):Prop:=ds.length=ks.length∧∀ (i:Nat) (k:CK) (d:DV),ks[i]? =some k→ds[i]? =some d→Conf k d
def EP (n:Int):Prop:= -9223372036854775808≤n∧n<9223372036854775808
def ES (n:Int):Prop:=0≤n∧n<18446744073709551616
def inU8 (n:Int):Prop:=0≤n∧n<256
def ET (n:Int):Prop:=0≤n∧n<4294967296
def EU (n:Int):Prop:= -2147483648≤n∧n<2147483648
section
variable {H:Type} {enc:TypeId×Value→H} {P:Program} {w:World}
theorem RepD.agg_le {F:Nat→Prop} {v:Value} {ds ds':List DV} (h:LeL ds ds') (hr:RepD F w v (.agg ds)):RepD F w v (.agg ds'):=by
 obtain ⟨vs,rfl,hl,hr⟩:=hr.agg_inv
 refine .agg (by rw [hl,h.len]) fun i x d' hx hd'=>?_
 obtain ⟨d,hd⟩:∃ d,ds[i]? =some d:=⟨_,List.getElem?_eq_getElem (by rw [h.len];exact (List.getElem?_eq_some_iff.1 hd').1)⟩
 exact h.get i d d' hd hd' _ _ _ (hr i x d hx hd)
end
end LJ
