/- Laid variables: what a row's list of them says, as data. -/
import Derived.Test.YtpnnkehkjfciiaaGreatDoorXArg
import Derived.Lib.LaidTab
import Derived.Lib.LaidU8
namespace LJ
open Go Go.RowKit
set_option linter.unusedVariables false
set_option linter.unusedSimpArgs false
theorem ew {k:Nat} {v:List DV} {l:List (Nat×List DV)} {n:Nat} {cs:List DV} (h:gget ((k,v)::l) n=some cs):(n=k∧cs=v)∨gget l n=some cs:=by
 simp only [gget] at h
 cases e:Nat.beq k n with
 | true=>
  rw [e,cond_true] at h
  injection h with h
  exact .inl ⟨(Nat.eq_of_beq_eq_true e).symm,h.symm⟩
 | false=>
  rw [e,cond_false] at h
  exact .inr h
theorem qV {n:Nat} {cs:List DV} (h:gget [] n=some cs):False:=by cases h
theorem rH {P:Program} {W:World} {name:String} {g:Nat} {k:IntKind} {zs:List Int} (hg:P.globalNamed name=some g) (h:Lib.TabIs P W name k zs):∃ T f,W.heap[g]? =some (.cells ((zs.map fun z=>DV.int k z).map dval).toArray T f):=by
 unfold Lib.TabIs World.var? at h
 rw [hg] at h
 simp only [Option.bind_some] at h
 split at h
 ·rename_i cs T f hc
  refine ⟨T,f,?_⟩
  rw [hc,Option.some.inj h,List.map_map]
  rfl
 ·cases h
theorem nG {P:Program} {F:Nat→Prop} {w:World} {name:String} {g:Nat} {k:IntKind} {zs:List Int} (hG:gm F w) (hg:P.globalNamed name=some g) (hgg:gget kq g=some (zs.map fun z=>DV.int k z)):Lib.TabIs P w name k zs:=by
 obtain ⟨_,T,f,h⟩:=hG g _ hgg
 unfold Lib.TabIs World.var?
 rw [hg]
 simp only [Option.bind_some]
 rw [h,List.map_map]
 rfl
theorem cr {P:Program} {W:World} {name:String} {g N:Nat} {t e:TypeId} {k:IntKind} {zs:List Int} (hg:P.globalNamed name=some g) (hty:(P.globals[g]?).map (·.type)=some t) (ht:P.underlying t=some (.array N e)) (he:P.underlying e=some (.int k)) (hce:P.cellsOf e=1) (hct:P.cellsOf t=N)
  (h0:0<zs.length) (h:Lib.VarReads P W name (Lib.tabData k zs)) {d:List DV} (hd:d=zs.map fun z=>DV.int k z):RepD (fun b=>b<W.heap.size) W (.pointer (some ⟨g,0,none⟩)) (.elp d)∧∃ T f,W.heap[g]? =some (.cells (d.map dval).toArray T f):=by
 subst hd
 obtain ⟨g',t',cs,fuel,p,hg',ht',hvar,hd⟩:=h
 obtain rfl:=Option.some.inj (hg.symm.trans hg')
 obtain rfl:=Option.some.inj (hty.symm.trans ht')
 have htab:Lib.TabIs P W name k zs:=by
  unfold Lib.TabIs
  rw [hvar,←Lib.cells_of_tab ht he hce hct hd]
 have hb:g<W.heap.size:=nw (htab.cell hg 0 h0)
 have key:∀ (j:Nat) (d:DV),(zs.map fun z=>DV.int k z)[j]? =some d→j<zs.length∧d= .int k (zs.getD j 0):=fun j d hd=>by
  rw [List.getElem?_map] at hd
  obtain ⟨z,hz,rfl⟩:=Option.map_eq_some_iff.1 hd
  refine ⟨(List.getElem?_eq_some_iff.1 hz).1,?_⟩
  rw [List.getD_eq_getElem?_getD,hz]
  rfl
 refine ⟨.elp (fun j=> .int k (zs.getD j 0)) rfl hb (fun j d hd=>?_) (fun j d hd=>?_),rH hg htab⟩
 ·obtain ⟨h1,h2⟩:=key j d hd
  have:=htab.cell hg j h1
  simpa using this
 ·obtain ⟨h1,rfl⟩:=key j d hd
  exact .int
end LJ
