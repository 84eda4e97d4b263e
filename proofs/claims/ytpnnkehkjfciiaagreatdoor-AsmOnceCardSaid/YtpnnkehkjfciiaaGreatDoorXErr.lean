/- A logic for the walks: errors of which only is known whether they are nil; contracts of strings.Split and strconv.Atoi over the kit's shelf. -/
import Derived.Test.YtpnnkehkjfciiaaGreatDoorXShelf
import Derived.Shelf.Strings.Split
import Derived.Shelf.Strconv.AtoiAll
import Derived.LaidLaws
import Derived.Shelf.Vars
namespace LJ
open Go Go.RowKit
set_option linter.unusedVariables false
set_option linter.unusedSimpArgs false
def erD (t:TypeId) (b:Bool):DV:=cond b (.ifc t (.elp [])) .nili
theorem wB {F:Nat→Prop} {w:World} {v:Value} {t:TypeId} {b:Bool} (h:RepD F w v (erD t b)):∃ u,v=cond b (.iface t u) .nilIface:=by
 cases b with
 | true=>
  have h':RepD F w v (.ifc t (.elp [])):=h
  cases h' with
  | ifc h=>exact ⟨_,rfl⟩
 | false=>exact ⟨undef,RepD.nili_inv h⟩
def th (P:Program) (T:TypeId):Bool:=match P.underlying T with
 | some (.interface _)=>true
 | _=>false
section
variable {P:Program} {E:Env} {m:Mem} {o:Oper}
theorem tj {T:TypeId} (h:th P T=true):∃ ms,P.underlying T=some (.interface ms):=by
 unfold th at h
 split at h
 ·rename_i ms hm;exact ⟨ms,hm⟩
 ·cases h
theorem xg (w:World) {T:TypeId} {ms:Array (String×TypeId)} (h:P.underlying T=some (.interface ms)) (b:Bool) (t:TypeId) (v:Value):(binOp .eql T (cond b (.iface t v) .nilIface) .nilIface).run P w= .ok (.bool (!b)) w∧(binOp .neq T (cond b (.iface t v) .nilIface) .nilIface).run P w= .ok (.bool b) w:=by
 have h1:∀ d,(Op.equalIn (d+1) T (cond b (.iface t v) .nilIface) .nilIface).run P w= .ok (!b) w:=fun d=>by cases b <;> simp [Op.equalIn,run_underlying h]
 simp only [binOp]
 constructor
 ·simp [Op.equal,Op.maxDepth,h1 9999]
 ·simp [Op.equal,Op.maxDepth,h1 9999]
theorem Y.erNe {b:Bool} {t:TypeId} {x:Operand} {T T':TypeId} (hx:opnd E x=some (.d (erD t b))) (ho:o.op= .binOp .neq T x (.const .nilIface) T') (hT:th P T=true):LJ.aF P o E m (.d (.bool b)):=
 Y.data (u:= .bool b) (fun _ _ _=> .d .bool) fun F N w a he w'=>by
  obtain ⟨ms,hm⟩:=tj hT
  obtain ⟨u,h1⟩:=wB ((aA hx) F N w a he).d_inv
  have h2:a.eval (.const .nilIface)= .nilIface:=rfl
  have h3:=(xg w' hm b t u).2
  unfold execOp
  cases b <;> (simp only [cond_true,cond_false] at h3;simp [ho,h1,h2,eqGuard,h3])
end
def nSpl (s sep:ByteArray):Bool:=decide (s.size<4294967281∧1≤sep.size)
theorem tm {s sep:ByteArray} (h:s.size<4294967281∧1≤sep.size):nSpl s sep=true:=decide_eq_true h
def splT (s sep:ByteArray):List ByteArray:=Lib.splitB sep 0 (Lib.countB s sep) s
theorem Done.made {F:Nat→Prop} {N:aI} {w w':World} {v:Value} {d:DV} (hm:mc F N w []) (hb:Below w.heap.size w w') (h:RepD (fun b=>F b∨w.heap.size≤b∧b<w'.heap.size) w' v d):Done F N w [] (.d d) [] (.returned v) w' v (fun b=>F b∨w.heap.size≤b∧b<w'.heap.size) N:=
 ⟨rfl, .d h,⟨hm.glob.mono (fun _ h=> .inl h) fun b h=>hb.block b (hm.Fin b h),fun b h=>h.elim (fun h=>Nat.lt_of_lt_of_le (hm.Fin b h) hb.size) (·.2),fun n o h=>(by cases h),fun n o b h=>(by cases h),fun n n' o o' b h=>(by cases h)⟩,
  fun _ h=> .inl h,fun _ h=>h.imp id fun h=> .inl h.1,hb.os,hb.tape,hb.output,hb.size,fun b h _=>hb.block b h,fun n o b h=>(by cases h),fun _ _ _ h=>(by cases h)⟩
theorem qX:∀ l:List ByteArray,(l.map fun x=>[DV.str x]).flatten=l.map DV.str
 | []=>rfl
 | x::l=>by rw [List.map_cons,List.flatten_cons,qX l];rfl
theorem tn {F:Nat→Prop} {w:World} {g:Nat} {e:TypeId} {enc:ByteArray→List DV} (henc:enc=fun x=>[.str x]) (l:List ByteArray) (hc:w.heap[g]? =some (.cells (l.map Value.string).toArray e (0,0))) (hF:F g) (hl:l.length≤5000000000):RepD F w (.slice (some ⟨g,0,none⟩) l.length l.length) (slT enc l):=by
 subst henc
 have hfl:(l.map fun x=>[DV.str x]).flatten=l.map DV.str:=qX l
 have hh:db F ⟨fun _=>0,fun _=> .slice (some ⟨g,0,none⟩) l.length l.length⟩ w 0 (.row e 1 (l.map fun x=>[DV.str x])):=by
  refine ⟨l.map Value.string,⟨by simp, .inr ⟨g,l.length,_,by simp,Nat.zero_le _,hc,by simp,by simp only [maxLen];omega,by simp,by simp;exact List.take_of_length_le (by rw [List.length_map];exact Nat.le_refl _)⟩⟩,fun y hy=>?_,fun i v x hv hx=>?_⟩
  ·obtain ⟨x,_,rfl⟩:=List.mem_map.1 hy
   rfl
  ·rw [hfl] at hx
   rw [List.getElem?_map] at hv hx
   obtain ⟨y,hy,rfl⟩:=Option.map_eq_some_iff.1 hv
   rw [hy] at hx
   injection hx with hx
   rw [←hx]
   exact .str
 have:=hh.row_rep.mono (F':=F) (fun b hb=>by
  rcases hb with hb | hb
  ·exact hb
  ·have:g=b:=by simpa [blk,Value.ownBlock] using hb
   rw [←this];exact hF) (fun _ _=>rfl)
 refine .slf ?_
 have e:(tab l.length fun i=>(fun x=>[DV.str x]) (l.getD i default))=l.map fun x=>[DV.str x]:=kO (fun x=>[DV.str x]) l
 rw [e]
 exact this
open Go.Shelf Go.Proofs in
theorem Spec.split {P:Program} {ρ:Ren} (L:Lays.n146 P ρ) (hi9:(P.info? (ρ.t 9)).map (fun i=>(i.zero,i.size,i.bytes))=some (some (.string ByteArray.empty),1,16)) (hg:pJ.contains (ρ.g 1,true)=true) {s sep:ByteArray} {enc:ByteArray→List DV} (henc:enc=fun x=>[.str x]) (hn:nSpl s sep=true):Spec P (ρ.f 146) [.d (.str s), .d (.str sep)] [] (.d (slT enc (splT s sep))) []:=fun F N w vals hm hlen hr=>by
 obtain ⟨h1,h2⟩:s.size<4294967281∧1≤sep.size:=of_decide_eq_true hn
 match vals,hlen with
 | [v0,v1],_=>
 have e0:=(hr 0 v0 (.d (.str s)) rfl rfl).d_inv.str_inv
 have e1:=(hr 1 v1 (.d (.str sep)) rfl rfl).d_inv.str_inv
 subst e0 e1
 obtain ⟨_,v,hv,m,rfl⟩:=hm.glob.shape _ _ (List.contains_iff_mem.1 hg)
 refine (Any.strings_Split L hi9 s sep m w h1 hv h2).mono ?_
 rintro e w' ⟨rfl,rfl⟩
 have hl:=Lib.splitB_all sep h2 0 _ s rfl
 have hc:=Lib.countB_le sep h2 s.size s (Nat.le_refl _)
 refine ⟨_,_,N,Done.made hm ⟨rfl,rfl,rfl,by simp,fun b hb=>heap_alloc_old w _ hb⟩ ?_⟩
 rw [←hl]
 exact tn henc _ (kF w _) (.inr ⟨Nat.le_refl _,by simp⟩) (by rw [hl];omega)
def nAto (s:ByteArray):Bool:=decide (s.size≤281474976710656)
theorem tq {s:ByteArray} (h:s.size≤281474976710656):nAto s=true:=decide_eq_true h
def atoN (s:ByteArray):Int:=match Lib.atoiAll s.data.toList with
 | .ok v=>v
 | .syntax=>0
 | .range=>Lib.atoiSat s.data.toList
def atoB (s:ByteArray):Bool:=match Lib.atoiAll s.data.toList with
 | .ok _=>false
 | _=>true
theorem Done.made2 {F:Nat→Prop} {N:aI} {w w':World} {n:Int} {u:Value} {d:DV} (hm:mc F N w []) (hb:Below w.heap.size w w') (h:RepD (fun b=>F b∨w.heap.size≤b∧b<w'.heap.size) w' u d):Done F N w [] (.tup [.d (.int .i64 n), .d d]) [] (.returned (.tuple #[.int .i64 n,u])) w' (.tuple #[.int .i64 n,u]) (fun b=>F b∨w.heap.size≤b∧b<w'.heap.size) N:=
 ⟨rfl, .tup (vs:=[.int .i64 n,u]) rfl (fun i v c hv hc=>by
   match i with
   | 0=>cases hv;cases hc;exact .d .int
   | 1=>cases hv;cases hc;exact .d h
   | i+2=>cases hv),⟨hm.glob.mono (fun _ h=> .inl h) fun b h=>hb.block b (hm.Fin b h),fun b h=>h.elim (fun h=>Nat.lt_of_lt_of_le (hm.Fin b h) hb.size) (·.2),fun n o h=>(by cases h),fun n o b h=>(by cases h),fun n n' o o' b h=>(by cases h)⟩,
  fun _ h=> .inl h,fun _ h=>h.imp id fun h=> .inl h.1,hb.os,hb.tape,hb.output,hb.size,fun b h _=>hb.block b h,fun n o b h=>(by cases h),fun _ _ _ h=>(by cases h)⟩
open Go.Shelf Go.Proofs in
theorem Spec.atoi {P:Program} {ρ:Ren} (L:LaysC.n172 P ρ) (hg:pJ.contains (ρ.g 15,false)=true) (hg2:pJ.contains (ρ.g 16,false)=true) {s:ByteArray} (hn:nAto s=true):Spec P (ρ.f 172) [.d (.str s)] [] (.tup [.d (.int .i64 (atoN s)), .d (erD (ρ.t 168) (atoB s))]) []:=fun F N w vals hm hlen hr=>by
 have h1:s.size≤281474976710656:=of_decide_eq_true hn
 match vals,hlen with
 | [v0],_=>
 have e0:=(hr 0 v0 (.d (.str s)) rfl rfl).d_inv.str_inv
 subst e0
 have err:∀ (ev:Value) (n:Int) (w':World) (e:Ending),(∃ N,e= .returned (.tuple #[.int .i64 n, .iface (ρ.t 168) (.pointer (some ⟨N,0,none⟩))])∧w.heap.size≤N∧w'.heap[N]? =some (.cells #[.string ⟨#[65,116,111,105]⟩, .string s,ev] (ρ.t 210) (0,0))∧Below w.heap.size w w')→∃ v F' N',Done F N w [] (.tup [.d (.int .i64 n), .d (erD (ρ.t 168) true)]) [] e w' v F' N':=by
  rintro ev n w' e ⟨K,rfl,hK,hc,hb⟩
  exact ⟨_,_,N,Done.made2 hm hb (.ifc (.elp (fun _=>undef) rfl (.inr ⟨hK,(Array.getElem?_eq_some_iff.1 hc).1⟩) (fun j d hj=>by simp at hj) (fun j d hj=>by simp at hj)))⟩
 unfold atoN atoB
 cases hA:Lib.atoiAll s.data.toList with
 | ok v=>
  refine (Any.strconv_Atoi_ok L s (by omega) v hA w).mono ?_
  rintro e w' ⟨rfl,hw⟩
  refine ⟨_,_,N,Done.made2 hm ?_ .nili⟩
  rcases hw with rfl | ⟨t,rfl⟩
  ·exact ⟨rfl,rfl,rfl,Nat.le_refl _,fun _ _=>rfl⟩
  ·exact ⟨rfl,rfl,rfl,by rw [Lib.bytesWorld_size];omega,fun b hb=>Lib.bytesWorld_at_old w _ _ b hb⟩
 | «syntax»=>
  obtain ⟨_,ev,hv,hev⟩:=hm.glob.shape _ _ (List.contains_iff_mem.1 hg)
  exact (Any.strconv_Atoi_syntax L s h1 hA ev w hv hev).mono fun e w' h=>err ev 0 w' e h
 | range=>
  obtain ⟨_,ev,hv,hev⟩:=hm.glob.shape _ _ (List.contains_iff_mem.1 hg2)
  exact (Any.strconv_Atoi_range L s h1 hA ev w hv hev).mono fun e w' h=>err ev _ w' e h
theorem qY {P:Program} {w:World} {g:Nat} {t:TypeId} {zero:Array Value} (h:w.ShapedOpen P) (hg:g<P.globals.size) (h0:((begin P (fun _ _=>0) default).world.heap[g]?).bind Obj.row?=some (zero,t)) (hz:zero.size=1)
  (hb:P.buildable t=true) (hc:P.cellTypes P.depth t=some [t]) (hu:P.underlying t=some (.int .i64)):g<w.heap.size∧∃ v,w.cell? ⟨g,0,none⟩=some v∧vY true v:=by
 obtain ⟨m,hm⟩:=Go.Proofs.cell_of_shapedOpen_int h hg h0 hz hb hc hu
 exact ⟨nw hm,_,hm,m,rfl⟩
theorem gY {P:Program} {w:World} {g ti:Nat} {ms:Array (String×TypeId)} {name nm:String} {d:DataW Unit} (hg:P.globalNamed name=some g) (hty:(P.globals[g]?).map (·.type)=some ti) (hi:P.underlying ti=some (.interface ms)) (h:Lib.VarReads P w name (.iface nm d)):g<w.heap.size∧∃ v,w.cell? ⟨g,0,none⟩=some v∧vY false v:=by
 obtain ⟨g',t',cs,fuel,p,hg',ht',hvar,hd⟩:=h
 obtain rfl:=Option.some.inj (hg.symm.trans hg')
 obtain rfl:=Option.some.inj (hty.symm.trans ht')
 obtain ⟨_,u,v,e,_,_⟩:=iface_of_trod hi hd
 have hc:w.cell? ⟨g,0,none⟩=some (.iface u v):=by
  rw [World.var?_cell hg hvar 0,←Array.getElem?_toList,e];rfl
 exact ⟨nw hc,_,hc, .inr ⟨u,v,rfl⟩⟩
end LJ
