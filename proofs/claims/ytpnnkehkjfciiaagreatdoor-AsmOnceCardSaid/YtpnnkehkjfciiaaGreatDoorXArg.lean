/- A logic for the walks: a law's arguments as lists and structs. -/
import Derived.Test.YtpnnkehkjfciiaaGreatDoorXPB
import Derived.DataShut
namespace LJ
open Go Go.RowKit
set_option linter.unusedVariables false
set_option linter.unusedSimpArgs false
def Le (d d':DV):Prop:=∀ F w v,RepD F w v d→RepD F w v d'
theorem Le.rfl' {d:DV} :Le d d:=fun _ _ _ h=>h
inductive LeL:List DV→List DV→Prop
 | nil:LeL [] []
 | cons {d d':DV} {l l':List DV} (h:Le d d') (hs:LeL l l'):LeL (d::l) (d'::l')
theorem LeL.len {l l':List DV} (h:LeL l l'):l.length=l'.length:=by
 induction h with
 | nil=>rfl
 | cons h hs ih=>simp [ih]
theorem LeL.get {l l':List DV} (h:LeL l l'):∀ (i:Nat) (d d':DV),l[i]? =some d→l'[i]? =some d'→Le d d':=by
 induction h with
 | nil=>intro i d d' h;simp at h
 | cons h hs ih=>
  intro i d d' h1 h2
  cases i with
  | zero=>simp at h1 h2;subst h1;subst h2;exact h
  | succ i=>simp at h1 h2;exact ih i d d' h1 h2
def i7 (ks:List CK) (ds:List DV):Prop:=ds.length=ks.length∧∀ (i:Nat) (k:CK) (d:DV),ks[i]? =some k→ds[i]? =some d→Conf k d
theorem i7.cons {k:CK} {ks:List CK} {ds:List DV} (h:i7 (k::ks) ds):∃ d r,ds=d::r∧Conf k d∧i7 ks r:=by
 obtain ⟨h1,h2⟩:=h
 match ds,h1 with
 | d::r,h1=>exact ⟨d,r,rfl,h2 0 k d rfl rfl,by simpa using h1,fun i k' d' hk hd=>h2 (i+1) k' d' (by simpa using hk) (by simpa using hd)⟩
theorem i7.nil {ds:List DV} (h:i7 [] ds):ds=[]:=List.length_eq_zero_iff.1 h.1
theorem uS {k:IntKind} {d:DV} (h:Conf (.int k) d):∃ n,d= .int k n∧(Lit.int k n).wf=true:=by
 cases h with
 | int h=>exact ⟨_,rfl,h⟩
def jI (n:Int):Prop:= -9223372036854775808≤n∧n<9223372036854775808
def yf (n:Int):Prop:=0≤n∧n<18446744073709551616
theorem dK {d:DV} (h:Conf (.int .i64) d):∃ n,d= .int .i64 n∧jI n:=by
 obtain ⟨n,rfl,hw⟩:=uS h
 refine ⟨n,rfl,?_⟩
 unfold jI
 have hw:=(Lit.wf_int_iff _ _).1 hw
 have h1:IntKind.i64.min= -9223372036854775808:=by decide
 have h2:IntKind.i64.max=9223372036854775807:=by decide
 omega
def inU8 (n:Int):Prop:=0≤n∧n<256
def yg (n:Int):Prop:=0≤n∧n<4294967296
def yh (n:Int):Prop:= -2147483648≤n∧n<2147483648
theorem RepD.sl_le {F:Nat→Prop} {w:World} {v:Value} {es es':List (List DV)} (hl:es.length=es'.length) (h:∀ (i:Nat) (e e':List DV),es[i]? =some e→es'[i]? =some e'→LeL e e') (hr:RepD F w v (.sl es)):RepD F w v (.sl es'):=by
 cases hr with
 | nil=>
  have:es'=[]:=List.length_eq_zero_iff.1 hl.symm
  subst this
  exact .nil
 | @sl a n c sz es u hn h0 hc hs hF hz hm hh=>
  have get:∀ (i:Nat) (e':List DV),es'[i]? =some e'→∃ e,es[i]? =some e∧LeL e e':=fun i e' he'=>by
   have hi:i<es.length:=by rw [hl];exact (List.getElem?_eq_some_iff.1 he').1
   exact ⟨es[i],List.getElem?_eq_getElem hi,h i _ _ (List.getElem?_eq_getElem hi) he'⟩
  refine .sl (sz:=sz) u (by rw [←hl];exact hn) h0 hc hs hF (fun i e' he'=>?_) (fun i j e' d' he' hd'=>?_) (fun i j e' d' he' hd'=>?_)
  ·obtain ⟨e,he,hle⟩:=get i e' he'
   rw [←hle.len]
   exact hz i e he
  ·obtain ⟨e,he,hle⟩:=get i e' he'
   obtain ⟨d,hd⟩:∃ d,e[j]? =some d:=⟨_,List.getElem?_eq_getElem (by rw [hle.len];exact (List.getElem?_eq_some_iff.1 hd').1)⟩
   exact hm i j e d he hd
  ·obtain ⟨e,he,hle⟩:=get i e' he'
   obtain ⟨d,hd⟩:∃ d,e[j]? =some d:=⟨_,List.getElem?_eq_getElem (by rw [hle.len];exact (List.getElem?_eq_some_iff.1 hd').1)⟩
   exact hle.get j d d' hd hd' _ _ _ (hh i j e d he hd)
theorem fu {α:Type} [Inhabited α] {es:List CK} (enc:α→List DV) (wf:α→Prop) (h:∀ ds,i7 es ds→∃ x,wf x∧LeL ds (enc x)) {d:DV} (hd:Conf (.slice es) d):∃ L:List α,L.length≤maxLen∧(∀ x∈L,wf x)∧Le d (slT enc L):=by
 cases hd with
 | @slice es n f hn hl hc=>
  classical
  have hex:∀ i,∃ x:α,i<n→wf x∧LeL (f i) (enc x):=fun i=>by
   by_cases hi:i<n
   ·obtain ⟨x,hx⟩:=h (f i) ⟨hl i hi,hc i hi⟩
    exact ⟨x,fun _=>hx⟩
   ·exact ⟨default,fun hh=>absurd hh hi⟩
  obtain ⟨g,hg⟩:=Classical.axiomOfChoice hex
  refine ⟨(List.range n).map g,by simpa using hn,fun x hx=>?_,fun F w v hr=>?_⟩
  ·obtain ⟨i,hi,rfl⟩:=List.mem_map.1 hx
   exact (hg i (List.mem_range.1 hi)).1
  ·refine RepD.slT (RepD.sl_le (by simp [tab]) (fun i e e' he he'=>?_) hr.slf_inv)
   have hi:i<n:=by have:=(List.getElem?_eq_some_iff.1 he).1;simpa [tab] using this
   rw [pM f hi] at he
   injection he with he
   subst he
   simp [hi] at he'
   subst he'
   exact (hg i hi).2
theorem tc {α:Type} [Inhabited α] {es:List CK} (enc:α→List DV) (wf:α→Prop) (h:∀ ds,i7 es ds→∃ x,wf x∧LeL ds (enc x)) (ds:List DV) (hd:i7 [.slice es] ds):∃ L:List α,(L.length≤maxLen∧∀ x∈L,wf x)∧LeL ds [slT enc L]:=by
 obtain ⟨d,r,rfl,h0,h1⟩:=hd.cons
 obtain rfl:=h1.nil
 obtain ⟨L,h2,h3,h4⟩:=fu enc wf h h0
 exact ⟨L,⟨h2,h3⟩, .cons h4 .nil⟩
section
variable {H:Type} {enc:TypeId×Value→H} {P:Program} {w:World}
theorem uT {t:TypeId} {ks:List CK} {cs:Array Value} {d:DataW H} {ps:List MemPlace} (g:Nat) (hk:ckOK P g t ks=true) (h:DataW.Trod enc P w 0 (fun _=>true) true t (.agg cs) d ps):∃ ds,i7 ks ds∧RepD (fun b=>b<w.heap.size) w (.agg cs) (.agg ds):=by
 obtain ⟨fuel,h⟩:=h
 obtain ⟨h1,ds,h2,h3,h4⟩:=lh g t ks hk h
 refine ⟨ds,⟨h2,h4⟩,?_⟩
 have:Value.agg cs= .agg cs.toList.toArray:=by simp
 rw [this]
 exact .agg (by rw [h2];exact h1) h3
theorem RepD.agg_le {F:Nat→Prop} {v:Value} {ds ds':List DV} (h:LeL ds ds') (hr:RepD F w v (.agg ds)):RepD F w v (.agg ds'):=by
 obtain ⟨vs,rfl,hl,hr⟩:=hr.agg_inv
 refine .agg (by rw [hl,h.len]) fun i x d' hx hd'=>?_
 obtain ⟨d,hd⟩:∃ d,ds[i]? =some d:=⟨_,List.getElem?_eq_getElem (by rw [h.len];exact (List.getElem?_eq_some_iff.1 hd').1)⟩
 exact h.get i d d' hd hd' _ _ _ (hr i x d hx hd)
end
end LJ
