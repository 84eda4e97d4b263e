/- A logic for the walks: what a law's arguments say, whatever their type (ints, bools, texts, slices, structs). -/
import Derived.Test.YtpnnkehkjfciiaaGreatDoorXTxt
import Derived.ChangeArms
namespace LJ
open Go Go.RowKit
set_option linter.unusedVariables false
set_option linter.unusedSimpArgs false
inductive CK:Type
 | int (k:IntKind)
 | bool
 | str
 | slice (es:List CK)
inductive Conf:CK→DV→Prop
 | int {k:IntKind} {n:Int} (h:(Lit.int k n).wf=true):Conf (.int k) (.int k n)
 | bool {b:Bool} :Conf .bool (.bool b)
 | str {s:ByteArray} (h:s.size≤maxLen):Conf .str (.str s)
 | slice {es:List CK} {n:Nat} {f:Nat→List DV} (hn:n≤maxLen) (hl:∀ i,i<n→(f i).length=es.length) (h:∀ i,i<n→∀ (j:Nat) (k:CK) (d:DV),es[j]? =some k→(f i)[j]? =some d→Conf k d):Conf (.slice es) (.slf n f)
def i4 (P:Program) (r:TypeId→List CK→Bool) (ks:List CK):Nat→List Field→Bool
 | o,[]=>Nat.beq o ks.length
 | o,f::fs=>Nat.beq f.offset o&&r f.type ((ks.drop o).take (P.cellsOf f.type))&&i4 P r ks (o+P.cellsOf f.type) fs
def ckOK (P:Program):Nat→TypeId→List CK→Bool
 | 0,_,_=>false
 | g+1,t,ks=>Nat.beq (P.cellsOf t) ks.length&&(match P.underlying t,ks with
  | some (.int k),[.int k']=>decide (k'=k)
  | some .bool,[.bool]=>true
  | some .string,[.str]=>true
  | some (.slice e),[.slice es]=>Nat.blt 0 es.length&&ckOK P g e es
  | some (.struct fs),ks=>i4 P (ckOK P g) ks 0 fs.toList
  | _,_=>false)
section
variable {H:Type} {enc:TypeId×Value→H} {P:Program} {w:World} {base:Nat} {spare:Nat→Bool} {held:Bool}
theorem s0 {a:Addr} {n:Nat} {cs:List Value} (h:w.cells? base a n=some cs):cs.length=n∧∀ (i:Nat) (v:Value),cs[i]? =some v→w.cell? (a.add i)=some v:=by
 unfold World.cells? at h
 split at h
 ·have hl:=mapM_some_length h
  refine ⟨by simpa using hl,fun i v hv=>?_⟩
  have hl':cs.length=n:=by simpa using hl
  have hlt:i<n:=by have:=(List.getElem?_eq_some_iff.1 hv).1;omega
  have:=mapM_some_get h i i (by simp [hlt])
  rw [this,hv]
 ·cases h
def Says (w:World) (cs:List Value) (ks:List CK):Prop:=
 cs.length=ks.length∧∃ ds:List DV,ds.length=ks.length∧(∀ (i:Nat) (v:Value) (d:DV),cs[i]? =some v→ds[i]? =some d→RepD (fun b=>b<w.heap.size) w v d)∧∀ (i:Nat) (k:CK) (d:DV),ks[i]? =some k→ds[i]? =some d→Conf k d
theorem Says.one {v:Value} {k:CK} {d:DV} (h1:RepD (fun b=>b<w.heap.size) w v d) (h2:Conf k d):Says w [v] [k]:=by
 refine ⟨rfl,[d],rfl,fun i v' d' hv hd=>?_,fun i k' d' hk hd=>?_⟩
 ·cases i with
  | zero=>simp at hv hd;subst hv;subst hd;exact h1
  | succ i=>simp at hv
 ·cases i with
  | zero=>simp at hk hd;subst hk;subst hd;exact h2
  | succ i=>simp at hk
theorem Says.append {cs cs':List Value} {ks ks':List CK} (h:Says w cs ks) (h':Says w cs' ks'):Says w (cs++cs') (ks++ks'):=by
 obtain ⟨h1,ds,h2,h3,h4⟩:=h
 obtain ⟨g1,es,g2,g3,g4⟩:=h'
 refine ⟨by simp [h1,g1],ds++es,by simp [h2,g2],fun i v d hv hd=>?_,fun i k d hk hd=>?_⟩
 ·by_cases hi:i<cs.length
  ·rw [List.getElem?_append_left hi] at hv
   rw [List.getElem?_append_left (by omega)] at hd
   exact h3 i v d hv hd
  ·rw [List.getElem?_append_right (by omega)] at hv hd
   rw [show i - ds.length=i - cs.length by omega] at hd
   exact g3 _ v d hv hd
 ·by_cases hi:i<ks.length
  ·rw [List.getElem?_append_left hi] at hk
   rw [List.getElem?_append_left (by omega)] at hd
   exact h4 i k d hk hd
  ·rw [List.getElem?_append_right (by omega)] at hk hd
   rw [show i - ds.length=i - ks.length by omega] at hd
   exact g4 _ k d hk hd
theorem Says.nil:Says w [] []:=⟨rfl,[],rfl,fun i v d hv=>by simp at hv,fun i k d hk=>by simp at hk⟩
theorem nw {a:Addr} {v:Value} (h:w.cell? a=some v):a.block<w.heap.size:=by
 unfold World.cell? at h
 split at h
 ·rename_i hb
  exact (Array.getElem?_eq_some_iff.1 hb).1
 ·cases h
theorem rG {es:List CK} (h0:0<es.length) {a:Addr} {len cap:Nat} (hlc:len≤cap) (hm:cap≤maxLen) (h:∀ i,i<len→∃ cs,w.cells? base (a.add (i*es.length)) es.length=some cs∧Says w cs es):Says w [.slice (some a) len cap] [.slice es]:=by
 classical
 have hex:∀ i,∃ ds:List DV,∃ cs:List Value,i<len→w.cells? base (a.add (i*es.length)) es.length=some cs∧cs.length=es.length∧ds.length=es.length∧(∀ (j:Nat) (v:Value) (d:DV),cs[j]? =some v→ds[j]? =some d→RepD (fun b=>b<w.heap.size) w v d)∧∀ (j:Nat) (k:CK) (d:DV),es[j]? =some k→ds[j]? =some d→Conf k d:=by
  intro i
  by_cases hi:i<len
  ·obtain ⟨cs,h1,h2,ds,h3,h4,h5⟩:=h i hi
   exact ⟨ds,cs,fun _=>⟨h1,h2,h3,h4,h5⟩⟩
  ·exact ⟨[],[],fun hh=>absurd hh hi⟩
 obtain ⟨f,hex⟩:=Classical.axiomOfChoice hex
 obtain ⟨c,hf⟩:=Classical.axiomOfChoice hex
 refine Says.one (d:= .slf len f) (.slf ?_) (.slice (by omega) (fun i hi=>(hf i hi).2.2.1) (fun i hi j k d hk hd=>(hf i hi).2.2.2.2 j k d hk hd))
 by_cases hl:len=0
 ·subst hl
  exact .nil
 ·have getc:∀ i,i<len→∀ j,j<es.length→(c i)[j]? =some ((c i).getD j undef):=fun i hi j hj=>by
   have:=(hf i hi).2.1
   rw [List.getD_eq_getElem?_getD,List.getElem?_eq_getElem (by omega)]
   rfl
  have getcell:∀ i,i<len→∀ j,j<es.length→w.cell? ((a.add (i*es.length)).add j)=some ((c i).getD j undef):=fun i hi j hj=>(s0 (hf i hi).1).2 j _ (getc i hi j hj)
  have hc0:=getcell 0 (by omega) 0 h0
  have hs:a.spot=none:=by
   have:=World.cell?_spot hc0
   simpa [Addr.add] using this
  have ha:a=⟨a.block,a.off,none⟩:=by cases a;simp_all
  have hblk:a.block<w.heap.size:=by
   have:=nw hc0
   simpa [Addr.add] using this
  have bound:∀ i e,(tab len f)[i]? =some e→i<len∧e=f i:=fun i e he=>by
   have hi:i<len:=by have:=(List.getElem?_eq_some_iff.1 he).1;rwa [jF] at this
   rw [pM f hi] at he
   injection he with he
   exact ⟨hi,he.symm⟩
  refine .sl (sz:=es.length) (fun i j=>(c i).getD j undef) (jF len f) (by omega) hlc hs hblk (fun i e he=>?_) (fun i j e d he hd=>?_) (fun i j e d he hd=>?_)
  ·obtain ⟨hi,rfl⟩:=bound i e he
   exact (hf i hi).2.2.1
  ·obtain ⟨hi,rfl⟩:=bound i e he
   have hj:j<es.length:=by have:=(List.getElem?_eq_some_iff.1 hd).1;rwa [(hf i hi).2.2.1] at this
   have:=getcell i hi j hj
   rw [ha,Addr.add_lit,Addr.add_lit] at this
   rw [←this]
   congr 2
   omega
  ·obtain ⟨hi,rfl⟩:=bound i e he
   have hj:j<es.length:=by have:=(List.getElem?_eq_some_iff.1 hd).1;rwa [(hf i hi).2.2.1] at this
   exact (hf i hi).2.2.2.1 j _ d (getc i hi j hj) hd
theorem lg {g:Nat} {ks:List CK} {cs:List Value} :∀ (fs:List Field) (o:Nat),i4 P (ckOK P g) ks o fs=true→(∀ f∈fs,ckOK P g f.type ((ks.drop f.offset).take (P.cellsOf f.type))=true→Says w ((cs.drop f.offset).take (P.cellsOf f.type)) ((ks.drop f.offset).take (P.cellsOf f.type)))→cs.length=ks.length→Says w (cs.drop o) (ks.drop o)
 | [],o,h,hf,hl=>by
  simp only [i4] at h
  have:=Nat.eq_of_beq_eq_true h
  rw [this,List.drop_length,←hl,List.drop_length]
  exact .nil
 | f::fs,o,h,hf,hl=>by
  simp only [i4,Bool.and_eq_true] at h
  obtain ⟨⟨h1,h2⟩,h3⟩:=h
  have ho:=Nat.eq_of_beq_eq_true h1
  subst ho
  have p1:=hf f (List.mem_cons_self ..) h2
  have p2:=lg fs (f.offset+P.cellsOf f.type) h3 (fun f' hf'=>hf f' (List.mem_cons_of_mem _ hf')) hl
  have:=p1.append p2
  rwa [←List.drop_drop,List.take_append_drop,←List.drop_drop,List.take_append_drop] at this
theorem lh:∀ (g:Nat) (t:TypeId) (ks:List CK),ckOK P g t ks=true→∀ {fuel:Nat} {cs:List Value} {x:DataW H×List MemPlace},DataW.trod enc P w base spare held fuel t cs=some x→Says w cs ks
 | 0,t,ks,h,fuel,cs,x,ht=>by rw [ckOK] at h;cases h
 | g+1,t,ks,h,fuel,cs,x,ht=>by
  unfold ckOK at h
  simp only [Bool.and_eq_true] at h
  obtain ⟨hc,h⟩:=h
  have hc':=Nat.eq_of_beq_eq_true hc
  clear hc
  split at h
  ·rename_i k k' hu
   have:=of_decide_eq_true h
   subst this
   obtain ⟨n,rfl,_,hw⟩:=DataW.trod_int hu ht
   exact .one .int (.int hw)
  ·rename_i hu
   obtain ⟨b,rfl,_⟩:=DataW.trod_bool hu ht
   exact .one .bool .bool
  ·rename_i hu
   obtain ⟨s,rfl,_,hs⟩:=DataW.trod_string hu ht
   exact .one .str (.str hs)
  ·rename_i e es hu
   simp only [Bool.and_eq_true] at h
   have h0:0<es.length:=Nat.le_of_ble_eq_true h.1
   rcases DataW.trod_slice hu ht with ⟨rfl,_⟩ | ⟨a,len,cap,elems,rest,n,_,rfl,_,hb,hl,hm,hlen,hel,_⟩
   ·exact .one (d:= .slf 0 fun _=>[]) (.slf .nil) (.slice (Nat.zero_le _) (fun i hi=>by omega) (fun i hi=>by omega))
   ·have hce:P.cellsOf e=es.length:=by
     cases g with
     | zero=>have h2:=h.2;rw [ckOK] at h2;cases h2
     | succ g=>
      have h2:=h.2
      unfold ckOK at h2
      simp only [Bool.and_eq_true] at h2
      exact Nat.eq_of_beq_eq_true h2.1
    refine rG (base:=base) h0 hl hm fun i hi=>?_
    have:=hel i hi
    rw [hce,List.getElem?_eq_getElem (by omega)] at this
    obtain ⟨cs',h1,h2⟩:=Option.bind_eq_some_iff.1 this
    exact ⟨cs',h1,lh g e es h.2 h2⟩
  ·rename_i fs hu
   obtain ⟨xs,n,_,_,hl,hlen,hf⟩:=DataW.trod_struct hu ht
   have:=lg (w:=w) (cs:=cs) fs.toList 0 h (fun f hfm hck=>by
    obtain ⟨i,hi⟩:=List.getElem?_of_mem hfm
    have hi':fs[i]? =some f:=by simpa using hi
    have h2:=hf i f hi'
    have hlt:i<xs.length:=by rw [hlen];exact (Array.getElem?_eq_some_iff.1 hi').1
    rw [List.getElem?_eq_getElem hlt] at h2
    exact lh g f.type _ hck h2) (by omega)
   simpa using this
  ·cases h
end
end LJ
