/- A logic for the walks: memory read. -/
import Derived.Test.YtpnnkehkjfciiaaGreatDoorXOps
import Derived.Maps.AppendAt
import Derived.Lib.AppendStr
namespace LJ
open Go Go.RowKit
set_option linter.unusedVariables false
set_option linter.unusedSimpArgs false
def eg (P:Program) (S:TypeId) (f:Nat):Option Nat:=
 match P.underlying S with
 | some (.struct fs)=>match fs[f]? with
  | some fd=>match P.info? fd.type with
   | some i=>cond (Nat.beq i.size 0) none (some fd.offset)
   | none=>none
  | none=>none
 | _=>none
def oneB (P:Program) (T:TypeId):Bool:=
 match P.underlying T with
 | some (.struct _) | some (.array _ _) | none=>false
 | some _=>match P.info? T with
  | some i=>Nat.beq i.size 1
  | none=>false
def aggB (P:Program) (T:TypeId) (n:Nat):Bool:=
 match P.underlying T with
 | some (.struct _) | some (.array _ _)=>match P.info? T with
  | some i=>Nat.beq i.size n
  | none=>false
 | _=>false
def gp (P:Program) (T:TypeId):Option (TypeId×Nat):=
 match P.underlying T with
 | some (.slice e)=>match P.info? e with
  | some i=>some (e,i.size)
  | none=>none
 | _=>none
def w7 (P:Program) (T:TypeId):Option (Nat×TypeId×Nat):=
 match P.underlying T with
 | some (.array n e)=>match P.info? e with
  | some i=>some (n,e,i.size)
  | none=>none
 | _=>none
theorem ou {P:Program} {T:TypeId} (h:oneB P T=true):∃ d i,P.underlying T=some d∧(∀ fs,d≠ .struct fs)∧(∀ n e,d≠ .array n e)∧P.info? T=some i∧i.size=1:=by
 unfold oneB at h
 split at h
 ·cases h
 ·cases h
 ·cases h
 ·rename_i d h1 h2 h3
  split at h
  ·rename_i i hi
   exact ⟨d,i,h3,fun fs e=>h1 fs e,fun n e he=>h2 n e he,hi,Nat.eq_of_beq_eq_true h⟩
  ·cases h
theorem gv {P:Program} {T:TypeId} {n:Nat} (h:aggB P T n=true):∃ d i,P.underlying T=some d∧(match d with | .struct _ | .array _ _=>true | _=>false)=true∧P.info? T=some i∧i.size=n:=by
 unfold aggB at h
 split at h
 ·rename_i fs hT
  split at h
  ·rename_i i hi
   exact ⟨_,i,hT,rfl,hi,Nat.eq_of_beq_eq_true h⟩
  ·cases h
 ·rename_i k e hT
  split at h
  ·rename_i i hi
   exact ⟨_,i,hT,rfl,hi,Nat.eq_of_beq_eq_true h⟩
  ·cases h
 ·cases h
theorem bd {P:Program} {T e:TypeId} {sz:Nat} (h:gp P T=some (e,sz)):∃ i,P.underlying T=some (.slice e)∧P.info? e=some i∧i.size=sz:=by
 unfold gp at h
 split at h
 ·rename_i e' hT
  split at h
  ·rename_i i hi
   injection h with h
   injection h with h1 h2
   subst h1;subst h2
   exact ⟨i,hT,hi,rfl⟩
  ·cases h
 ·cases h
theorem ov {P:Program} {T:TypeId} (h:oneB P T=true) (w:World):(isAgg T).run P w= .ok false w:=by
 obtain ⟨d,i,h1,h2,h3,_,_⟩:=ou h
 unfold isAgg
 rw [Sem.run_bind,run_underlying h1 w]
 cases d <;> simp_all
theorem sv {P:Program} {T:TypeId} {n:Nat} (h:aggB P T n=true) (w:World):(isAgg T).run P w= .ok true w:=by
 obtain ⟨d,i,h1,h2,_,_⟩:=gv h
 unfold isAgg
 rw [Sem.run_bind,run_underlying h1 w]
 cases d <;> simp_all
theorem bM {P:Program} {T:TypeId} {i:TypeInfo} (h:P.info? T=some i) (w:World):(Go.sizeOf T).run P w= .ok i.size w:=by
 simp [Go.sizeOf,typeInfo,h]
theorem il {P:Program} {S:TypeId} {f fo:Nat} (h:eg P S f=some fo) (a:Addr) (w:World):(Instr.fieldAt S (.pointer (some a)) f).run P w= .ok (.pointer (some (a.add fo))) w:=by
 unfold eg at h
 split at h
 ·rename_i fs hS
  split at h
  ·rename_i fd hfd
   split at h
   ·rename_i i hi
    cases hz:Nat.beq i.size 0 with
    | true=>rw [hz] at h;cases h
    | false=>
     rw [hz] at h
     simp only [cond_false,Option.some.injEq] at h
     subst h
     have hne:i.size≠0:=Nat.ne_of_beq_eq_false hz
     simp [Instr.fieldAt,run_underlying hS,hfd,Instr.sureAddr,fieldPlace,bM hi,hne]
   ·cases h
  ·cases h
 ·cases h
theorem dI {P:Program} {T:TypeId} (h:oneB P T=true) {a:Addr} {w:World} {v:Value} (hv:w.cell? a=some v):(loadVar T a).run P w= .ok v w:=by
 simp [loadVar,ov h,run_load,hv]
theorem gy {P:Program} {T:TypeId} {n:Nat} (h:aggB P T n=true) {a:Addr} {w:World} (vs:List Value) (hl:vs.length=n) (hv:∀ j v,vs[j]? =some v→w.cell? (a.add j)=some v):(loadVar T a).run P w= .ok (.agg vs.toArray) w:=by
 obtain ⟨d,i,_,_,hi,hs⟩:=gv h
 have:=run_loadCells_list (P:=P) w a vs hv
 rw [hl] at this
 simp [loadVar,sv h,bM hi,hs,this]
theorem eh {a:Addr} (h:a.spot=none) (n:Nat):a.add n=⟨a.block,a.off+n,none⟩:=by
 unfold Addr.add
 split
 ·rename_i h0
  subst h0
  cases a
  simp_all
 ·rfl
section
variable {P:Program} {o:Oper} {E:Env} {m:Mem}
theorem db.cell {F:Nat→Prop} {N:aI} {w:World} {n:Nat} {T:TypeId} {cs:List AV} (h:db F N w n (.box T cs)) {i:Nat} {p:AV} (hi:cs[i]? =some p):∃ v,w.cell? ⟨N.β n,i,none⟩=some v∧Rep F N w v p:=by
 obtain ⟨vs,h1,h2,h3⟩:=h
 have hlt:i<cs.length:=(List.getElem?_eq_some_iff.1 hi).1
 have hv:vs[i]? =some vs[i]:=List.getElem?_eq_getElem (by omega)
 refine ⟨vs[i],?_,h3 i _ p hv hi⟩
 simp [World.cell?,h1,hv]
theorem qI {N:aI} {w w':World} {n:Nat} {T:TypeId} {cs:List AV} (hn:m.get n=some (.box T cs)) (hw:∀ n x b,m.get n=some x→blk N n x=some b→w'.heap[b]? =w.heap[b]?) (i:Nat):w'.cell? ⟨N.β n,i,none⟩=w.cell? ⟨N.β n,i,none⟩:=
 cn (hw n _ _ hn rfl)
section
variable {x y:Operand} {n off fo f:Nat} {S T T':TypeId} {cs:List AV} {p:AV}
theorem Y.fieldAddr (hx:IsOp E x (.ptr n off)) (ho:o.op= .fieldAddr S x f) (hf:eg P S f=some fo):aF P o E m (.ptr n (off+fo)):=fun c F N w a hm he=>
 ⟨_, .ptr,fun w' _ _=>by unfold execOp;simp [ho,hx.ptr_eval he,il hf,Addr.add_lit]⟩
theorem Y.fieldAddr_el {ds:List DV} (hx:IsOp E x (.d (.elp ds))) (ho:o.op= .fieldAddr S x f) (hf:eg P S f=some fo):aF P o E m (.d (.elp (ds.drop fo))):=fun c F N w a hm he=>by
 obtain ⟨ad,u,hv,hs,hF,h1,h2⟩:=(hx F N w a he).d_inv.elp_inv
 refine ⟨.pointer (some (ad.add fo)), .d (.elp (fun j=>u (fo+j)) (by rw [eh hs]) (by rw [eh hs];exact hF) (fun j d hj=>?_) (fun j d hj=>?_)),fun w' _ _=>by unfold execOp;simp [ho,hv,il hf]⟩
 ·rw [List.getElem?_drop] at hj
  rw [eh hs]
  simpa [Nat.add_assoc] using h1 (fo+j) d hj
 ·rw [List.getElem?_drop] at hj
  exact h2 (fo+j) d hj
theorem Y.load (hx:IsOp E x (.ptr n off)) (hn:m.get n=some (.box T' cs)) (hc:cs[off]? =some p) (ho:o.op= .load T x) (hT:oneB P T=true):aF P o E m p:=fun c F N w a hm he=>by
 obtain ⟨v,hv,hr⟩:=(hm.obj n _ hn).cell hc
 refine ⟨v,hr,fun w' _ hw=>?_⟩
 have hv':w'.cell? ⟨N.β n,off,none⟩=some v:=(qI hn hw off).trans hv
 unfold execOp;simp [ho,hx.ptr_eval he,Instr.loadAt,Instr.sureAddr,dI hT hv']
theorem Y.load_agg {k:Nat} {ds:List DV} (hx:IsOp E x (.ptr n off)) (hn:m.get n=some (.box T' cs)) (hc:(cs.drop off).take k=ds.map AV.d) (hk:ds.length=k) (ho:o.op= .load T x) (hT:aggB P T k=true):aF P o E m (.d (.agg ds)):=fun c F N w a hm he=>by
 obtain ⟨vs,h1,h2,h3⟩:=hm.obj n _ hn
 have hget:∀ (i:Nat) (d:DV),ds[i]? =some d→cs[off+i]? =some (.d d)∧i<k:=by
  intro i d hi
  have h4:(ds.map AV.d)[i]? =some (.d d):=by rw [List.getElem?_map,hi];rfl
  rw [←hc,List.getElem?_take] at h4
  split at h4
  ·rename_i hlt
   rw [List.getElem?_drop] at h4
   exact ⟨h4,hlt⟩
  ·cases h4
 have hlen:k≤vs.length - off∨k=0:=by
  cases k with
  | zero=>exact .inr rfl
  | succ k=>
   have hl:k<ds.length:=by omega
   have:=(hget k ds[k] (List.getElem?_eq_getElem hl)).1
   have:=(List.getElem?_eq_some_iff.1 this).1
   omega
 let us:=(vs.drop off).take k
 have hul:us.length=k:=by simp only [us,List.length_take,List.length_drop];omega
 refine ⟨.agg us.toArray, .d (.agg (by rw [hul,hk]) (fun i v d hv hd=>?_)),fun w' _ hw=>?_⟩
 ·obtain ⟨g1,g2⟩:=hget i d hd
  have g3:vs[off+i]? =some v:=by
   simp only [us] at hv
   rw [List.getElem?_take,if_pos g2,List.getElem?_drop] at hv
   exact hv
  exact (h3 _ v _ g3 g1).d_inv
 ·have hrun:=gy (P:=P) hT (a:=⟨N.β n,off,none⟩) (w:=w') us hul (fun j v hj=>by
   rw [Addr.add_lit,qI hn hw (off+j)]
   simp only [us] at hj
   rw [List.getElem?_take] at hj
   split at hj
   ·rw [List.getElem?_drop] at hj
    simp [World.cell?,h1,hj]
   ·cases hj)
  unfold execOp;simp [ho,hx.ptr_eval he,Instr.loadAt,Instr.sureAddr,hrun]
theorem Y.load_el {ds:List DV} {d:DV} (hx:IsOp E x (.d (.elp ds))) (hc:ds[0]? =some d) (ho:o.op= .load T x) (hT:oneB P T=true):aF P o E m (.d d):=fun c F N w a hm he=>by
 obtain ⟨ad,u,hv,hs,hF,h1,h2⟩:=(hx F N w a he).d_inv.elp_inv
 refine ⟨u 0, .d (h2 0 d hc),fun w' hw _=>?_⟩
 have hv':w'.cell? ad=some (u 0):=by
  have:=h1 0 d hc
  have e:ad=⟨ad.block,ad.off+0,none⟩:=by cases ad;simp_all
  rw [e]
  exact (cn (hw _ hF)).trans this
 unfold execOp;simp [ho,hv,Instr.loadAt,Instr.sureAddr,dI hT hv']
theorem Y.load_el_agg {ds es:List DV} {k:Nat} (hx:IsOp E x (.d (.elp ds))) (hc:ds.take k=es) (hk:es.length=k) (ho:o.op= .load T x) (hT:aggB P T k=true):aF P o E m (.d (.agg es)):=fun c F N w a hm he=>by
 obtain ⟨ad,u,hv,hs,hF,h1,h2⟩:=(hx F N w a he).d_inv.elp_inv
 have hget:∀ (i:Nat) (d:DV),es[i]? =some d→ds[i]? =some d:=by
  intro i d hi
  rw [←hc,List.getElem?_take] at hi
  split at hi
  ·exact hi
  ·cases hi
 refine ⟨.agg ((List.range k).map u).toArray, .d (.agg (by simp [hk]) (fun i v d hv hd=>?_)),fun w' hw _=>?_⟩
 ·rw [List.getElem?_map] at hv
  obtain ⟨j,hj,rfl⟩:=Option.map_eq_some_iff.1 hv
  have:j=i:=by
   have:=(List.getElem?_eq_some_iff.1 hj)
   obtain ⟨h3,h4⟩:=this
   simp at h4
   exact h4.symm
  subst this
  exact h2 j d (hget j d hd)
 ·have hrun:=gy (P:=P) hT (a:=ad) (w:=w') ((List.range k).map u) (by simp) (fun j v hj=>by
   rw [List.getElem?_map] at hj
   obtain ⟨i,hi,rfl⟩:=Option.map_eq_some_iff.1 hj
   obtain ⟨h3,h4⟩:=List.getElem?_eq_some_iff.1 hi
   simp at h3 h4
   subst h4
   have hlt:j<es.length:=by omega
   rw [eh hs]
   exact (cn (hw _ hF)).trans (h1 j _ (hget j es[j] (List.getElem?_eq_getElem hlt))))
  unfold execOp;simp [ho,hv,Instr.loadAt,Instr.sureAddr,hrun]
theorem Y.field {ds:List DV} {d:DV} (hx:IsOp E x (.d (.agg ds))) (hc:ds[fo]? =some d) (ho:o.op= .field S x f) (hf:eg P S f=some fo) (hT:(match P.underlying S with | some (.struct fs)=>(fs[f]?).map (fun fd=>oneB P fd.type) | _=>none)=some true):aF P o E m (.d d):=fun c F N w a hm he=>by
 obtain ⟨vs,hv,hl,hr⟩:=(hx F N w a he).d_inv.agg_inv
 have hlt:fo<ds.length:=(List.getElem?_eq_some_iff.1 hc).1
 have hvs:vs[fo]? =some vs[fo]:=List.getElem?_eq_getElem (by omega)
 refine ⟨vs[fo], .d (hr fo _ d hvs hc),fun w' _ _=>?_⟩
 unfold eg at hf
 split at hf
 ·rename_i fs hS
  rw [hS] at hT
  simp only [] at hT
  obtain ⟨fd,hfd,hone⟩:=Option.map_eq_some_iff.1 hT
  rw [hfd] at hf
  simp only [] at hf
  split at hf
  ·rename_i i hi
   cases hz:Nat.beq i.size 0 with
   | true=>rw [hz] at hf;cases hf
   | false=>
    rw [hz] at hf
    simp only [cond_false,Option.some.injEq] at hf
    subst hf
    unfold execOp;simp [ho,hv,Instr.field,run_underlying hS,hfd,asAgg,part,ov hone,hvs]
  ·cases hf
 ·cases hf
end
section
variable {x y:Operand} {n:Nat} {k:IntKind} {i:Int} {es:List (List DV)} {T e:TypeId} {sz:Nat}
theorem Y.len (hx:IsOp E x (.d (.sl es))) (ho:o.op= .call {callee:= .builtin .len,args:=#[x],argTypes:=#[T]}) (hT:gp P T=some (e,sz)):aF P o E m (.d (.int .i64 es.length)):=
 Y.data (u:= .int .i64 es.length) (fun _ _ _=> .d .int) fun F N w a he w'=>by
  obtain ⟨ti,h1,_,_⟩:=bd hT
  obtain ⟨ad,cp,hv⟩:=(hx F N w a he).d_inv.sl_inv
  unfold execOp;simp [ho,hv,resolve,invoke,builtin,Builtin.len_,run_underlying h1,goInt]
theorem Y.len_nils (hx:IsOp E x (.d .nils)) (ho:o.op= .call {callee:= .builtin .len,args:=#[x],argTypes:=#[T]}) (hT:gp P T=some (e,sz)):aF P o E m (.d (.int .i64 0)):=
 Y.data (u:= .int .i64 0) (fun _ _ _=> .d .int) fun F N w a he w'=>by
  obtain ⟨ti,h1,_,_⟩:=bd hT
  unfold execOp;simp [ho,(hx F N w a he).d_inv.nils_inv,resolve,invoke,builtin,Builtin.len_,run_underlying h1,goInt]
theorem fN {w:World} {b E' sz n:Nat} {v:Value} {vs:List Value} (h:w.ownsRow b E' sz v n vs):∃ a c,v= .slice a n c:=by
 rcases h.2 with ⟨rfl,rfl⟩ | ⟨g,cap,cur,rfl,_⟩
 ·exact ⟨_,_,rfl⟩
 ·exact ⟨_,_,rfl⟩
theorem Y.len_own {E':TypeId} {sz':Nat} (hx:IsOp E x (.own n)) (hn:m.get n=some (.row E' sz' es)) (ho:o.op= .call {callee:= .builtin .len,args:=#[x],argTypes:=#[T]}) (hT:gp P T=some (e,sz)):aF P o E m (.d (.int .i64 es.length)):=fun c F N w a hm he=>by
 obtain ⟨ti,h1,_,_⟩:=bd hT
 obtain ⟨vs,h2,_⟩:=hm.obj n _ hn
 obtain ⟨ad,cp,hv⟩:=fN h2
 refine ⟨.int .i64 es.length, .d .int,fun w' _ _=>?_⟩
 unfold execOp;simp [ho,hx.own_eval he,hv,resolve,invoke,builtin,Builtin.len_,run_underlying h1,goInt]
theorem Y.len_rowl {E':TypeId} {sz' k':Nat} {c':Option Nat} (hx:IsOp E x (.own n)) (hn:m.get n=some (.rowl E' sz' k' c' es)) (ho:o.op= .call {callee:= .builtin .len,args:=#[x],argTypes:=#[T]}) (hT:gp P T=some (e,sz)):aF P o E m (.d (.int .i64 es.length)):=fun c F N w a hm he=>by
 obtain ⟨ti,h1,_,_⟩:=bd hT
 obtain ⟨vs,h2,_⟩:=hm.obj n _ hn
 obtain ⟨ad,cp,hv⟩:=fN h2
 refine ⟨.int .i64 es.length, .d .int,fun w' _ _=>?_⟩
 unfold execOp;simp [ho,hx.own_eval he,hv,resolve,invoke,builtin,Builtin.len_,run_underlying h1,goInt]
theorem Y.len_que {E':TypeId} {sz':Nat} (hx:IsOp E x (.own n)) (hn:m.get n=some (.que E' sz' es)) (ho:o.op= .call {callee:= .builtin .len,args:=#[x],argTypes:=#[T]}) (hT:gp P T=some (e,sz)):aF P o E m (.d (.int .i64 es.length)):=fun c F N w a hm he=>by
 obtain ⟨ti,h1,_,_⟩:=bd hT
 obtain ⟨vs,⟨_,g,ofs,cap,cur,hv,_⟩,_⟩:=hm.obj n _ hn
 refine ⟨.int .i64 es.length, .d .int,fun w' _ _=>?_⟩
 unfold execOp;simp [ho,hx.own_eval he,hv,resolve,invoke,builtin,Builtin.len_,run_underlying h1,goInt]
theorem Y.indexAddr {el:List DV} (hx:IsOp E x (.d (.sl es))) (hy:IsOp E y (.d (.int k i))) (ho:o.op= .indexAddr T x y) (hT:gp P T=some (e,sz)) (h0:0≤i) (hi:es[i.toNat]? =some el) (hz:el.length=sz):aF P o E m (.d (.elp el)):=fun c F N w a hm he=>by
 obtain ⟨ti,h1,h2,h3⟩:=bd hT
 have hr:=(hx F N w a he).d_inv
 have hy':=hy.int_eval he
 have hlt:i.toNat<es.length:=(List.getElem?_eq_some_iff.1 hi).1
 generalize hv:a.eval x=v at hr
 cases hr with
 | nil=>simp at hlt
 | @sl ad n' c' sz' _ u hn h0' hc hs hF hzz hmm hh=>
  have hz':sz'=sz:=by rw [←hz,hzz _ _ hi]
  subst hz'
  refine ⟨.pointer (some (ad.add (i.toNat*sz'))), .d (.elp (u i.toNat) (by rw [eh hs]) (by rw [eh hs];exact hF) (fun j d hj=>?_) (fun j d hj=>hh _ j el d hi hj)),fun w' _ _=>?_⟩
  ·rw [eh hs]
   simpa [Nat.add_assoc] using hmm _ j el d hi hj
  ·have hb:0≤i∧i<(n':Int):=by omega
   unfold execOp;simp [ho,hv,hy',Instr.indexAt,run_underlying h1,asIntOf,hb,bM h2,h3]
theorem Y.indexAddr_own {E':TypeId} {sz':Nat} (hx:IsOp E x (.own n)) (hn:m.get n=some (.row E' sz' es)) (hy:IsOp E y (.d (.int k i))) (ho:o.op= .indexAddr T x y) (hT:gp P T=some (e,sz)) (h0:0≤i) (h1:i<es.length):aF P o E m (.rel n (i.toNat*sz)):=fun c F N w a hm he=>by
 obtain ⟨ti,g1,g2,g3⟩:=bd hT
 obtain ⟨vs,⟨_,h2⟩,_⟩:=hm.obj n _ hn
 have hy':=hy.int_eval he
 rcases h2 with ⟨_,h2⟩ | ⟨g,cap,cur,h2,_,h4,h5,_⟩
 ·omega
 ·refine ⟨.pointer (some ⟨g,i.toNat*sz,none⟩), .rel h2,fun w' _ _=>?_⟩
  unfold execOp;simp [ho,hx.own_eval he,h2,hy',Instr.indexAt,run_underlying g1,asIntOf,h0,h1,bM g2,g3,Addr.add_lit]
theorem dw:∀ (es:List (List DV)) (sz i j:Nat) (el:List DV) (d:DV),(∀ e∈es,e.length=sz)→es[i]? =some el→el[j]? =some d→es.flatten[i*sz+j]? =some d
 | [],sz,i,j,el,d,hz,hi,hj=>by simp at hi
 | e::es,sz,i,j,el,d,hz,hi,hj=>by
  have he:e.length=sz:=hz e (List.mem_cons_self ..)
  rw [List.flatten_cons]
  cases i with
  | zero=>
   simp only [List.getElem?_cons_zero,Option.some.injEq] at hi
   subst hi
   rw [List.getElem?_append_left (by have:=(List.getElem?_eq_some_iff.1 hj).1;omega)]
   simpa using hj
  | succ i=>
   simp only [List.getElem?_cons_succ] at hi
   rw [List.getElem?_append_right (by rw [he,Nat.succ_mul];omega),he,show (i+1)*sz+j - sz=i*sz+j by rw [Nat.succ_mul];omega]
   exact dw es sz i j el d (fun e h=>hz e (List.mem_cons_of_mem _ h)) hi hj
theorem bE:∀ (es:List (List DV)) (sz:Nat),(∀ e∈es,e.length=sz)→es.flatten.length=es.length*sz
 | [],sz,hz=>by simp
 | e::es,sz,hz=>by
  rw [List.flatten_cons,List.length_append,bE es sz (fun e h=>hz e (List.mem_cons_of_mem _ h)),hz e (List.mem_cons_self ..),List.length_cons,Nat.succ_mul]
  omega
theorem db.row_cell {F:Nat→Prop} {N:aI} {w:World} {E':TypeId} {sz' g l c' off:Nat} (h:db F N w n (.row E' sz' es)) (hg:N.σ n= .slice (some ⟨g,0,none⟩) l c') {d:DV} (hd:es.flatten[off]? =some d):∃ v,w.cell? ⟨g,off,none⟩=some v∧RepD F w v d:=by
 obtain ⟨vs,⟨hl,h2⟩,hz,hr⟩:=h
 rcases h2 with ⟨h2,_⟩ | ⟨g',cap,cur,h2,_,h4,h5,h6,h7,h8⟩
 ·rw [hg] at h2;cases h2
 ·rw [hg] at h2
  injection h2 with h2 _ _
  injection h2 with h2
  injection h2 with h2 _ _
  subst h2
  have hlt:off<es.flatten.length:=(List.getElem?_eq_some_iff.1 hd).1
  rw [bE es sz' hz] at hlt
  obtain ⟨v,hv⟩:∃ v,vs[off]? =some v:=⟨vs[off],List.getElem?_eq_getElem (by omega)⟩
  refine ⟨v,?_,hr off _ d hv hd⟩
  rw [←h8,List.getElem?_take,if_pos (by omega)] at hv
  simp [World.cell?,h4]
  simpa using hv
theorem uG {N:aI} {w w':World} {E':TypeId} {sz' g l c':Nat} (hn:m.get n=some (.row E' sz' es)) (hg:N.σ n= .slice (some ⟨g,0,none⟩) l c') (hw:∀ n x b,m.get n=some x→blk N n x=some b→w'.heap[b]? =w.heap[b]?) (i:Nat):w'.cell? ⟨g,i,none⟩=w.cell? ⟨g,i,none⟩:=
 cn (hw n _ _ hn (by show (N.σ n).ownBlock=some g;rw [hg];rfl))
end
end
end LJ
