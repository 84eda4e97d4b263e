/- A logic for the walks: a builder's own address; bytes that become a text where they stand. -/
import Derived.Test.YtpnnkehkjfciiaaGreatDoorXSub
import Derived.Lib.Builder
import Derived.Lib.UnsafeStr
import Derived.Laws.Externs
import Derived.Shelf.Strings.Builder1
namespace LJ
open Go Go.RowKit
set_option linter.unusedVariables false
set_option linter.unusedSimpArgs false
section
variable {P:Program} {o:Oper} {E:Env} {m:Mem}
theorem Y.oeql {b:Bool} {x y:Operand} {T T':TypeId} {n off:Nat} (hx:opnd E x=some (.optp b n off)) (hy:opnd E y=some (.d .nilp)) (ho:o.op= .binOp .eql T x y T') (hT:P.underlying T=some (.pointer (P.pointee T))):LJ.aF P o E m (.d (.bool (!b))):=
 Y.data (u:= .bool (!b)) (fun _ _ _=> .d .bool) fun F N w a he w'=>by
  have h1:=((aA hx) F N w a he).optp_inv
  have h2:a.eval y= .pointer none:=((aA hy) F N w a he).d_inv.nilp_inv
  unfold execOp
  cases b <;> simp [ho,h1,h2,eqGuard,run_eql_pointer_nil w' T _ hT]
theorem lv (w:World) {T:TypeId} (ad:Addr) (h:P.underlying T=some (.pointer (P.pointee T))):(binOp .neq T (.pointer none) (.pointer (some ad))).run P w= .ok (.bool true) w:=by
 have h1:∀ d,(Op.equalIn (d+1) T (.pointer none) (.pointer (some ad))).run P w= .ok false w:=fun d=>by simp [Op.equalIn,run_underlying h]
 simp only [binOp]
 simp [Op.equal,Op.maxDepth,h1 9999]
theorem Y.oneq {b:Bool} {x y:Operand} {T T':TypeId} {n off:Nat} (hx:opnd E x=some (.optp b n off)) (hy:opnd E y=some (.ptr n off)) (ho:o.op= .binOp .neq T x y T') (hT:P.underlying T=some (.pointer (P.pointee T))) (hj:(P.info? (P.pointee T)).isSome=true):LJ.aF P o E m (.d (.bool (!b))):=
 Y.data (u:= .bool (!b)) (fun _ _ _=> .d .bool) fun F N w a he w'=>by
  obtain ⟨j,hj⟩:=Option.isSome_iff_exists.1 hj
  have h1:=((aA hx) F N w a he).optp_inv
  have h2:=((aA hy) F N w a he).ptr_inv
  unfold execOp
  cases b with
  | true=>simp [ho,h1,h2,eqGuard,Lib.run_neq_ptr_same w' _ hT hj]
  | false=>simp [ho,h1,h2,eqGuard,lv w' _ hT]
theorem Y.toUns (e:Nat) {x:Operand} {T U T' n:Nat} {cs:List AV} (hx:opnd E x=some (.ptr n 0)) (hn:m.get n=some (.box T' cs)) (hc:Nat.blt 0 cs.length=true) (ho:o.op= .convert T U x) (hT:P.underlying T=some (.pointer e)) (hU:P.underlying U=some .unsafePointer) (hj:(match P.info? e with | some j=> !(Nat.beq j.size 0) | none=>false)=true):LJ.aF P o E m (.ptr n 0):=fun c F N w a hm he=>by
 obtain ⟨j,hj,hs⟩:∃ j,P.info? e=some j∧Nat.beq j.size 0=false:=by
  cases h:P.info? e with
  | none=>rw [h] at hj;cases hj
  | some j=>rw [h] at hj;exact ⟨j,rfl,by simpa using hj⟩
 have h1:=((aA hx) F N w a he).ptr_inv
 refine ⟨_, .ptr,fun w' _ hw=>?_⟩
 obtain ⟨vs,g1,g2,g3⟩:=hm.obj n _ hn
 have hw':w'.heap[N.β n]? =w.heap[N.β n]? :=by
  first | exact hw _ (.inr ⟨n,_,hn,rfl⟩) | exact hw n _ _ hn rfl | exact hw _ ⟨n,_,hn,rfl⟩
 have:=Lib.run_to_unsafe w' ⟨N.β n,0,none⟩ hT hU hj (Nat.ne_of_beq_eq_false hs) (e:=T') (cells:=vs.length) (by simp [World.shape?,hw',g1]) (by rw [g2];exact Nat.le_of_ble_eq_true hc)
 unfold execOp
 simp [ho,h1,this]
theorem Y.fromUns (u:Nat) {x:Operand} {T U T' n:Nat} {cs:List AV} (hx:opnd E x=some (.ptr n 0)) (hn:m.get n=some (.box T' cs)) (ho:o.op= .convert U T x) (hU:P.underlying U=some .unsafePointer) (hT:P.underlying T=some (.pointer u)) (hj:(P.info? u).isSome=true) (hl:liesAt P P.depth T' (cs.length /P.cellsOf T') 0 u 1=true):LJ.aF P o E m (.optp true n 0):=fun c F N w a hm he=>by
 obtain ⟨j,hj⟩:=Option.isSome_iff_exists.1 hj
 have h1:=((aA hx) F N w a he).ptr_inv
 refine ⟨_, .optp,fun w' _ hw=>?_⟩
 obtain ⟨vs,g1,g2,g3⟩:=hm.obj n _ hn
 have hw':w'.heap[N.β n]? =w.heap[N.β n]? :=by
  first | exact hw _ (.inr ⟨n,_,hn,rfl⟩) | exact hw n _ _ hn rfl | exact hw _ ⟨n,_,hn,rfl⟩
 have:=Lib.run_from_unsafe (P:=P) w' ⟨N.β n,0,none⟩ hU hT hj (e:=T') (cells:=vs.length) (by simp [World.shape?,hw',g1]) (by rw [g2];exact hl)
 unfold execOp
 simp [ho,h1,this]
theorem Y.noEsc {x:Operand} {f:FuncId} {fn:Func} {ts:Array TypeId} {n off:Nat} (hx:opnd E x=some (.ptr n off)) (ho:o.op= .call {callee:= .value (.func f),args:=#[x],argTypes:=ts}) (hf:P.funcs[f]? =some fn) (hname:(fn.name== "runtime.NumGoroutine")=false) (hb:fn.body.isNone=true) (hn:Extern.findNext fn=none) (he:Extern.find fn=some Extern.AbiNoEscape.same):LJ.aF P o E m (.ptr n off):=fun c F N w a hm hE=>by
 have h1:=((aA hx) F N w a hE).ptr_inv
 refine ⟨_, .ptr,fun w' _ hw=>?_⟩
 have:=run_callFunc_extern hf hname hb hn he #[.pointer (some ⟨N.β n,off,none⟩)] w'
 rw [Lib.run_noEscape] at this
 unfold execOp
 have hρ:a.eval (.func f)= .func (.func f) #[] #[]:=rfl
 simp only [ho,resolve,hρ,Deferred.ofValue,invoke]
 simpa [h1] using this
end
theorem Rel.nilp {c:Ctx} {E:Env} {m:Mem} {a:Act} {w:World} {n i k:Nat} {T:TypeId} {cs:List AV} (hn:m.get n=some (.box T cs)) (hi:cs[i]? =some (.d .nilp)) (h:Rel c E m a w):Rel c E (m.set n (.box T (cs.set i (.optp false k 0)))) a w:=by
 obtain ⟨h1,h2,F,N,hm,he⟩:=h
 have get:∀ n' o,(m.set n (.box T (cs.set i (.optp false k 0)))).get n'=some o→∃ y,m.get n'=some y∧blk N n' y=blk N n' o∧(n'=n→o= .box T (cs.set i (.optp false k 0)))∧(n'≠n→y=o):=fun n' o ho=>by
  rw [Mem.get_set] at ho
  split at ho
  ·rename_i e
   subst e
   rw [hn] at ho
   simp only [Option.map_some,Option.some.injEq] at ho
   subst ho
   exact ⟨_,hn,rfl,fun _=>rfl,fun h=>absurd rfl h⟩
  ·rename_i e
   exact ⟨o,ho,rfl,fun h=>absurd h e,fun _=>rfl⟩
 refine ⟨h1,h2,F,N,⟨hm.F0,hm.Fnew,hm.Fin,hm.os,hm.tape,hm.output,hm.size,hm.kept,fun n' o ho=>?_,fun n' o b ho hb=>?_,fun n1 n2 o1 o2 b g1 g2 b1 b2=>?_,hm.named,hm.agree,fun n' o b ho hb=>?_,hm.ksize⟩,he⟩
 ·obtain ⟨y,hy,hb,e1,e2⟩:=get n' o ho
  by_cases e:n'=n
  ·subst e
   rw [e1 rfl]
   obtain ⟨vs,g1,g2,g3⟩:=hm.obj n' _ hn
   refine ⟨vs,g1,by rw [List.length_set];exact g2,fun j v p hv hp=>?_⟩
   rw [List.getElem?_set] at hp
   split at hp
   ·rename_i e
    subst e
    split at hp
    ·simp only [Option.some.injEq] at hp
     subst hp
     have:=(g3 i v _ hv hi).d_inv.nilp_inv
     rw [this]
     exact Rep.optp (b:=false)
    ·cases hp
   ·exact g3 j v p hv hp
  ·rw [←e2 e];exact hm.obj n' y hy
 ·obtain ⟨y,hy,hb',_⟩:=get n' o ho
  exact hm.free n' y b hy (hb'.trans hb)
 ·obtain ⟨y1,hy1,hb1,_⟩:=get n1 o1 g1
  obtain ⟨y2,hy2,hb2,_⟩:=get n2 o2 g2
  exact hm.apart n1 n2 y1 y2 b hy1 hy2 (hb1.trans b1) (hb2.trans b2)
 ·obtain ⟨y,hy,hb',_⟩:=get n' o ho
  exact hm.knames n' y b hy (hb'.trans hb)
def nilP (n i k:Nat) (m:Mem):Option Mem:=
 match m.get n with
 | some (.box T cs)=>match nth cs i with
  | some (.d .nilp)=>match eC (cs.set i (.optp false k 0)) with
   | some cs2=>eC (Mem.set n (.box T cs2) m)
   | none=>none
  | _=>none
 | _=>none
theorem wx {c:Ctx} {n i k:Nat} {E:Env} {m m1:Mem} (h:nilP n i k m=some m1) {a:Act} {w:World} (hr:Rel c E m a w):Rel c E m1 a w:=by
 unfold nilP at h
 split at h
 ·rename_i T cs hn
  split at h
  ·rename_i hi
   split at h
   ·rename_i cs2 h4
    rw [ep] at hi
    rw [bt h,bt h4]
    exact hr.nilp hn hi
   ·cases h
  ·cases h
 ·cases h
theorem WL.nilP {P:Program} {c:Ctx} {ops:Array Oper} {Q:Exit→Env→Mem→Prop} {l:List Oper} {E:Env} {m m1:Mem} (n i k:Nat) (h:LJ.nilP n i k m=some m1) (hk:WL c P ops Q l E m1):WL c P ops Q l E m:=fun a w hr=>hk a w (wx h hr)
section
variable {P:Program} {o:Oper} {E:Env} {m:Mem}
end
open Go.Shelf Go.Proofs in
set_option maxHeartbeats 1000000 in
set_option maxRecDepth 100000 in
theorem Spec.bldString {P:Program} {ρ:Ren} (L:Lays.n169 P ρ) (X:Builder.Extra P ρ) {u:Bool} {s:ByteArray} (hs:0<s.size):
  Spec P (ρ.f 169) [.ptr 0 0] [(0, .box (ρ.t 72) [.optp u 0 0, .own 1]),(1, .row (ρ.t 5) 1 (b8 s))] (.d (.str s)) []:=fun F N w vals hm hlen hr=>by
 match vals,hlen with
 | [v0],_=>
 have e0:=(hr 0 v0 (.ptr 0 0) rfl rfl).ptr_inv
 subst e0
 obtain ⟨vs,hb,hl2,hcs⟩:=hm.obj 0 _ rfl
 match vs,hl2 with
 | [p,v],_=>
 have ev:v=N.σ 1:=(hcs 1 v (.own 1) rfl rfl).own_inv
 subst ev
 obtain ⟨bs,hown,_,hbr⟩:=hm.obj 1 _ rfl
 rw [gB] at hown
 have hbs:bs=Lib.byteCells s.data.toList:=by
  have hl:bs.length=s.data.toList.length:=by have:=hown.1;simpa using this
  refine List.ext_getElem (by rw [hl,Lib.byteCells_length]) fun i h1 h2=>?_
  have hi:i<s.data.toList.length:=by omega
  have:=hbr i bs[i] (.int .u8 (s.data.toList[i].toNat:Int)) (List.getElem?_eq_getElem h1) (by rw [jD,List.getElem?_map,List.getElem?_eq_getElem hi];rfl)
  rw [this.int_inv]
  simp [Lib.byteCells]
 subst hbs
 have hsl:s.data.toList.length=s.size:=by simp
 have h0:s.data.toList≠[]:=fun h=>by rw [h] at hsl;simp at hsl;omega
 obtain ⟨g,cap,cur,hσ,_,hg,hnc,hcm,hcs2,htake⟩:∃ g cap cur,N.σ 1= .slice (some ⟨g,0,none⟩) s.size cap∧0≤g∧w.heap[g]? =some (.cells cur (ρ.t 5) (0,0))∧s.size≤cap∧cap≤maxLen∧cur.size=cap*1∧cur.toList.take (s.size*1)=Lib.byteCells s.data.toList:=by
  rcases hown.2 with ⟨_,hz⟩ | ⟨g,cap,cur,hv,r⟩
  ·omega
  ·exact ⟨g,cap,cur,hv,r⟩
 have hin:ik N [(0, .box (ρ.t 72) [.optp u 0 0, .own 1]),(1, .row (ρ.t 5) 1 (b8 s))] g:=⟨1,_,rfl,by simp [blk,hσ,Value.ownBlock]⟩
 have hF:¬F g:=hm.free 1 _ g rfl (by simp [blk,hσ,Value.ownBlock])
 have hheap:∀ k,k≠g→(w.drew.freeze ⟨g,0,none⟩ s.size).heap[k]? =w.heap[k]? :=fun k hk=>by
  unfold World.freeze
  split
  ·rfl
  ·simp only [Array.getElem?_modify]
   rw [if_neg (fun h=>hk h.symm)]
   rfl
 have hfs:∀ (W:World) n,(W.freeze ⟨g,0,none⟩ n).os=W.os∧(W.freeze ⟨g,0,none⟩ n).tape=W.tape∧(W.freeze ⟨g,0,none⟩ n).output=W.output∧(W.freeze ⟨g,0,none⟩ n).heap.size=W.heap.size:=fun W n=>by
  unfold World.freeze
  split
  ·exact ⟨rfl,rfl,rfl,rfl⟩
  ·exact ⟨rfl,rfl,rfl,by simp⟩
 have hdone:∃ v F' N',Done F N w [(0, .box (ρ.t 72) [.optp u 0 0, .own 1]),(1, .row (ρ.t 5) 1 (b8 s))] (.d (.str s)) [] (.returned (.string s)) (w.drew.freeze ⟨g,0,none⟩ s.size) v F' N':=by
  obtain ⟨f1,f2,f3,f4⟩:=hfs w.drew s.size
  refine ⟨.string s,F,N,⟨rfl, .d .str,⟨hm.glob.mono (fun _ h=>h) fun b hb=>hheap b (fun e=>hF (e ▸hb)),fun b hb=>by rw [f4];exact hm.Fin b hb,fun n o h=>(by cases h),fun n o b h=>(by cases h),fun n n' o o' b h=>(by cases h)⟩,fun _ h=>h,fun _ h=> .inl h,f1.trans rfl,f2.trans rfl,f3.trans rfl,by rw [f4];exact Nat.le_refl _,fun b _ hb=>hheap b (fun e=>hb (e ▸hin)),fun n o b h=>(by cases h),fun _ _ _ _=>rfl⟩⟩
 have c1:w.drew.cell? ⟨N.β 0,1,none⟩=some (.slice (some ⟨g,0,none⟩) s.size cap):=by
  have:w.drew.heap[N.β 0]? =some (.cells #[p, .slice (some ⟨g,0,none⟩) s.size cap] (ρ.t 72) (0,0)):=by rw [←hσ];exact hb
  rw [Lib.cell_of_heap this];rfl
 have hSD:(Builtin.unsafeSliceData_ #[(ρ.t 37)] (ρ.t 127) #[.slice (some ⟨g,0,none⟩) s.size cap]).run P w.drew= .ok (.pointer (some ⟨g,0,none⟩)) w.drew:=
  Lib.run_unsafeSliceData_row _ _ _ _ _ _ (by omega)
 have hUS:(Builtin.unsafeString_ #[(ρ.t 127),(ρ.t 3)] (ρ.t 9) #[.pointer (some ⟨g,0,none⟩), .int .i64 s.size]).run P w.drew= .ok (.string s) (w.drew.freeze ⟨g,0,none⟩ s.size):=by
  have:=Lib.run_unsafeString_row w.drew (ρ.t 127) (ρ.t 3) (ρ.t 9) (ρ.t 5) L.t127 X.cellsByte g cur.size (by have hg':w.drew.heap[g]? =some (.cells cur (ρ.t 5) (0,0)):=hg;simp [World.shape?,hg']) s.data.toList h0 (by rw [hsl];omega) (by unfold maxLen at hcm;rw [hsl];omega) (fun j x hx=>by
   have:=hown.cells (g:=g) (by rw [hσ];rfl) j (.int .u8 x.toNat) (by simp [Lib.byteCells,hx])
   exact this)
  rw [hsl] at this
  exact this
 have mixed:=L.mixed
 have t72:=L.t72;have a72:=L.a72;have z72:=L.z72;have v72:=L.v72;have u72:=run_underlying L.t72
 have t70:=L.t70;have a70:=L.a70;have z70:=L.z70;have v70:=L.v70;have u70:=run_underlying L.t70
 have t37:=L.t37;have a37:=L.a37;have z37:=L.z37;have v37:=L.v37;have u37:=run_underlying L.t37
 have t127:=L.t127;have a127:=L.a127;have z127:=L.z127;have v127:=L.v127;have u127:=run_underlying L.t127
 have t3:=L.t3;have a3:=L.a3;have z3:=L.z3;have v3:=L.v3;have u3:=run_underlying L.t3
 have t9:=L.t9;have a9:=L.a9;have z9:=L.z9;have v9:=L.v9;have u9:=run_underlying L.t9
 have t5:=X.t5;have a5:=X.a5;have z5:=X.z5;have v5:=X.v5;have u5:=run_underlying X.t5
 show Calls P (ρ.f 169) #[.pointer (some ⟨N.β 0,0,none⟩)] w _
 go_enter L.f169,Body.n169_ntmps ρ
 go_wp2
 go_region_o
 all_goals (go_wp2;go_ret;exact hdone)
end LJ
