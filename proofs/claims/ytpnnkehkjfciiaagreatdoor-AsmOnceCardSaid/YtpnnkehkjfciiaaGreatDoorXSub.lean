/- A logic for the walks: parts of arrays as slices. -/
import Derived.Test.YtpnnkehkjfciiaaGreatDoorXArr
namespace LJ
open Go Go.RowKit
set_option linter.unusedVariables false
set_option linter.unusedSimpArgs false
section
variable {P:Program} {c:Ctx} {o:Oper} {E E':Env} {m m':Mem} {ops:Array Oper} {Q:Exit→Env→Mem→Prop} {l:List Oper}
theorem oS {T:TypeId} {M:Nat} (hT:arrB P T M=true) (a:Addr) (lo hi:Option Value) (i j:Int) (hl:(lo=none∧i=0)∨∃ k,lo=some (.int k i)) (hh:(hi=none∧j=M)∨∃ k,hi=some (.int k j)) (hb:0≤i∧i≤j∧j≤(M:Int)) (w:World):
  (Instr.sliceAt T (.pointer (some a)) lo hi none).run P w= .ok (.slice (some (if M=i.toNat then a else a.add i.toNat)) (j - i).toNat (M - i.toNat)) w:=by
 obtain ⟨e,inf,h1,h2,h3,h4⟩:=pY hT
 have eM:P.arrayLen T=M:=by simp [Program.arrayLen,h1]
 have eE:P.elem T=e:=by simp [Program.elem,h1]
 have hT':P.underlying T=some (.array (P.arrayLen T) (P.elem T)):=by rw [eM,eE];exact h1
 have hs:∀ w:World,(Go.sizeOf (P.elem T)).run P w= .ok 1 w:=fun w=>by rw [eE];simp [Go.sizeOf,typeInfo,h3,h4]
 have hj:j.toNat - i.toNat=(j - i).toNat:=by omega
 have e0:(0:Nat)=(0:Int).toNat:=rfl
 rcases hl with ⟨rfl,rfl⟩ | ⟨k,rfl⟩
 ·rcases hh with ⟨rfl,rfl⟩ | ⟨k',rfl⟩
  ·rw [run_sliceAt_array_all w T a hT',hs]
   simp only [Result.andThen,slicedAt,eM,Nat.zero_mul,e0]
   congr 2
  ·rw [run_sliceAt_array_h w T a hT' k' j hb.2.1 (by rw [eM];exact hb.2.2),hs]
   simp only [Result.andThen,slicedAt,eM,Nat.zero_mul,e0]
   congr 2
 ·rcases hh with ⟨rfl,rfl⟩ | ⟨k',rfl⟩
  ·rw [run_sliceAt_array_l w T a hT' k i hb.1 (by rw [eM];omega),hs]
   simp only [Result.andThen,slicedAt,eM,Nat.mul_one]
   congr 2
  ·rw [run_sliceAt_array_lh w T a hT' k k' i j hb.1 hb.2.1 (by rw [eM];exact hb.2.2),hs]
   simp only [Result.andThen,slicedAt,eM,Nat.mul_one]
   congr 2
def wv (E:Env) (x:Option Operand) (dflt:Int) (i:Int):Prop:=
 match x with
 | none=>i=dflt
 | some y=>∃ k,opnd E y=some (.d (.int k i))
theorem qW {x:Option Operand} {dflt i:Int} (h:wv E x dflt i) {F:Nat→Prop} {N:aI} {w:World} {a:Act} (he:cg F N w a E):(x.map a.eval=none∧i=dflt)∨∃ k,x.map a.eval=some (.int k i):=by
 cases x with
 | none=>exact .inl ⟨rfl,h⟩
 | some y=>
  obtain ⟨k,hy⟩:=h
  exact .inr ⟨k,by rw [Option.map_some,(aA hy).int_eval he]⟩
theorem Y.slicePsl (M:Nat) (i j:Int) {lo hi:Option Operand} {x:Operand} {T n off:Nat} (hT:arrB P T M=true) (hx:opnd E x=some (.ptr n off)) (ho:o.op= .slice T x lo hi none) (hl:wv E lo 0 i) (hh:wv E hi M j) (hb:0≤i∧i≤j∧j≤(M:Int)):
  LJ.aF P o E m (.psl n (off+i.toNat) (j - i).toNat (M - i.toNat)):=fun c F N w a hm he=>by
 refine ⟨.slice (some ⟨N.β n,if M=i.toNat then off else off+i.toNat,none⟩) (j - i).toNat (M - i.toNat), .psl (fun h=>by rw [if_neg (by omega)]),fun w' _ _=>?_⟩
 have:=oS (P:=P) hT ⟨N.β n,off,none⟩ (lo.map a.eval) (hi.map a.eval) i j (qW hl he) (qW hh he) hb w'
 unfold execOp
 simp only [ho,(aA hx).ptr_eval he]
 simp [this]
 split <;> simp [Addr.add]
theorem Y.lenPsl {x:Operand} {T e sz n off len cap:Nat} {tt:List (Nat×TK)} (htt:ttOK P tt=true) (hT:cq tt T=some (.slice e sz)) (hx:opnd E x=some (.psl n off len cap)) (ho:o.op= .call {callee:= .builtin .len,args:=#[x],argTypes:=#[T]}):LJ.aF P o E m (.d (.int .i64 (len:Int))):=fun c F N w a hm he=>by
 have hr:=(aA hx) F N w a he
 generalize hv:a.eval x=v at hr
 obtain ⟨i',hT1,_,_⟩:=bd (TK.slice_ok (aR htt hT))
 cases hr with
 | psl h=>exact ⟨_, .d .int,fun w' _ _=>by unfold execOp;simp [ho,hv,resolve,invoke,builtin,Builtin.len_,run_underlying hT1,goInt]⟩
theorem Y.idxPsl (lo i:Int) (off:Nat) {x y:Operand} {k:IntKind} {T e n len cap:Nat} {tt:List (Nat×TK)} (htt:ttOK P tt=true) (hT:cq tt T=some (.slice e 1)) (hx:opnd E x=some (.psl n (off+lo.toNat) len cap)) (hy:opnd E y=some (.d (.int k i))) (ho:o.op= .indexAddr T x y) (h0:0≤lo) (hi:0≤i∧i<(len:Int)):LJ.aF P o E m (.ptr n (off+(lo+i).toNat)):=fun c F N w a hm he=>by
 have hr:=(aA hx) F N w a he
 generalize hv:a.eval x=v at hr
 obtain ⟨ti,hT1,hti,hts⟩:=bd (TK.slice_ok (aR htt hT))
 cases hr with
 | psl h=>
  rename_i o'
  have:=h (by omega)
  subst this
  refine ⟨.pointer (some ⟨N.β n,off+(lo+i).toNat,none⟩), .ptr,fun w' _ _=>?_⟩
  unfold execOp
  have e1:off+lo.toNat+i.toNat=off+(lo+i).toNat:=by omega
  simp [ho,hv,(aA hy).int_eval he,Instr.indexAt,asIntOf,run_underlying hT1,Instr.sureAddr,hi,bM hti,hts,Addr.add_lit,e1]
def nI (T:TypeId) (zs:List DV) (P0 KN:List Nat) (n d:Nat) (E:Env) (m:Mem):Option (Env×Mem):=
 match okN P0 KN n with
 | false=>none
 | true=>match pN zs,fgtE [n] E,fgtM [n] m with
  | some cs,some E',some m'=>some ((d, .ptr n 0)::E',(n, .box T cs)::m')
  | _,_,_=>none
theorem mM {n d:Nat} {T:TypeId} {zs:List DV} (ho:o.op= .alloc T) (hz:iP P T=some zs) (hd:o.dst=some d) (h:nI T zs c.P0 c.KN n d E m=some (E',m')) (hlt:Nat.blt d c.ntmps=true):WO c P o E m E' m':=by
 unfold nI at h
 split at h
 ·cases h
 ·rename_i hn
  obtain ⟨k1,k2⟩:=gq hn
  split at h
  ·rename_i cs E1 m1 h1 h2 h3
   simp only [Option.some.injEq,Prod.mk.injEq] at h
   obtain ⟨rfl,rfl⟩:=h
   rw [kJ h1,dd h2,de h3]
   exact WO.alloc n hz ho k1 k2 hd hlt
  ·cases h
theorem WL.allocZ (n:Nat) (zs:List DV) {d:Nat} {T:TypeId} (ho:o.op= .alloc T) (hz:iP P T=some zs) (hd:o.dst=some d) (h:nI T zs c.P0 c.KN n d E m=some (E',m')) (hg:o.guard=none) (hlt:Nat.blt d c.ntmps=true) (hk:WL c P ops Q l E' m'):WL c P ops Q (o::l) E m:=
 WL.step (mM ho hz hd h hlt) hg hk
theorem WH.allocZ {tp:Bool} {c0:Ctx} {s:Stay} {EK EK2 E2:Env} {i:Nat} {sch:Sch} (n:Nat) (zs:List DV) {d:Nat} {T:TypeId} (hi:nth ops.toList i=some o) (ho:o.op= .alloc T) (hz:iP P T=some zs) (hd:o.dst=some d) (h:nI T zs c.P0 c.KN n d (EK++E) m=some (E',m')) (hg:o.guard=none) (hlt:Nat.blt d c.ntmps=true) (hf:fR c.P0 EK=true) (h2:ft o.dst E' EK E=some (EK2,E2)) (hk:WH true c0 c s P ops Q sch EK2 E2 m'):WH tp c0 c s P ops Q (.one i false sch) EK E m:=
 WH.step hi (mM ho hz hd h hlt) hg hf h2 hk
theorem tg {T:TypeId} {M:Nat} (hT:arrB P T M=true):dV P T=(fun i=>some (i*1,1))∧iq P T=true:=by
 obtain ⟨e,inf,h1,h2,h3,h4⟩:=pY hT
 refine ⟨?_,?_⟩
 ·funext i
  unfold dV
  rw [h1]
  simp [h3,h4]
 ·unfold iq
  rw [h1]
  simp [h3]
theorem Y.buildArr (M:Nat) (zs ds:List DV) {T:TypeId} {ps:List (Nat×Operand)} {qs:List (Nat×DV)} (hT:arrB P T M=true) (hz:iP P T=some zs) (hx:la E ps=some qs) (ho:o.op= .build T ps.toArray) (hf:jC (fun i=>some (i*1,1)) zs qs=some ds):LJ.aF P o E m (.d (.agg ds)):=by
 obtain ⟨h1,h2⟩:=tg hT
 exact LJ.Y.build (iX hx) ho hz h2 (by rw [h1];exact hf)
end
end LJ
