/- A logic for the walks: the operations that give a value and change nothing. -/
import Derived.Test.YtpnnkehkjfciiaaGreatDoorXCall
import Derived.Laws.IdiomCopy
import Derived.WalkSpells
import Derived.Lib.ConvBytes
namespace LJ
open Go Go.RowKit
set_option linter.unusedVariables false
set_option linter.unusedSimpArgs false
section
variable {P:Program} {o:Oper} {E:Env} {m:Mem}
theorem IsOp.int_eval {x:Operand} {k:IntKind} {n:Int} (hx:IsOp E x (.d (.int k n))) {F:Nat→Prop} {N:aI} {w:World} {a:Act} (he:cg F N w a E):a.eval x= .int k n:=(hx _ _ _ _ he).d_inv.int_inv
theorem IsOp.bool_eval {x:Operand} {b:Bool} (hx:IsOp E x (.d (.bool b))) {F:Nat→Prop} {N:aI} {w:World} {a:Act} (he:cg F N w a E):a.eval x= .bool b:=(hx _ _ _ _ he).d_inv.bool_inv
theorem IsOp.str_eval {x:Operand} {s:ByteArray} (hx:IsOp E x (.d (.str s))) {F:Nat→Prop} {N:aI} {w:World} {a:Act} (he:cg F N w a E):a.eval x= .string s:=(hx _ _ _ _ he).d_inv.str_inv
theorem IsOp.ptr_eval {x:Operand} {n off:Nat} (hx:IsOp E x (.ptr n off)) {F:Nat→Prop} {N:aI} {w:World} {a:Act} (he:cg F N w a E):a.eval x= .pointer (some ⟨N.β n,off,none⟩):=(hx _ _ _ _ he).ptr_inv
theorem IsOp.own_eval {x:Operand} {n:Nat} (hx:IsOp E x (.own n)) {F:Nat→Prop} {N:aI} {w:World} {a:Act} (he:cg F N w a E):a.eval x=N.σ n:=(hx _ _ _ _ he).own_inv
theorem Y.data {u:Value} {p:AV} (hu:∀ F N w,Rep F N w u p) (h:∀ F N w a,cg F N w a E→∀ w',(execOp a.eval o).run P w'= .ok (.value u) w'):aF P o E m p:=
 fun c F N w a hm he=>⟨u,hu F N w,fun w' _ _=>h F N w a he w'⟩
theorem Y.move {x:Operand} {p:AV} (hx:IsOp E x p) (ho:o.op= .move x):aF P o E m p:=fun c F N w a hm he=>
 ⟨a.eval x,hx F N w a he,fun w' _ _=>by unfold execOp;simp [ho]⟩
theorem Y.assign {x:Operand} {p:AV} (hx:IsOp E x p) (ho:o.op= .assign x):aF P o E m p:=fun c F N w a hm he=>
 ⟨a.eval x,hx F N w a he,fun w' _ _=>by unfold execOp;simp [ho]⟩
theorem Y.pick_t {x y z:Operand} {p:AV} (hx:IsOp E x (.d (.bool true))) (hy:IsOp E y p) (ho:o.op= .pick x y z):aF P o E m p:=fun c F N w a hm he=>
 ⟨a.eval y,hy F N w a he,fun w' _ _=>by unfold execOp;simp [ho,hx.bool_eval he,asBool]⟩
theorem Y.pick_f {x y z:Operand} {p:AV} (hx:IsOp E x (.d (.bool false))) (hz:IsOp E z p) (ho:o.op= .pick x y z):aF P o E m p:=fun c F N w a hm he=>
 ⟨a.eval z,hz F N w a he,fun w' _ _=>by unfold execOp;simp [ho,hx.bool_eval he,asBool]⟩
section
variable {x y:Operand} {k:IntKind} {a0 b0 r:Int} {T T':TypeId}
theorem Y.add (hx:IsOp E x (.d (.int k a0))) (hy:IsOp E y (.d (.int k b0))) (ho:o.op= .binOp .add T x y T') (hr:k.wrap (a0+b0)=r):aF P o E m (.d (.int k r)):=
 Y.data (u:= .int k r) (fun _ _ _=> .d .int) fun F N w a he w'=>by unfold execOp;simp [ho,hx.int_eval he,hy.int_eval he,binOp,Op.intArith,hr,eqGuard]
theorem Y.sub (hx:IsOp E x (.d (.int k a0))) (hy:IsOp E y (.d (.int k b0))) (ho:o.op= .binOp .sub T x y T') (hr:k.wrap (a0 - b0)=r):aF P o E m (.d (.int k r)):=
 Y.data (u:= .int k r) (fun _ _ _=> .d .int) fun F N w a he w'=>by unfold execOp;simp [ho,hx.int_eval he,hy.int_eval he,binOp,Op.intArith,hr,eqGuard]
theorem Y.mul (hx:IsOp E x (.d (.int k a0))) (hy:IsOp E y (.d (.int k b0))) (ho:o.op= .binOp .mul T x y T') (hr:k.wrap (a0*b0)=r):aF P o E m (.d (.int k r)):=
 Y.data (u:= .int k r) (fun _ _ _=> .d .int) fun F N w a he w'=>by unfold execOp;simp [ho,hx.int_eval he,hy.int_eval he,binOp,Op.intArith,hr,eqGuard]
theorem Y.quo (hx:IsOp E x (.d (.int k a0))) (hy:IsOp E y (.d (.int k b0))) (ho:o.op= .binOp .quo T x y T') (h0:b0≠0) (hr:k.wrap (a0.tdiv b0)=r):aF P o E m (.d (.int k r)):=
 Y.data (u:= .int k r) (fun _ _ _=> .d .int) fun F N w a he w'=>by unfold execOp;simp [ho,hx.int_eval he,hy.int_eval he,binOp,Op.intDiv,hr,h0,eqGuard]
theorem Y.rem (hx:IsOp E x (.d (.int k a0))) (hy:IsOp E y (.d (.int k b0))) (ho:o.op= .binOp .rem T x y T') (h0:b0≠0) (hr:a0.tmod b0=r):aF P o E m (.d (.int k r)):=
 Y.data (u:= .int k r) (fun _ _ _=> .d .int) fun F N w a he w'=>by unfold execOp;simp [ho,hx.int_eval he,hy.int_eval he,binOp,Op.intDiv,hr,h0,eqGuard]
theorem Y.and (hx:IsOp E x (.d (.int k a0))) (hy:IsOp E y (.d (.int k b0))) (ho:o.op= .binOp .and T x y T') (hr:Go.bits .and k a0 b0=r):aF P o E m (.d (.int k r)):=
 Y.data (u:= .int k r) (fun _ _ _=> .d .int) fun F N w a he w'=>by subst hr;unfold execOp;simp [ho,hx.int_eval he,hy.int_eval he,binOp,intBits_and,eqGuard]
theorem Y.or (hx:IsOp E x (.d (.int k a0))) (hy:IsOp E y (.d (.int k b0))) (ho:o.op= .binOp .or T x y T') (hr:Go.bits .or k a0 b0=r):aF P o E m (.d (.int k r)):=
 Y.data (u:= .int k r) (fun _ _ _=> .d .int) fun F N w a he w'=>by subst hr;unfold execOp;simp [ho,hx.int_eval he,hy.int_eval he,binOp,intBits_or,eqGuard]
theorem Y.xor (hx:IsOp E x (.d (.int k a0))) (hy:IsOp E y (.d (.int k b0))) (ho:o.op= .binOp .xor T x y T') (hr:Go.bits .xor k a0 b0=r):aF P o E m (.d (.int k r)):=
 Y.data (u:= .int k r) (fun _ _ _=> .d .int) fun F N w a he w'=>by subst hr;unfold execOp;simp [ho,hx.int_eval he,hy.int_eval he,binOp,intBits_xor,eqGuard]
theorem Y.andNot (hx:IsOp E x (.d (.int k a0))) (hy:IsOp E y (.d (.int k b0))) (ho:o.op= .binOp .andNot T x y T') (hr:Go.bits .andNot k a0 b0=r):aF P o E m (.d (.int k r)):=
 Y.data (u:= .int k r) (fun _ _ _=> .d .int) fun F N w a he w'=>by subst hr;unfold execOp;simp [ho,hx.int_eval he,hy.int_eval he,binOp,intBits_andNot,eqGuard]
theorem Y.shl {k':IntKind} (hx:IsOp E x (.d (.int k a0))) (hy:IsOp E y (.d (.int k' b0))) (ho:o.op= .binOp .shl T x y T') (h0:0≤b0) (hr:k.wrap (a0*2 ^min b0.toNat k.bits)=r):aF P o E m (.d (.int k r)):=
 Y.data (u:= .int k r) (fun _ _ _=> .d .int) fun F N w a he w'=>by unfold execOp;simp [ho,hx.int_eval he,hy.int_eval he,binOp,Op.shift,hr,Int.not_lt.2 h0,eqGuard]
theorem Y.shr {k':IntKind} (hx:IsOp E x (.d (.int k a0))) (hy:IsOp E y (.d (.int k' b0))) (ho:o.op= .binOp .shr T x y T') (h0:0≤b0) (hr:a0 /2 ^min b0.toNat k.bits=r):aF P o E m (.d (.int k r)):=
 Y.data (u:= .int k r) (fun _ _ _=> .d .int) fun F N w a he w'=>by
  have h2:a0.fdiv (2 ^min b0.toNat k.bits)=r:=by rw [Int.fdiv_eq_ediv_of_nonneg _ (Int.le_of_lt (Int.pow_pos (by decide)))];exact hr
  unfold execOp;simp [ho,hx.int_eval he,hy.int_eval he,binOp,Op.shift,h2,Int.not_lt.2 h0,eqGuard]
theorem Y.lss (hx:IsOp E x (.d (.int k a0))) (hy:IsOp E y (.d (.int k b0))) (ho:o.op= .binOp .lss T x y T'):aF P o E m (.d (.bool (decide (a0<b0)))):=
 Y.data (u:= .bool (decide (a0<b0))) (fun _ _ _=> .d .bool) fun F N w a he w'=>by unfold execOp;simp [ho,hx.int_eval he,hy.int_eval he,binOp,Op.intCmp,eqGuard]
theorem Y.leq (hx:IsOp E x (.d (.int k a0))) (hy:IsOp E y (.d (.int k b0))) (ho:o.op= .binOp .leq T x y T'):aF P o E m (.d (.bool (decide (a0≤b0)))):=
 Y.data (u:= .bool (decide (a0≤b0))) (fun _ _ _=> .d .bool) fun F N w a he w'=>by unfold execOp;simp [ho,hx.int_eval he,hy.int_eval he,binOp,Op.intCmp,eqGuard]
theorem Y.gtr (hx:IsOp E x (.d (.int k a0))) (hy:IsOp E y (.d (.int k b0))) (ho:o.op= .binOp .gtr T x y T'):aF P o E m (.d (.bool (decide (b0<a0)))):=
 Y.data (u:= .bool (decide (b0<a0))) (fun _ _ _=> .d .bool) fun F N w a he w'=>by unfold execOp;simp [ho,hx.int_eval he,hy.int_eval he,binOp,Op.intCmp,eqGuard]
theorem Y.geq (hx:IsOp E x (.d (.int k a0))) (hy:IsOp E y (.d (.int k b0))) (ho:o.op= .binOp .geq T x y T'):aF P o E m (.d (.bool (decide (b0≤a0)))):=
 Y.data (u:= .bool (decide (b0≤a0))) (fun _ _ _=> .d .bool) fun F N w a he w'=>by unfold execOp;simp [ho,hx.int_eval he,hy.int_eval he,binOp,Op.intCmp,eqGuard]
theorem Y.eql (hx:IsOp E x (.d (.int k a0))) (hy:IsOp E y (.d (.int k b0))) (ho:o.op= .binOp .eql T x y T'):aF P o E m (.d (.bool (decide (a0=b0)))):=
 Y.data (u:= .bool (decide (a0=b0))) (fun _ _ _=> .d .bool) fun F N w a he w'=>by
  have:(a0==b0)=decide (a0=b0):=by by_cases h:a0=b0 <;> simp [h]
  unfold execOp;simp [ho,hx.int_eval he,hy.int_eval he,binOp,Op.intCmp,eqGuard,this]
theorem Y.neq (hx:IsOp E x (.d (.int k a0))) (hy:IsOp E y (.d (.int k b0))) (ho:o.op= .binOp .neq T x y T'):aF P o E m (.d (.bool (decide (a0≠b0)))):=
 Y.data (u:= .bool (decide (a0≠b0))) (fun _ _ _=> .d .bool) fun F N w a he w'=>by
  have:(a0 !=b0)=decide (a0≠b0):=by by_cases h:a0=b0 <;> simp [h]
  unfold execOp;simp [ho,hx.int_eval he,hy.int_eval he,binOp,Op.intCmp,eqGuard,this]
theorem Y.neg (hx:IsOp E x (.d (.int k a0))) (ho:o.op= .unOp .neg T x) (hr:k.wrap (0 - a0)=r):aF P o E m (.d (.int k r)):=
 Y.data (u:= .int k r) (fun _ _ _=> .d .int) fun F N w a he w'=>by unfold execOp;simp only [ho,hx.int_eval he,Op.unary,Op.intArith,hr];simp
theorem Y.inv (hx:IsOp E x (.d (.int k a0))) (ho:o.op= .unOp .xor T x) (hr:Go.bits .xor k (if k.signed then -1 else k.max) a0=r):aF P o E m (.d (.int k r)):=
 Y.data (u:= .int k r) (fun _ _ _=> .d .int) fun F N w a he w'=>by subst hr;unfold execOp;simp only [ho,hx.int_eval he,Op.unary,intBits_xor];simp
theorem Y.conv {k':IntKind} (hx:IsOp E x (.d (.int k a0))) (ho:o.op= .convert T T' x) (hs:(P.underlying T).isSome=true) (hd:P.underlying T'=some (.int k')) (hr:k'.wrap a0=r):aF P o E m (.d (.int k' r)):=
 Y.data (u:= .int k' r) (fun _ _ _=> .d .int) fun F N w a he w'=>by
  obtain ⟨d,hd'⟩:=Option.isSome_iff_exists.mp hs
  unfold execOp;simp [ho,hx.int_eval he,convert,run_underlying hd',run_underlying hd,Conv.intToInt,hr]
end
section
variable {x y:Operand} {a0 b0:Bool} {T T':TypeId}
theorem Y.not (hx:IsOp E x (.d (.bool a0))) (ho:o.op= .unOp .not T x):aF P o E m (.d (.bool (!a0))):=
 Y.data (u:= .bool (!a0)) (fun _ _ _=> .d .bool) fun F N w a he w'=>by unfold execOp;simp [ho,hx.bool_eval he,Op.unary]
theorem ot {d:Nat} (hT:P.underlying T=some .bool) (w:World):(Op.equalIn (d+1) T (.bool a0) (.bool b0)).run P w= .ok (a0==b0) w:=by
 unfold Op.equalIn
 simp [run_underlying hT]
theorem mz (hT:P.underlying T=some .bool) (w:World):(Op.equal T (.bool a0) (.bool b0)).run P w= .ok (a0==b0) w:=by
 unfold Op.equal
 rw [show Op.maxDepth=9999+1 from rfl]
 exact ot hT w
theorem Y.beql (hx:IsOp E x (.d (.bool a0))) (hy:IsOp E y (.d (.bool b0))) (ho:o.op= .binOp .eql T x y T') (hT:P.underlying T=some .bool):aF P o E m (.d (.bool (a0==b0))):=
 Y.data (u:= .bool (a0==b0)) (fun _ _ _=> .d .bool) fun F N w a he w'=>by unfold execOp;simp [ho,hx.bool_eval he,hy.bool_eval he,binOp,eqGuard,mz hT]
theorem Y.bneq (hx:IsOp E x (.d (.bool a0))) (hy:IsOp E y (.d (.bool b0))) (ho:o.op= .binOp .neq T x y T') (hT:P.underlying T=some .bool):aF P o E m (.d (.bool (!(a0==b0)))):=
 Y.data (u:= .bool (!(a0==b0))) (fun _ _ _=> .d .bool) fun F N w a he w'=>by unfold execOp;simp [ho,hx.bool_eval he,hy.bool_eval he,binOp,eqGuard,mz hT]
end
section
variable {x y:Operand} {s t:ByteArray} {T T':TypeId}
theorem toList_eq (s t:ByteArray):(s.toList==t.toList)=decide (s=t):=by
 by_cases h:s=t
 ·subst h;simp
 ·have:s.toList≠t.toList:=fun he=>h (by
   have e1:s.data.toList=t.data.toList:=by rw [←ByteArray.toList_eq s,←ByteArray.toList_eq t];exact he
   have e2:s.data=t.data:=Array.toList_inj.1 e1
   cases s;cases t;simp_all)
  simp [h,this]
theorem Y.seql (hx:IsOp E x (.d (.str s))) (hy:IsOp E y (.d (.str t))) (ho:o.op= .binOp .eql T x y T'):aF P o E m (.d (.bool (decide (s=t)))):=
 Y.data (u:= .bool (decide (s=t))) (fun _ _ _=> .d .bool) fun F N w a he w'=>by unfold execOp;simp [ho,hx.str_eval he,hy.str_eval he,binOp,Op.stringOp,eqGuard,toList_eq]
theorem Y.sneq (hx:IsOp E x (.d (.str s))) (hy:IsOp E y (.d (.str t))) (ho:o.op= .binOp .neq T x y T'):aF P o E m (.d (.bool (!decide (s=t)))):=
 Y.data (u:= .bool (!decide (s=t))) (fun _ _ _=> .d .bool) fun F N w a he w'=>by unfold execOp;simp only [ho,hx.str_eval he,hy.str_eval he,binOp,Op.stringOp,eqGuard,toList_eq];simp
theorem Y.cat (hx:IsOp E x (.d (.str s))) (hy:IsOp E y (.d (.str t))) (ho:o.op= .binOp .add T x y T') (hb:s.size+t.size≤9223372036854775807):aF P o E m (.d (.str (s++t))):=
 Y.data (u:= .string (s++t)) (fun _ _ _=> .d .str) fun F N w a he w'=>by unfold execOp;simp [ho,hx.str_eval he,hy.str_eval he,binOp,run_string_add_sum _ s t hb,eqGuard]
theorem Y.slen {ts:Array TypeId} (hx:IsOp E x (.d (.str s))) (ho:o.op= .call {callee:= .builtin .len,args:=#[x],argTypes:=#[T]}) (hT:P.underlying T=some .string):aF P o E m (.d (.int .i64 s.size)):=
 Y.data (u:= .int .i64 s.size) (fun _ _ _=> .d .int) fun F N w a he w'=>by unfold execOp;simp [ho,hx.str_eval he,resolve,invoke,builtin,Builtin.len_,run_underlying hT,goInt]
theorem Y.sindex {k:IntKind} {i:Int} {b:Int} (hx:IsOp E x (.d (.str s))) (hy:IsOp E y (.d (.int k i))) (ho:o.op= .index T x y) (hT:P.underlying T=some .string) (h0:0≤i) (h1:i.toNat<s.size) (hr:((s[i.toNat]'h1).toNat:Int)=b):aF P o E m (.d (.int .u8 b)):=
 Y.data (u:= .int .u8 b) (fun _ _ _=> .d .int) fun F N w a he w'=>by unfold execOp;simp [ho,hx.str_eval he,hy.int_eval he,Instr.index,asIntOf,run_underlying hT,h0,h1,hr]
theorem Y.sslice {k k':IntKind} {lo hi:Operand} {i j:Int} (hx:IsOp E x (.d (.str s))) (hl:IsOp E lo (.d (.int k i))) (hh:IsOp E hi (.d (.int k' j))) (ho:o.op= .slice T x (some lo) (some hi) none) (hT:P.underlying T=some .string) (h0:0≤i) (h1:i≤j) (h2:j≤s.size):aF P o E m (.d (.str (s.extract i.toNat j.toNat))):=
 Y.data (u:= .string (s.extract i.toNat j.toNat)) (fun _ _ _=> .d .str) fun F N w a he w'=>by
  have e1:0≤j:=by omega
  have e2:i≤(j.toNat:Int):=by omega
  have e3:¬(max j 0<i):=by omega
  unfold execOp;simp [ho,hx.str_eval he,hl.int_eval he,hh.int_eval he,Instr.sliceAt,Instr.slice,Instr.sliceBounds,Instr.sliceBound,asIntOf,run_underlying hT,h0,h2,e1,e2,e3]
theorem Y.sslice_to {k':IntKind} {hi:Operand} {j:Int} (hx:IsOp E x (.d (.str s))) (hh:IsOp E hi (.d (.int k' j))) (ho:o.op= .slice T x none (some hi) none) (hT:P.underlying T=some .string) (h1:0≤j) (h2:j≤s.size):aF P o E m (.d (.str (s.extract 0 j.toNat))):=
 Y.data (u:= .string (s.extract 0 j.toNat)) (fun _ _ _=> .d .str) fun F N w a he w'=>by
  unfold execOp;simp [ho,hx.str_eval he,hh.int_eval he,Instr.sliceAt,Instr.slice,Instr.sliceBounds,Instr.sliceBound,asIntOf,run_underlying hT,h1,h2]
theorem Y.sslice_from {k:IntKind} {lo:Operand} {i:Int} (hx:IsOp E x (.d (.str s))) (hl:IsOp E lo (.d (.int k i))) (ho:o.op= .slice T x (some lo) none none) (hT:P.underlying T=some .string) (h1:0≤i) (h2:i≤s.size):aF P o E m (.d (.str (s.extract i.toNat s.size))):=
 Y.data (u:= .string (s.extract i.toNat s.size)) (fun _ _ _=> .d .str) fun F N w a he w'=>by
  unfold execOp;simp [ho,hx.str_eval he,hl.int_eval he,Instr.sliceAt,Instr.slice,Instr.sliceBounds,Instr.sliceBound,asIntOf,run_underlying hT,h1,h2]
end
section
variable {x y:Operand} {n off:Nat} {T T':TypeId}
theorem Y.peql_ptr (hx:IsOp E x (.ptr n off)) (hy:IsOp E y (.d .nilp)) (ho:o.op= .binOp .eql T x y T') (hT:P.underlying T=some (.pointer (P.pointee T))):aF P o E m (.d (.bool false)):=
 Y.data (u:= .bool false) (fun _ _ _=> .d .bool) fun F N w a he w'=>by
  have h2:a.eval y= .pointer none:=(hy _ _ _ _ he).d_inv.nilp_inv
  unfold execOp;simp [ho,hx.ptr_eval he,h2,eqGuard,run_eql_pointer_nil w' T _ hT]
theorem Y.pneq_ptr (hx:IsOp E x (.ptr n off)) (hy:IsOp E y (.d .nilp)) (ho:o.op= .binOp .neq T x y T') (hT:P.underlying T=some (.pointer (P.pointee T))):aF P o E m (.d (.bool true)):=
 Y.data (u:= .bool true) (fun _ _ _=> .d .bool) fun F N w a he w'=>by
  have h2:a.eval y= .pointer none:=(hy _ _ _ _ he).d_inv.nilp_inv
  unfold execOp;simp [ho,hx.ptr_eval he,h2,eqGuard,run_neq_pointer_nil w' T _ hT]
theorem Y.peql_nil (hx:IsOp E x (.d .nilp)) (hy:IsOp E y (.d .nilp)) (ho:o.op= .binOp .eql T x y T') (hT:P.underlying T=some (.pointer (P.pointee T))):aF P o E m (.d (.bool true)):=
 Y.data (u:= .bool true) (fun _ _ _=> .d .bool) fun F N w a he w'=>by
  have h1:a.eval x= .pointer none:=(hx _ _ _ _ he).d_inv.nilp_inv
  have h2:a.eval y= .pointer none:=(hy _ _ _ _ he).d_inv.nilp_inv
  unfold execOp;simp [ho,h1,h2,eqGuard,run_eql_pointer_nil w' T _ hT]
theorem Y.pneq_nil (hx:IsOp E x (.d .nilp)) (hy:IsOp E y (.d .nilp)) (ho:o.op= .binOp .neq T x y T') (hT:P.underlying T=some (.pointer (P.pointee T))):aF P o E m (.d (.bool false)):=
 Y.data (u:= .bool false) (fun _ _ _=> .d .bool) fun F N w a he w'=>by
  have h1:a.eval x= .pointer none:=(hx _ _ _ _ he).d_inv.nilp_inv
  have h2:a.eval y= .pointer none:=(hy _ _ _ _ he).d_inv.nilp_inv
  unfold execOp;simp [ho,h1,h2,eqGuard,run_neq_pointer_nil w' T _ hT]
theorem Y.nilCheck (hx:IsOp E x (.ptr n off)) (ho:o.op= .nilCheck x):aF P o E m (.ptr n off):=fun c F N w a hm he=>
 ⟨_, .ptr,fun w' _ _=>by unfold execOp;simp [ho,hx.ptr_eval he]⟩
theorem Y.nilCheck_rel (hx:IsOp E x (.rel n off)) (ho:o.op= .nilCheck x):aF P o E m (.rel n off):=fun c F N w a hm he=>by
 have h:=hx F N w a he
 generalize hv:a.eval x=v at h
 cases h with
 | rel hg=>exact ⟨_, .rel hg,fun w' _ _=>by unfold execOp;simp [ho,hv]⟩
theorem Y.nilCheck_el {cs:List DV} (hx:IsOp E x (.d (.elp cs))) (ho:o.op= .nilCheck x):aF P o E m (.d (.elp cs)):=fun c F N w a hm he=>by
 have h:=hx F N w a he
 obtain ⟨ad,u,hv,_⟩:=h.d_inv.elp_inv
 exact ⟨a.eval x,h,fun w' _ _=>by unfold execOp;simp [ho,hv]⟩
end
end
end LJ
