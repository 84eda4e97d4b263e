/- A logic for the walks: calls by a contract at hand; what the pure functions need. -/
import Derived.Test.YtpnnkehkjfciiaaGreatDoorXHeld
namespace LJ
open Go Go.RowKit
set_option linter.unusedVariables false
set_option linter.unusedSimpArgs false
def fuel:Nat:=18446744073709551616
theorem uP:∃ f,fuel=f+1:=⟨18446744073709551615,rfl⟩
theorem aJ:1000000000000000000<fuel:=by unfold fuel;omega
attribute [irreducible] fuel
def need {α:Type} (b:Bool) (k:Option α):Option α:=cond b k none
theorem aq {α:Type} {b:Bool} {k:Option α} {r:α} (h:need b k=some r):b=true∧k=some r:=by
 unfold need at h
 cases b with
 | true=>exact ⟨rfl,h⟩
 | false=>cases h
theorem an {α:Type} {b:Bool} {k:Option α} (h:b=true):need b k=k:=by subst h;rfl
theorem en {α:Type} {c b:Bool} {k:Option α} {r:α} (h:need (!c||b) k=some r):(c=true→b=true)∧k=some r:=by
 obtain ⟨h1,h2⟩:=aq h
 refine ⟨fun hc=>?_,h2⟩
 subst hc
 exact h1
def iEq (a b:Int):Bool:=decide (a=b)
def iNe (a b:Int):Bool:=decide (a≠b)
def iLt (a b:Int):Bool:=decide (a<b)
def iLe (a b:Int):Bool:=decide (a≤b)
def sEq (a b:ByteArray):Bool:=decide (a=b)
theorem cW {a b:Int} (h:a=b):iEq a b=true:=decide_eq_true h
theorem cy {a b:Int} (h:a≠b):iEq a b=false:=decide_eq_false h
theorem eu {a b:Int} (h:a≠b):iNe a b=true:=decide_eq_true h
theorem df {a b:Int} (h:a=b):iNe a b=false:=decide_eq_false (fun h'=>h' h)
theorem aY {a b:Int} (h:a<b):iLt a b=true:=decide_eq_true h
theorem bk {a b:Int} (h:b≤a):iLt a b=false:=decide_eq_false (by omega)
theorem nA {a b:Int} (h:a≤b):iLe a b=true:=decide_eq_true h
theorem uQ {a b:Int} (h:b<a):iLe a b=false:=decide_eq_false (by omega)
theorem pS {a b:ByteArray} (h:a=b):sEq a b=true:=decide_eq_true h
theorem tb {a b:ByteArray} (h:a≠b):sEq a b=false:=decide_eq_false h
@[simp] theorem fS {a b:Int} :iEq a b=true↔a=b:=decide_eq_true_iff
@[simp] theorem xP {a b:Int} :iNe a b=true↔a≠b:=decide_eq_true_iff
@[simp] theorem dx {a b:Int} :iLt a b=true↔a<b:=decide_eq_true_iff
@[simp] theorem dW {a b:Int} :iLe a b=true↔a≤b:=decide_eq_true_iff
@[simp] theorem eD {a b:ByteArray} :sEq a b=true↔a=b:=decide_eq_true_iff
@[simp] theorem xJ {a b:Int} :iEq a b=false↔a≠b:=decide_eq_false_iff_not
@[simp] theorem xK {a b:Int} :iNe a b=false↔a=b:=by rw [iNe,decide_eq_false_iff_not,Decidable.not_not]
@[simp] theorem bc {a b:Int} :iLt a b=false↔b≤a:=by rw [iLt,decide_eq_false_iff_not,Int.not_lt]
@[simp] theorem fi {a b:Int} :iLe a b=false↔b<a:=by rw [iLe,decide_eq_false_iff_not,Int.not_le]
@[simp] theorem uR {a b:ByteArray} :sEq a b=false↔a≠b:=decide_eq_false_iff_not
def nIn (i n:Int):Bool:=decide (0≤i∧i<n)
def nTo (i n:Int):Bool:=decide (0≤i∧i≤n)
def nSl (i j n:Int):Bool:=decide (0≤i∧i≤j∧j≤n)
def nCap (n:Nat):Bool:=decide (n≤140737488355328)
def nStr (n:Nat):Bool:=decide (n≤9223372036854775807)
def nNz (n:Int):Bool:=decide (n≠0)
def nNn (n:Int):Bool:=decide (0≤n)
theorem av {i n:Int} (h:nIn i n=true):0≤i∧i<n:=of_decide_eq_true h
theorem ll {i n:Int} (h:nTo i n=true):0≤i∧i≤n:=of_decide_eq_true h
theorem lp {i j n:Int} (h:nSl i j n=true):0≤i∧i≤j∧j≤n:=of_decide_eq_true h
theorem bO {n:Nat} (h:nCap n=true):n≤140737488355328:=of_decide_eq_true h
theorem bP {n:Nat} (h:nStr n=true):n≤9223372036854775807:=of_decide_eq_true h
theorem vC {n:Int} (h:nNn n=true):0≤n:=of_decide_eq_true h
theorem aH {i n:Int} (h:0≤i∧i<n):nIn i n=true:=decide_eq_true h
theorem mG {i n:Int} (h:0≤i∧i≤n):nTo i n=true:=decide_eq_true h
theorem j2 {i j n:Int} (h:0≤i∧i≤j∧j≤n):nSl i j n=true:=decide_eq_true h
theorem bg {n:Nat} (h:n≤140737488355328):nCap n=true:=decide_eq_true h
theorem bQ {n:Nat} (h:n≤9223372036854775807):nStr n=true:=decide_eq_true h
theorem vD {n:Int} (h:0≤n):nNn n=true:=decide_eq_true h
theorem ar {α β:Type} {x:Option α} {f:α→Option β} {r:β} (h:x.bind f=some r):∃ y,x=some y∧f y=some r:=Option.bind_eq_some_iff.1 h
theorem of_t {α:Type} {b:Bool} {x y:Option α} {r:α} (h:cond b x y=some r) (hb:b=true):x=some r:=by subst hb;exact h
theorem of_f {α:Type} {b:Bool} {x y:Option α} {r:α} (h:cond b x y=some r) (hb:b=false):y=some r:=by subst hb;exact h
theorem aO {α:Type} {r:α} {p:Prop} (h:(none:Option α)=some r):p:=by cases h
section
variable {P:Program} {c:Ctx} {ops:Array Oper} {Q:Exit→Env→Mem→Prop} {E E':Env} {m m':Mem} {o:Oper} {l:List Oper}
def lq (P0 KN:List Nat) (fs:List Nat) (E:Env) (m:Mem) (m0:Mem) (out:AV) (m1:Mem) (dst:Option Nat):Option (Env×Mem):=
 match FsOK m0 fs m1&&out.within m1.names fs&&m1.within m1.names fs&&disj fs P0&&disj m0.names KN with
 | false=>none
 | true=>match fgtE fs E,fgtM fs (m.less (m0.names++m1.names)) with
  | some E',some mr=>match eC (m1++mr) with
   | some m'=>match dst with
    | some d=>some ((d,out)::E',m')
    | none=>some (E',m')
   | none=>none
  | _,_=>none
def aE (P:Program) (f:Nat) (fn:Func):Prop:=P.funcs[f]? =some fn∧fn.body.isNone=false∧(fn.name== "runtime.NumGoroutine")=false
def lr (o:Oper):Option (Nat×List Operand):=
 match o.op with
 | .call cl=>match callee cl with
  | some f=>some (f,cl.args.toList)
  | none=>none
 | _=>none
theorem i6 {f:Nat} {xs:List Operand} {args:List AV} {m0 m1:Mem} {out:AV} {fn:Func} (fs:List Nat) (hS:Spec P f args m0 out m1) (hfn:aE P f fn) (ho:lr o=some (f,xs)) (hx:kt E xs=some args) (hsub:dc m m0) (h:lq c.P0 c.KN fs E m m0 out m1 o.dst=some (E',m')) (hlt:dstB c.ntmps o=true):WO c P o E m E' m':=by
 unfold lr at ho
 split at ho
 ·rename_i cl hcl
  split at ho
  ·rename_i f' hf
   simp only [Option.some.injEq,Prod.mk.injEq] at ho
   obtain ⟨rfl,rfl⟩:=ho
   unfold callee at hf
   split at hf
   ·rename_i f2 hc
    injection hf with hf
    subst hf
    have hcl':o.op= .call {callee:= .value (.func f2),args:=cl.args.toList.toArray,argTypes:=cl.argTypes} :=by
     rw [hcl]
     cases cl
     simp_all
    obtain ⟨c1,c2,c3⟩:=hfn
    unfold lq at h
    split at h
    ·cases h
    ·rename_i hb
     simp only [Bool.and_eq_true] at hb
     split at h
     ·rename_i E1 mr h2 h3
      split at h
      ·rename_i m2 hm2
       split at h
       ·rename_i d hd
        simp only [Option.some.injEq,Prod.mk.injEq] at h
        obtain ⟨rfl,rfl⟩:=h
        rw [bt hm2,dd h2,de h3]
        refine WO.call hS (gW hx) hcl' c1 c2 c3 (Fits.mk' hsub hb.1.1.1.1 hb.1.1.1.2 hb.1.1.2 hb.1.2 hb.2) hd ?_
        unfold dstB at hlt
        rw [hd] at hlt
        exact hlt
       ·rename_i hd
        simp only [Option.some.injEq,Prod.mk.injEq] at h
        obtain ⟨rfl,rfl⟩:=h
        rw [bt hm2,dd h2,de h3]
        exact WO.call0 hS (gW hx) hcl' c1 c2 c3 (Fits.mk' hsub hb.1.1.1.1 hb.1.1.1.2 hb.1.1.2 hb.1.2 hb.2) hd
      ·cases h
     ·cases h
   ·cases hf
  ·cases ho
 ·cases ho
theorem WL.call {f:Nat} {xs:List Operand} {args:List AV} {m0 m1:Mem} {out:AV} {fn:Func} (fs:List Nat) (hS:Spec P f args m0 out m1) (hfn:aE P f fn) (ho:lr o=some (f,xs)) (hx:kt E xs=some args) (hsub:dc m m0) (h:lq c.P0 c.KN fs E m m0 out m1 o.dst=some (E',m')) (hg:o.guard=none) (hlt:dstB c.ntmps o=true) (hk:WL c P ops Q l E' m'):WL c P ops Q (o::l) E m:=
 WL.step (i6 fs hS hfn ho hx hsub h hlt) hg hk
theorem WL.gcall {f j g:Nat} {want:Bool} {x:Oper} {xs:List Operand} {args:List AV} {m0 m1:Mem} {out:AV} {fn:Func} (fs:List Nat) (hS:Spec P f args m0 out m1) (hfn:aE P f fn) (ho:lr o=some (f,xs)) (hx:kt E xs=some args) (hsub:dc m m0) (h:lq c.P0 c.KN fs E m m0 out m1 o.dst=some (E',m')) (hg:o.guard=some (j,want)) (hj:ops[j]? =some x) (hxd:x.dst=some g) (hb:E.get g= .d (.bool want)) (hlt:dstB c.ntmps o=true) (hk:WL c P ops Q l E' m'):WL c P ops Q (o::l) E m:=
 WL.gstep (i6 fs hS hfn ho hx hsub h hlt) hg hj hxd hb hk
theorem WH.call {tp:Bool} {c0:Ctx} {s:Stay} {EK EK2 E2:Env} {i:Nat} {sch:Sch} {f:Nat} {xs:List Operand} {args:List AV} {m0 m1:Mem} {out:AV} {fn:Func} (fs:List Nat) (hi:nth ops.toList i=some o) (hS:Spec P f args m0 out m1) (hfn:aE P f fn) (ho:lr o=some (f,xs)) (hx:kt (EK++E) xs=some args) (hsub:dc m m0) (h:lq c.P0 c.KN fs (EK++E) m m0 out m1 o.dst=some (E',m')) (hg:o.guard=none) (hlt:dstB c.ntmps o=true) (hf:fR c.P0 EK=true) (h2:ft o.dst E' EK E=some (EK2,E2)) (hk:WH true c0 c s P ops Q sch EK2 E2 m'):WH tp c0 c s P ops Q (.one i false sch) EK E m:=
 WH.step hi (i6 fs hS hfn ho hx hsub h hlt) hg hf h2 hk
theorem WH.gcall {tp:Bool} {c0:Ctx} {s:Stay} {EK EK2 E2:Env} {i j g:Nat} {want:Bool} {x:Oper} {sch:Sch} {f:Nat} {xs:List Operand} {args:List AV} {m0 m1:Mem} {out:AV} {fn:Func} (fs:List Nat) (hi:nth ops.toList i=some o) (hS:Spec P f args m0 out m1) (hfn:aE P f fn) (ho:lr o=some (f,xs)) (hx:kt (EK++E) xs=some args) (hsub:dc m m0) (h:lq c.P0 c.KN fs (EK++E) m m0 out m1 o.dst=some (E',m')) (hg:o.guard=some (j,want)) (hj:nth ops.toList j=some x) (hxd:x.dst=some g) (hb:EK.get g= .d (.bool want)) (hlt:dstB c.ntmps o=true) (hf:fR c.P0 EK=true) (h2:ft o.dst E' EK E=some (EK2,E2)) (hk:WH true c0 c s P ops Q sch EK2 E2 m'):WH tp c0 c s P ops Q (.one i false sch) EK E m:=
 WH.gstep hi (i6 fs hS hfn ho hx hsub h hlt) hg hj hxd hb hf h2 hk
theorem WH.eff {tp:Bool} {tt:List (Nat×TK)} {et:List (Nat×Nat×Nat)} {c0:Ctx} {s:Stay} {EK EK2 E2:Env} {i:Nat} {φ:Option Prop} {sch:Sch} (n:Nat) (htt:ttOK P tt=true) (het:etOK P et=true) (hi:nth ops.toList i=some o) (h:sR tt et ([]:List (ESig P)) c.P0 c.KN n (EK++E) m o=some (φ,E',m')) (hg:o.guard=none) (hlt:dstB c.ntmps o=true) (hφ:dJ φ) (hf:fR c.P0 EK=true) (h2:ft o.dst E' EK E=some (EK2,E2)) (hk:WH true c0 c s P ops Q sch EK2 E2 m'):WH tp c0 c s P ops Q (.one i false sch) EK E m:=
 WH.step hi (qS htt het h hφ hlt) hg hf h2 hk
theorem WH.alloc {tp:Bool} {tt:List (Nat×TK)} {c0:Ctx} {s:Stay} {EK EK2 E2:Env} {i:Nat} {sch:Sch} (n:Nat) (htt:ttOK P tt=true) (hi:nth ops.toList i=some o) (h:nx tt c.P0 c.KN n (EK++E) m o=some (E',m')) (hg:o.guard=none) (hlt:dstB c.ntmps o=true) (hf:fR c.P0 EK=true) (h2:ft o.dst E' EK E=some (EK2,E2)) (hk:WH true c0 c s P ops Q sch EK2 E2 m'):WH tp c0 c s P ops Q (.one i false sch) EK E m:=
 WH.step hi (mE htt h hlt) hg hf h2 hk
theorem WH.val {tp:Bool} {tt:List (Nat×TK)} {c0:Ctx} {s:Stay} {EK EK2 E2:Env} {i d:Nat} {φ:Option Prop} {p:AV} {sch:Sch} (htt:ttOK P tt=true) (hi:nth ops.toList i=some o) (h:oC tt (EK++E) m o.op=some (φ,p)) (hd:o.dst=some d) (hg:o.guard=none) (hlt:Nat.blt d c.ntmps=true) (hφ:dJ φ) (hf:fR c.P0 EK=true) (h2:ft o.dst ((d,p)::(EK++E)) EK E=some (EK2,E2)) (hk:WH true c0 c s P ops Q sch EK2 E2 m):WH tp c0 c s P ops Q (.one i false sch) EK E m:=
 WH.step hi (WO.val (iY htt h hφ) hd hlt) hg hf h2 hk
end
def PSig.at' {P:Program} {f:Nat} {fn:Func} (hfn:aE P f fn) (φ:Prop) {args:List AV} {out:AV} (hout:out.plain=true) (h:φ→Spec P f args [] out []):PSig P:=
 ⟨f,fun ag m=>some (some (φ∧ag=args),out),⟨fn,hfn⟩,by
  intro ag m ψ out' hgo hψ
  simp only [Option.some.injEq,Prod.mk.injEq] at hgo
  obtain ⟨rfl,rfl⟩:=hgo
  obtain ⟨h1,rfl⟩:=hψ
  exact ⟨sN.of_spec (h h1) hout,hout⟩⟩
theorem Spec.names {P:Program} {f:FuncId} {args:List AV} {m0 m1:Mem} {out:AV} (ns:List Nat) (hn:ib ns=true) (ha:sU args=true) (hm:m0.noTup=true) (h:Spec P f args m0 out m1):Spec P f (args.map (AV.ren1 (rho ns))) (m0.ren (rho ns)) (out.ren (rho ns)) (m1.ren (rho ns)):=
 Spec.ren (wi hn) ha hm h
end LJ
