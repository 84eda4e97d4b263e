/- A logic for the walks: operations that are known not to be carried out. -/
import Derived.Test.YtpnnkehkjfciiaaGreatDoorXRen
namespace LJ
open Go Go.RowKit
set_option linter.unusedVariables false
def offB (want:Bool):AV→Bool
 | .d (.bool b)=>match b==want with
  | true=>false
  | false=>true
 | .when false _=>true
 | _=>false
theorem sY {want:Bool} {p:AV} (h:offB want p=true) {F:Nat→Prop} {N:aI} {w:World} {v:Value} (hv:Rep F N w v p):v=undef∨v= .bool (!want):=by
 unfold offB at h
 split at h
 ·rename_i b
  have:=hv.d_inv.bool_inv
  subst this
  cases b <;> cases want <;> first | exact .inr rfl | cases h
 ·exact .inl (hv.when_off rfl)
 ·cases h
theorem WL.gskipW {P:Program} {c:Ctx} {ops:Array Oper} {Q:Exit→Env→Mem→Prop} {E:Env} {m:Mem} {o:Oper} {rest:List Oper} {j g d:Nat} {want:Bool} {x:Oper} (hg:o.guard=some (j,want)) (hj:ops[j]? =some x) (hx:x.dst=some g) (hb:offB want (E.get g)=true) (hd:o.dst=some d) (hlt:Nat.blt d c.ntmps=true) (h:WL c P ops Q rest ((d, .when false (.bool true))::E) m):WL c P ops Q (o::rest) E m:=fun a w hr=>by
 have hw:=rz hg hj hx (fun F N w v hv=>sY hb hv) hr
 refine wpList_step fun K hK=>?_
 rw [hw,if_neg (by simp),hd]
 obtain ⟨h1,h2,F,N,hm,he⟩:=hr
 exact hK _ _ (h _ _ (Rel.put h1 h2 hm he hlt (.when (fun h=>by cases h) (fun _=>rfl))))
def lf (j:Nat) (want:Bool) (g:Nat):List Oper→Env→Option Env
 | [],E=>some E
 | o::l,E=>match gEq j want o.guard with
  | false=>none
  | true=>match offB want (E.get g) with
   | false=>none
   | true=>match o.dst with
    | none=>none
    | some d=>lf j want g l ((d, .when false (.bool true))::E)
theorem mD {P:Program} {c:Ctx} {ops:Array Oper} {Q:Exit→Env→Mem→Prop} {m:Mem} {j g:Nat} {want:Bool} {x:Oper} (hj:ops[j]? =some x) (hx:x.dst=some g) {rest:List Oper} :∀ {l:List Oper} {E E':Env},lf j want g l E=some E'→iZ c.ntmps l=true→WL c P ops Q rest E' m→WL c P ops Q (l++rest) E m
 | [],E,E',h,hd,hk=>by
  simp only [lf,Option.some.injEq] at h
  subst h
  exact hk
 | o::l,E,E',h,hd,hk=>by
  simp only [iZ,jH,Bool.and_eq_true] at hd
  simp only [lf] at h
  split at h
  ·cases h
  ·rename_i hg
   split at h
   ·cases h
   ·rename_i hb
    split at h
    ·cases h
    ·rename_i d ho
     have hd1:=hd.1
     rw [ho] at hd1
     exact WL.gskipW (qO hg) hj hx hb ho hd1 (mD hj hx h hd.2 hk)
theorem WL.gskips {P:Program} {c:Ctx} {ops:Array Oper} {Q:Exit→Env→Mem→Prop} {m:Mem} {l:List Oper} {E E':Env} (n j:Nat) (want:Bool) (g:Nat) {x:Oper} (hj:ops[j]? =some x) (hx:x.dst=some g) (h:lf j want g (l.take n) E=some E') (hd:iZ c.ntmps (l.take n)=true) (hk:WL c P ops Q (l.drop n) E' m):WL c P ops Q l E m:=by
 have:=mD (P:=P) (Q:=Q) (m:=m) (rest:=l.drop n) hj hx h hd hk
 rwa [List.take_append_drop] at this
end LJ
