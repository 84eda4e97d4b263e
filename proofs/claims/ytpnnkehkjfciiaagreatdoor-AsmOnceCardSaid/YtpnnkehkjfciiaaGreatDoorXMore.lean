/- A logic for the walks: variables laid with zeros; results that lie in variables. -/
import Derived.Test.YtpnnkehkjfciiaaGreatDoorXOpen
namespace LJ
open Go Go.RowKit
set_option linter.unusedVariables false
set_option linter.unusedSimpArgs false
section
variable {P:Program} {tt:List (Nat×TK)} {c:Ctx} {ops:Array Oper} {Q:Exit→Env→Mem→Prop} {E E':Env} {m m':Mem} {o:Oper} {l:List Oper}
def nx (tt:List (Nat×TK)) (P0 KN:List Nat) (n:Nat) (E:Env) (m:Mem) (o:Oper):Option (Env×Mem):=
 match o.op with
 | .alloc T=>match o.dst with
  | none=>none
  | some d=>match okN P0 KN n with
   | false=>none
   | true=>match rF tt T with
    | none=>none
    | some zs=>match pN zs,fgtE [n] E,fgtM [n] m with
     | some cs,some E',some m'=>some ((d, .ptr n 0)::E',(n, .box T cs)::m')
     | _,_,_=>none
 | _=>none
theorem mE {n:Nat} (htt:ttOK P tt=true) (h:nx tt c.P0 c.KN n E m o=some (E',m')) (hlt:dstB c.ntmps o=true):WO c P o E m E' m':=by
 unfold nx at h
 split at h
 ·rename_i T ho
  split at h
  ·cases h
  ·rename_i d hd
   split at h
   ·cases h
   ·rename_i hn
    obtain ⟨k1,k2⟩:=gq hn
    split at h
    ·cases h
    ·rename_i zs hz
     split at h
     ·rename_i cs E1 m1 h1 h2 h3
      simp only [Option.some.injEq,Prod.mk.injEq] at h
      obtain ⟨rfl,rfl⟩:=h
      rw [kJ h1,dd h2,de h3]
      unfold dstB at hlt
      rw [hd] at hlt
      exact WO.alloc n (nr htt hz) ho k1 k2 hd hlt
     ·cases h
 ·cases h
theorem WL.alloc (n:Nat) (htt:ttOK P tt=true) (h:nx tt c.P0 c.KN n E m o=some (E',m')) (hg:o.guard=none) (hlt:dstB c.ntmps o=true) (hk:WL c P ops Q l E' m'):WL c P ops Q (o::l) E m:=
 WL.step (mE htt h hlt) hg hk
def oM (tt:List (Nat×TK)) (E:Env) (m:Mem):List ResultVar→Option (List AV)
 | []=>some []
 | .tmp t::l=>match oA E (.tmp t) with
  | some (_,p)=>match oM tt E m l with
   | some ps=>some (p::ps)
   | none=>none
  | none=>none
 | .cell t T::l=>match E.get t with
  | .ptr n 0=>match m.get n with
   | some (.box _ cs)=>match unD cs with
    | some ds=>match cq tt T with
     | some (.struct q _ _)=>match Nat.beq q ds.length with
      | true=>match oM tt E m l with
       | some ps=>some (.d (.agg ds)::ps)
       | none=>none
      | false=>none
     | some k=>match k.isOne,ds with
      | true,[d]=>match oM tt E m l with
       | some ps=>some (.d d::ps)
       | none=>none
      | _,_=>none
     | _=>none
    | none=>none
   | _=>none
  | _=>none
theorem kL (htt:ttOK P tt=true):∀ {rs:List ResultVar} {ps:List AV},oM tt E m rs=some ps→Outs P E m rs ps
 | [],ps,h=>by simp only [oM,Option.some.injEq] at h;subst h;exact .nil
 | .tmp t::l,ps,h=>by
  simp only [oM] at h
  split at h
  ·rename_i ψ p hp
   split at h
   ·rename_i qs hq
    injection h with h
    subst h
    refine .tmp ?_ (kL htt hq)
    unfold oA at hp
    split at hp <;> first | (rename_i hx;injection hp with hp;injection hp with h1 h2;subst h2;simp only [opnd,Option.some.injEq] at hx;exact hx) | cases hp
   ·cases h
  ·cases h
 | .cell t T::l,ps,h=>by
  simp only [oM] at h
  split at h
  ·rename_i n ht
   split at h
   ·rename_i T' cs hn
    split at h
    ·rename_i ds hds
     split at h
     ·rename_i q fs zs hT
      split at h
      ·rename_i hq
       split at h
       ·rename_i qs hqs
        injection h with h
        subst h
        have hq':=Nat.eq_of_beq_eq_true hq
        subst hq'
        obtain ⟨d,i,k1,k2,k3,k4⟩:=gv (TK.struct_ok (aR htt hT)).1
        exact .cell d ht hn (mC hds) k1 (by cases d <;> first | exact k2 | rfl | cases k2) (by rw [k3];simp [k4]) (kL htt hqs)
       ·cases h
      ·cases h
     ·rename_i k _ hT
      split at h
      ·rename_i d hk
       split at h
       ·rename_i qs hqs
        injection h with h
        subst h
        have h1:=TK.one_ok (aR htt hT) hk
        have hcs:=mC hds
        subst hcs
        exact .one ht hn (fun a w v hv=>dI h1 hv) (kL htt hqs)
       ·cases h
      ·cases h
     ·cases h
    ·cases h
   ·cases h
  ·cases h
theorem Ends.autoC {fn:Func} {out:AV} {m1:Mem} {rs:List ResultVar} {ps:List AV} (htt:ttOK P tt=true) (h1:fn.results=rs.toArray) (h2:oM tt E m rs=some ps) (h3:jZ ps=out) (h4:dc m m1):Ends P fn out m1 .ret E m:=
 Ends.mk h1 (kL htt h2) h3 h4
end
end LJ
