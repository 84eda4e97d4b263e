/- A logic for the walks: small steps between code and contract. -/
import Derived.Test.YtpnnkehkjfciiaaGreatDoorXRun
namespace LJ
open Go Go.RowKit
set_option linter.unusedVariables false
section
variable {K:Env→Mem→Prop} {Q:Exit→Env→Mem→Prop} {E:Env} {m:Mem}
theorem QT.n (h:K E m):kr K Q .normal E m:=h
theorem QT.r (h:Q .ret E m):kr K Q .ret E m:=h
theorem QT.x {id:Nat} (h:Q (.exit id) E m):kr K Q (.exit id) E m:=h
theorem QB.n {id:Nat} (h:Q .normal E m):qH id Q .normal E m:=h
theorem QB.r {id:Nat} (h:Q .ret E m):qH id Q .ret E m:=h
theorem QB.hit {id:Nat} (h:Q .normal E m):qH id Q (.exit id) E m:=by
 show cond (Nat.beq id id) _ _
 rw [Nat.beq_refl]
 exact h
def rE (E:Env) (m:Mem):List ResultVar→Option (List AV)
 | []=>some []
 | .tmp t::l=>match oA E (.tmp t) with
  | some (_,p)=>match rE E m l with
   | some ps=>some (p::ps)
   | none=>none
  | none=>none
 | _::_=>none
theorem np {P:Program} :∀ {rs:List ResultVar} {ps:List AV},rE E m rs=some ps→∃ qs,Outs P E m rs qs∧qs=ps
 | [],ps,h=>by simp only [rE,Option.some.injEq] at h;subst h;exact ⟨[], .nil,rfl⟩
 | .tmp t::l,ps,h=>by
  simp only [rE] at h
  split at h
  ·rename_i ψ p hp
   split at h
   ·rename_i qs hq
    injection h with h
    subst h
    obtain ⟨qs',h1,rfl⟩:=np (P:=P) hq
    refine ⟨_, .tmp rfl h1,?_⟩
    unfold oA at hp
    have:E.get t=p:=by
     split at hp <;> first | (rename_i hx;injection hp with hp;injection hp with h1 h2;subst h2;simp only [opnd,Option.some.injEq] at hx;exact hx) | cases hp
    rw [this]
   ·cases h
  ·cases h
 | .cell _ _::l,ps,h=>by cases h
theorem Ends.auto {P:Program} {fn:Func} {out:AV} {m1:Mem} {rs:List ResultVar} {ps:List AV} (h1:fn.results=rs.toArray) (h2:rE E m rs=some ps) (h3:jZ ps=out) (h4:dc m m1):Ends P fn out m1 .ret E m:=by
 obtain ⟨qs,k1,rfl⟩:=np (P:=P) h2
 exact Ends.mk h1 k1 h3 h4
theorem Ends.auton {P:Program} {fn:Func} {out:AV} {m1:Mem} {rs:List ResultVar} {ps:List AV} (h1:fn.results=rs.toArray) (h2:rE E m rs=some ps) (h3:jZ ps=out) (h4:dc m m1):Ends P fn out m1 .normal E m:=by
 obtain ⟨qs,k1,rfl⟩:=np (P:=P) h2
 exact Ends.mkn h1 k1 h3 h4
end
def DV.bare:DV→Bool
 | .int _ _=>true
 | .bool _=>true
 | .str _=>true
 | .nilp=>true
 | .nils=>true
 | .nili=>true
 | _=>false
def AV.bare:AV→Bool
 | .d v=>v.bare
 | .tup vs=>vs.all fun | .d v=>v.bare | _=>false
 | _=>false
theorem RepD.bare {F F':Nat→Prop} {w w':World} {v:Value} {d:DV} (hd:d.bare=true) (h:RepD F w v d):RepD F' w' v d:=by
 cases h with
 | int=>exact .int
 | bool=>exact .bool
 | str=>exact .str
 | nilp=>exact .nilp
 | nils=>exact .nils
 | nili=>exact .nili
 | _=>cases hd
theorem Rep.bare {F F':Nat→Prop} {N N':aI} {w w':World} {v:Value} {p:AV} (hp:p.bare=true) (h:Rep F N w v p):Rep F' N' w' v p:=by
 cases h with
 | d h=>exact .d (h.bare hp)
 | tup hl h=>
  refine .tup hl fun i v c hv hc=>?_
  have hm:=List.all_eq_true.1 (show List.all _ _=true from hp) c (List.mem_of_getElem? hc)
  cases c with
  | d x=>exact .d ((h i v _ hv hc).d_inv.bare hm)
  | _=>cases hm
 | _=>cases hp
def kI (p0:List Nat):Mem→Bool
 | []=>true
 | (n,o)::l=>(inl p0 n||(match o with | .box _ _=>false | _=>true))&&kI p0 l
theorem ld {p0:List Nat} :∀ {m:Mem},kI p0 m=true→∀ n o,m.get n=some o→inl p0 n=true∨∀ T cs,o≠ .box T cs
 | [],_,n,o,h=>by cases h
 | (k,x)::m,hb,n,o,h=>by
  simp only [kI,Bool.and_eq_true,Bool.or_eq_true] at hb
  simp only [Mem.get] at h
  cases e:Nat.beq k n with
  | true=>
   rw [e] at h
   simp only [cond_true,Option.some.injEq] at h
   have:=Nat.eq_of_beq_eq_true e
   subst this;subst h
   rcases hb.1 with h1 | h1
   ·exact .inl h1
   ·exact .inr fun T cs e=>by
     subst e
     cases h1
  | false=>rw [e] at h;exact ld hb.2 n o h
theorem Spec.code {P:Program} {f:FuncId} {fn:Func} {C:Code} {args:List AV} {m0:Mem} {out:AV} {m1:Mem} (hf:P.funcs[f]? =some fn) (hb:fn.body=some C) (nt:Nat) (hn:fn.ntmps=nt) (ha:Nat.ble args.length nt=true) (p0:List Nat) (hp0:kI p0 m0=true)
  (h:∀ w0 F0 S0 B0,WC {w0:=w0,F0:=F0,S0:=S0,ntmps:=nt,P0:=p0,B0:=B0} P C (Ends P fn out m1) (mw args 0) m0):Spec P f args m0 out m1:=
 Spec.of_code hf hb nt hn (Nat.le_of_ble_eq_true ha) p0 (ld hp0) h
theorem Spec.walk {P:Program} {f:FuncId} {args:List AV} {b:Bool} (h:Spec P f args [] (.d (.bool b)) []) (F:Nat→Prop) (w:World) (vals:List Value) (hF:∀ b,F b→b<w.heap.size) (hg:gm F w) (hl:vals.length=args.length) (hv:∀ (i:Nat) (v:Value) (p:AV),vals[i]? =some v→args[i]? =some p→Rep F ⟨fun _=>0,fun _=>undef⟩ w v p):
  Calls P f vals.toArray w fun e w'=>e= .returned (.bool b)∧Below w.heap.size w w':=by
 refine (h F ⟨fun _=>0,fun _=>undef⟩ w vals ⟨hg,hF,fun n o hn=>(by cases hn),fun n o b hn=>(by cases hn),fun n n' o o' b hn=>(by cases hn)⟩ hl hv).mono ?_
 rintro e w' ⟨v,F',N',hd⟩
 refine ⟨?_,⟨hd.os,hd.tape,hd.output,hd.size,fun k hk=>hd.kept k hk (fun ⟨n,o,hn,_⟩=>by cases hn)⟩⟩
 rw [hd.ending,hd.rep.d_inv.bool_inv]
inductive Reps (F:Nat→Prop) (N:aI) (w:World):List Value→List AV→Prop
 | nil:Reps F N w [] []
 | cons {v:Value} {p:AV} {vs:List Value} {ps:List AV} (h:Rep F N w v p) (hs:Reps F N w vs ps):Reps F N w (v::vs) (p::ps)
theorem Reps.all {F:Nat→Prop} {N:aI} {w:World} {vs:List Value} {ps:List AV} (h:Reps F N w vs ps):vs.length=ps.length∧∀ (i:Nat) (v:Value) (p:AV),vs[i]? =some v→ps[i]? =some p→Rep F N w v p:=by
 induction h with
 | nil=>exact ⟨rfl,fun i v p hv=>by simp at hv⟩
 | cons h hs ih=>
  refine ⟨by simp [ih.1],fun i v p hv hp=>?_⟩
  cases i with
  | zero=>simp at hv hp;subst hv;subst hp;exact h
  | succ i=>simp at hv hp;exact ih.2 i v p hv hp
end LJ
