/- A logic for the walks: rows that say lists; what is told anew. -/
import Derived.Test.YtpnnkehkjfciiaaGreatDoorXSig
namespace LJ
open Go Go.RowKit
set_option linter.unusedVariables false
set_option linter.unusedSimpArgs false
def slT {α:Type} [Inhabited α] (enc:α→List DV) (l:List α):DV:= .slf l.length (fun i=>enc (l.getD i default))
theorem kO {α:Type} [Inhabited α] (enc:α→List DV) (l:List α):tab l.length (fun i=>enc (l.getD i default))=l.map enc:=by
 apply List.ext_getElem
 ·simp [tab]
 ·intro i h1 h2
  simp only [tab,List.getElem_map,List.getElem_range]
  have:i<l.length:=by simpa [tab] using h1
  simp [this]
theorem RepD.slT {α:Type} [Inhabited α] {enc:α→List DV} {l:List α} {F:Nat→Prop} {w:World} {v:Value} (h:RepD F w v (.sl (l.map enc))):RepD F w v (slT enc l):=
 .slf (by rw [kO];exact h)
theorem RepD.slT_nil {α:Type} [Inhabited α] {enc:α→List DV} {F:Nat→Prop} {w:World} {v:Value} (h:RepD F w v .nils):RepD F w v (LJ.slT enc []):=by
 obtain rfl:=h.nils_inv
 exact .slf .nil
section
variable {P:Program} {c:Ctx} {ops:Array Oper} {Q:Exit→Env→Mem→Prop} {E E':Env} {m m':Mem} {o:Oper} {l:List Oper}
theorem bX.mapObj {F:Nat→Prop} {N:aI} {w:World} (h:bX c F N w m) (hm:∀ n o',m'.get n=some o'→∃ o,m.get n=some o∧blk N n o=blk N n o'∧(db F N w n o→db F N w n o')):bX c F N w m' where
 F0:=h.F0
 Fnew:=h.Fnew
 Fin:=h.Fin
 os:=h.os
 tape:=h.tape
 output:=h.output
 size:=h.size
 kept:=h.kept
 obj n o' hn:=by
  obtain ⟨o,h1,h2,h3⟩:=hm n o' hn
  exact h3 (h.obj n o h1)
 free n o' b hn hb:=by
  obtain ⟨o,h1,h2,h3⟩:=hm n o' hn
  exact h.free n o b h1 (h2.trans hb)
 apart n n' o o' b hn hn' hb hb':=by
  obtain ⟨x,h1,h2,_⟩:=hm n o hn
  obtain ⟨x',h1',h2',_⟩:=hm n' o' hn'
  exact h.apart n n' x x' b h1 h1' (h2.trans hb) (h2'.trans hb')
 named:=h.named
 agree:=h.agree
 knames n o' b hn hb:=by
  obtain ⟨o,h1,h2,h3⟩:=hm n o' hn
  exact h.knames n o b h1 (h2.trans hb)
 ksize:=h.ksize
def frzV (r:Nat) (d:DV) (p:AV):Option AV:=
 match p with
 | .own k=>match Nat.beq k r with
  | true=>some (.d d)
  | false=>some (.own k)
 | .rel k o=>match Nat.beq k r with
  | true=>some .und
  | false=>some (.rel k o)
 | .rsl k o a b=>match Nat.beq k r with
  | true=>some .und
  | false=>some (.rsl k o a b)
 | .qel k o=>match Nat.beq k r with
  | true=>some .und
  | false=>some (.qel k o)
 | .psl k o a b=>some (.psl k o a b)
 | .tup _=>some .und
 | .d v=>some (.d v)
 | .ptr k o=>some (.ptr k o)
 | .optp b k o=>some (.optp b k o)
 | .when b v=>some (.when b v)
 | .und=>some .und
def frzE (r:Nat) (d:DV):Env→Option Env
 | []=>some []
 | (k,v)::l=>match frzV r d v with
  | none=>none
  | some v'=>match frzE r d l with
   | some l'=>some ((k,v')::l')
   | none=>none
def frzC (r:Nat) (d:DV):List AV→Option (List AV)
 | []=>some []
 | v::l=>match frzV r d v with
  | none=>none
  | some v'=>match frzC r d l with
   | some l'=>some (v'::l')
   | none=>none
def frzM (r:Nat) (d:DV):Mem→Option Mem
 | []=>some []
 | (k,v)::l=>match frzM r d l with
  | none=>none
  | some l'=>match Nat.beq k r with
   | true=>some l'
   | false=>match v with
    | .row E sz es=>some ((k, .row E sz es)::l')
    | .que E sz es=>some ((k, .que E sz es)::l')
    | .rowl E sz q c es=>some ((k, .rowl E sz q (cutN [r] c) es)::l')
    | .box T cs=>match frzC r d cs with
     | some cs'=>some ((k, .box T cs')::l')
     | none=>none
theorem kP {r:Nat} {d:DV} {es:List (List DV)} {p q:AV} (h:frzV r d p=some q) {F:Nat→Prop} {N:aI} {w:World} (hd:∀ v,RepD F w v (.sl es)→RepD F w v d) {v:Value} (hr:Rep F N w v (p.frz r es)):Rep F N w v q:=by
 cases p with
 | own k=>
  simp only [frzV] at h
  simp only [AV.frz] at hr
  cases e:Nat.beq k r with
  | true=>rw [e] at h hr;injection h with h;subst h;exact .d (hd v hr.d_inv)
  | false=>rw [e] at h hr;injection h with h;subst h;exact hr
 | rel k o'=>
  simp only [frzV] at h
  simp only [AV.frz] at hr
  cases e:Nat.beq k r with
  | true=>rw [e] at h hr;injection h with h;subst h;exact .und
  | false=>rw [e] at h hr;injection h with h;subst h;exact hr
 | qel k o'=>
  simp only [frzV] at h
  simp only [AV.frz] at hr
  cases e:Nat.beq k r with
  | true=>rw [e] at h hr;injection h with h;subst h;exact .und
  | false=>rw [e] at h hr;injection h with h;subst h;exact hr
 | psl k o' a b=>injection h with h;subst h;exact hr
 | rsl k o' a b=>
  simp only [frzV] at h
  simp only [AV.frz] at hr
  cases e:Nat.beq k r with
  | true=>rw [e] at h hr;injection h with h;subst h;exact .und
  | false=>rw [e] at h hr;injection h with h;subst h;exact hr
 | tup vs=>injection h with h;subst h;exact .und
 | d x=>injection h with h;subst h;exact hr
 | ptr k o'=>injection h with h;subst h;exact hr
 | optp b k o'=>injection h with h;subst h;exact hr
 | when b x=>injection h with h;subst h;exact hr
 | und=>injection h with h;subst h;exact .und
theorem nB {r:Nat} {d:DV} (es:List (List DV)):∀ {E E':Env},frzE r d E=some E'→∀ t,frzV r d (E.get t)=some (E'.get t)
 | [],E',h,t=>by simp only [frzE,Option.some.injEq] at h;subst h;rfl
 | (k,v)::l,E',h,t=>by
  simp only [frzE] at h
  split at h
  ·cases h
  ·rename_i v' hv
   split at h
   ·rename_i l' hl
    injection h with h
    subst h
    simp only [Env.get]
    cases Nat.beq k t with
    | true=>exact hv
    | false=>exact nB es hl t
   ·cases h
theorem nC {r:Nat} {d:DV} :∀ {cs cs':List AV},frzC r d cs=some cs'→cs'.length=cs.length∧∀ (i:Nat) (p q:AV),cs[i]? =some p→cs'[i]? =some q→frzV r d p=some q
 | [],cs',h=>by simp only [frzC,Option.some.injEq] at h;subst h;exact ⟨rfl,fun i p q hp=>by simp at hp⟩
 | v::l,cs',h=>by
  simp only [frzC] at h
  split at h
  ·cases h
  ·rename_i v' hv
   split at h
   ·rename_i l' hl
    injection h with h
    subst h
    obtain ⟨h1,h2⟩:=nC hl
    refine ⟨by simp [h1],fun i p q hp hq=>?_⟩
    cases i with
    | zero=>simp at hp hq;subst hp;subst hq;exact hv
    | succ i=>simp at hp hq;exact h2 i p q hp hq
   ·cases h
theorem nD {r:Nat} {d:DV} :∀ {m m':Mem},frzM r d m=some m'→∀ n o',m'.get n=some o'→n≠r∧∃ o,m.get n=some o∧((∃ E sz es,(o= .row E sz es∨o= .que E sz es)∧o'=o)∨(∃ E sz q c es,o= .rowl E sz q c es∧o'= .rowl E sz q (cutN [r] c) es)∨∃ T cs cs',o= .box T cs∧o'= .box T cs'∧frzC r d cs=some cs')
 | [],m',h,n,o',hn=>by simp only [frzM,Option.some.injEq] at h;subst h;cases hn
 | (k,x)::l,m',h,n,o',hn=>by
  simp only [frzM] at h
  split at h
  ·cases h
  ·rename_i l' hl
   have ih:=nD hl
   split at h
   ·rename_i hk
    injection h with h
    subst h
    obtain ⟨h1,o,h2,h3⟩:=ih n o' hn
    have hkn:Nat.beq k n=false:=by
     cases e:Nat.beq k n with
     | false=>rfl
     | true=>exact absurd ((Nat.eq_of_beq_eq_true e).symm.trans (Nat.eq_of_beq_eq_true hk)) h1
    exact ⟨h1,o,by simp only [Mem.get,hkn,cond_false];exact h2,h3⟩
   ·rename_i hk
    have hkr:k≠r:=fun e=>by rw [e,Nat.beq_refl] at hk;cases hk
    split at h
    ·rename_i E sz es
     injection h with h
     subst h
     simp only [Mem.get] at hn ⊢
     cases e:Nat.beq k n with
     | true=>
      have hkn:=Nat.eq_of_beq_eq_true e
      rw [e] at hn
      simp only [cond_true,Option.some.injEq] at hn ⊢
      subst hn
      exact ⟨hkn ▸hkr,_,rfl, .inl ⟨E,sz,es, .inl rfl,rfl⟩⟩
     | false=>
      rw [e] at hn
      exact ih n o' hn
    ·rename_i E sz es
     injection h with h
     subst h
     simp only [Mem.get] at hn ⊢
     cases e:Nat.beq k n with
     | true=>
      have hkn:=Nat.eq_of_beq_eq_true e
      rw [e] at hn
      simp only [cond_true,Option.some.injEq] at hn ⊢
      subst hn
      exact ⟨hkn ▸hkr,_,rfl, .inl ⟨E,sz,es, .inr rfl,rfl⟩⟩
     | false=>
      rw [e] at hn
      exact ih n o' hn
    ·rename_i E sz q c es
     injection h with h
     subst h
     simp only [Mem.get] at hn ⊢
     cases e:Nat.beq k n with
     | true=>
      have hkn:=Nat.eq_of_beq_eq_true e
      rw [e] at hn
      simp only [cond_true,Option.some.injEq] at hn ⊢
      subst hn
      exact ⟨hkn ▸hkr,_,rfl, .inr (.inl ⟨E,sz,q,c,es,rfl,rfl⟩)⟩
     | false=>
      rw [e] at hn
      exact ih n o' hn
    ·rename_i T cs
     split at h
     ·rename_i cs' hcs
      injection h with h
      subst h
      simp only [Mem.get] at hn ⊢
      cases e:Nat.beq k n with
      | true=>
       have hkn:=Nat.eq_of_beq_eq_true e
       rw [e] at hn
       simp only [cond_true,Option.some.injEq] at hn ⊢
       subst hn
       exact ⟨hkn ▸hkr,_,rfl, .inr (.inr ⟨T,cs,cs',rfl,rfl,hcs⟩)⟩
      | false=>
       rw [e] at hn
       exact ih n o' hn
     ·cases h
theorem Rel.freezeT {r:Nat} {T:TypeId} {sz:Nat} {es:List (List DV)} {d:DV} (hn:m.get r=some (.row T sz es)) (hd:∀ F w v,RepD F w v (.sl es)→RepD F w v d) (h1:frzE r d E=some E') (h2:frzM r d m=some m') {a:Act} {w:World} (h:Rel c E m a w):Rel c E' m' a w:=by
 obtain ⟨g1,g2,F,N,hm,he⟩:=h.freeze hn
 refine ⟨g1,g2,F,N,hm.mapObj fun n o' ho'=>?_,⟨fun t=>?_,he.glob⟩⟩
 ·obtain ⟨hnr,o,ho,hcase⟩:=nD h2 n o' ho'
  refine ⟨o.frz r es,?_,?_,?_⟩
  ·rw [Mem.get_frz,if_neg hnr,ho]
   rfl
  ·rcases hcase with ⟨E1,s1,e1,rfl | rfl,rfl⟩ | ⟨E1,s1,q1,c1,e1,rfl,rfl⟩ | ⟨T1,cs,cs',rfl,rfl,_⟩ <;> rfl
  ·rcases hcase with ⟨E1,s1,e1,rfl | rfl,rfl⟩ | ⟨E1,s1,q1,c1,e1,rfl,rfl⟩ | ⟨T1,cs,cs',rfl,rfl,hcs⟩
   ·exact id
   ·exact id
   ·exact id
   ·rintro ⟨vs,k1,k2,k3⟩
    obtain ⟨c1,c2⟩:=nC hcs
    refine ⟨vs,k1,by rw [k2,c1];simp,fun i v q hv hq=>?_⟩
    obtain ⟨p,hp⟩:∃ p,cs[i]? =some p:=by
     have:i<cs.length:=by rw [←c1];exact (List.getElem?_eq_some_iff.1 hq).1
     exact ⟨_,List.getElem?_eq_getElem this⟩
    exact kP (c2 i p q hp hq) (fun v=>hd F w v) (k3 i v (p.frz r es) hv (by rw [List.getElem?_map,hp];rfl))
 ·have:=nB es h1 t
  have h3:=he t
  rw [Env.get_frz] at h3
  exact kP this (fun v=>hd F w v) h3
theorem WL.freezeT (r:Nat) {α:Type} [Inhabited α] (enc:α→List DV) (x:List α) {T:TypeId} {sz:Nat} {es:List (List DV)} (hn:m.get r=some (.row T sz es)) (hes:es=x.map enc) (h1:frzE r (slT enc x) E=some E') (h2:frzM r (slT enc x) m=some m') (h:WL c P ops Q l E' m'):WL c P ops Q l E m:=fun a w hr=>
 h a w (hr.freezeT hn (fun F w v hv=>by rw [hes] at hv;exact hv.slT) h1 h2)
theorem WC.freezeT {C:Code} (r:Nat) {α:Type} [Inhabited α] (enc:α→List DV) (x:List α) {T:TypeId} {sz:Nat} {es:List (List DV)} (hn:m.get r=some (.row T sz es)) (hes:es=x.map enc) (h1:frzE r (slT enc x) E=some E') (h2:frzM r (slT enc x) m=some m') (h:WC c P C Q E' m'):WC c P C Q E m:=fun a w hr=>
 h a w (hr.freezeT hn (fun F w v hv=>by rw [hes] at hv;exact hv.slT) h1 h2)
def setRow (r:Nat) (es':List (List DV)):Mem→Option Mem
 | []=>some []
 | (k,v)::l=>match Nat.beq k r with
  | true=>match v with
   | .row E sz _=>some ((k, .row E sz es')::l)
   | _=>none
  | false=>match setRow r es' l with
   | some l'=>some ((k,v)::l')
   | none=>none
theorem gX {r:Nat} {T:TypeId} {sz:Nat} {es:List (List DV)} :∀ {m m':Mem},m.get r=some (.row T sz es)→setRow r es m=some m'→∀ n,m'.get n=m.get n
 | [],m',hn,h,n=>by simp only [setRow,Option.some.injEq] at h;subst h;rfl
 | (k,v)::l,m',hn,h,n=>by
  simp only [setRow] at h
  simp only [Mem.get] at hn
  split at h
  ·rename_i hk
   rw [hk] at hn
   simp only [cond_true,Option.some.injEq] at hn
   subst hn
   simp only [Option.some.injEq] at h
   subst h
   rfl
  ·rename_i hk
   rw [hk] at hn
   split at h
   ·rename_i l' hl
    injection h with h
    subst h
    simp only [Mem.get]
    rw [gX hn hl n]
   ·cases h
theorem WL.row (r:Nat) (es':List (List DV)) {T:TypeId} {sz:Nat} {es:List (List DV)} (hn:m.get r=some (.row T sz es)) (he:es=es') (h1:setRow r es' m=some m') (h:WL c P ops Q l E m'):WL c P ops Q l E m:=by
 subst he
 refine WL.less ⟨fun t=> .inr rfl,fun n o hno=>?_⟩ h
 rw [←gX hn h1 n]
 exact hno
theorem WC.row {C:Code} (r:Nat) (es':List (List DV)) {T:TypeId} {sz:Nat} {es:List (List DV)} (hn:m.get r=some (.row T sz es)) (he:es=es') (h1:setRow r es' m=some m') (h:WC c P C Q E m'):WC c P C Q E m:=by
 subst he
 refine WC.less ⟨fun t=> .inr rfl,fun n o hno=>?_⟩ h
 rw [←gX hn h1 n]
 exact hno
theorem Rel.weak1 {a:Act} {w:World} {t:Nat} {p:AV} (h:Rel c E m a w) (hp:∀ F N w v,Rep F N w v (E.get t)→Rep F N w v p):Rel c ((t,p)::E) m a w:=h.weaker fun F N v u hv=>by
 simp only [Env.get]
 cases e:Nat.beq t u with
 | true=>rw [←Nat.eq_of_beq_eq_true e] at hv;exact hp F N w v hv
 | false=>exact hv
theorem WC.nilT {C:Code} (t:Nat) {α:Type} [Inhabited α] (enc:α→List DV) (ht:E.get t= .d .nils) (h:WC c P C Q ((t, .d (slT enc []))::E) m):WC c P C Q E m:=fun a w hr=>h a w (hr.weak1 fun F N w v hv=>by rw [ht] at hv;exact .d hv.d_inv.slT_nil)
def DV.flatB:DV→Bool
 | .agg _=>false
 | _=>true
def nF:List (List DV)→Bool
 | []=>true
 | e::l=>e.all DV.flatB&&nF l
theorem mH:∀ {es:List (List DV)},nF es=true→sx es
 | [],h,e,he,d,hd,ds,hds=>by cases he
 | x::l,h,e,he,d,hd,ds,hds=>by
  simp only [nF,Bool.and_eq_true] at h
  rcases List.mem_cons.1 he with rfl | he
  ·have:=List.all_eq_true.1 h.1 d hd
   subst hds
   cases this
  ·exact mH h.2 e he d hd ds hds
theorem mJ {α:Type} {enc:α→List DV} {l:List α} {ys:List (List DV)} {bytes:Nat} (hb:Nat.blt 0 bytes=true) (hy:nF ys=true) (h:(l.length+ys.length)*bytes≤140737488355328):xb (l.map enc) ys bytes:=by
 have hb':0<bytes:=Nat.le_of_ble_eq_true hb
 have hn:=Nat.le_mul_of_pos_right (l.length+ys.length) hb'
 refine ⟨mH hy,by simpa using h,?_⟩
 simp only [List.length_map]
 omega
def xQ (tt:List (Nat×TK)) (E:Env) (m:Mem) (s:ByteArray) (o:Oper):Option (Prop×Nat):=
 match o.op with
 | .convert T T' x=>match cq tt T with
  | some (.slice e _)=>match cq tt e with
   | some (.int .u8)=>match cq tt T' with
    | some .str=>match opnd E x with
     | some (.own n)=>match m.get n with
      | some (.row _ _ es)=>match o.dst with
       | some d=>some (es=b8 s,d)
       | none=>none
      | _=>none
     | _=>none
    | _=>none
   | _=>none
  | _=>none
 | _=>none
theorem WL.pickT {g d:Nat} {y z:Operand} {p:AV} (ho:o.op= .pick (.tmp g) y z) (hb:E.get g= .d (.bool true)) (hy:opnd E y=some p) (hd:o.dst=some d) (hg:o.guard=none) (hlt:Nat.blt d c.ntmps=true) (hk:WL c P ops Q l ((d,p)::E) m):WL c P ops Q (o::l) E m:=
 WL.step (WO.val (Y.pick_t (.tmp hb) (aA hy) ho) hd hlt) hg hk
theorem WL.pickF {g d:Nat} {y z:Operand} {p:AV} (ho:o.op= .pick (.tmp g) y z) (hb:E.get g= .d (.bool false)) (hz:opnd E z=some p) (hd:o.dst=some d) (hg:o.guard=none) (hlt:Nat.blt d c.ntmps=true) (hk:WL c P ops Q l ((d,p)::E) m):WL c P ops Q (o::l) E m:=
 WL.step (WO.val (Y.pick_f (.tmp hb) (aA hz) ho) hd hlt) hg hk
section
variable {c0:Ctx} {s:Stay} {EK EK' EK2 E2:Env} {sch rest:Sch} {is:List Nat} {ls:List Oper} {ψ:Prop} {tt:List (Nat×TK)}
theorem WH.grun (n j:Nat) (want:Bool) (g:Nat) {x:Oper} (htt:ttOK P tt=true) (hj:nth ops.toList j=some x) (hx:x.dst=some g) (hq:pP n sch=some (is,rest)) (hl:pO ops.toList is=some ls) (h:runG (fun EK op=>oC tt EK s.m op) j want g ls EK=some (ψ,EK')) (hd:jH (okQ c.ntmps E) ls=true) (hψ:ψ) (hk:WH true c0 c s P ops Q rest EK' E m):WH true c0 c s P ops Q sch EK E m:=by
 rw [ep,Array.getElem?_toList] at hj
 rw [kN hq]
 have:=nu (rest:=[]) (WHQ.steps htt c0 c s ops Q rest E m) hj hx h hψ hd (fun is his=>by
  cases is with
  | nil=>exact hk
  | cons i is=>cases his)
 rw [List.append_nil] at this
 exact this is (kM hl)
theorem oP {a:Act} {j g:Nat} {want:Bool} {x:Oper} (hg:o.guard=some (j,want)) (hj:ops[j]? =some x) (hx:x.dst=some g) (hv:a.tmps.getD g undef=undef∨a.tmps.getD g undef= .bool (!want)):Region.wanted o (yielded ops a.tmps)=false:=by
 rw [Array.getD_eq_getD_getElem?] at hv
 cases ht:a.tmps[g]? with
 | none=>simp [Region.wanted,hg,yielded,hj,hx,ht]
 | some v=>
  rw [ht] at hv
  simp only [Option.getD_some] at hv
  rcases hv with rfl | rfl
  ·simp [Region.wanted,hg,yielded,hj,hx,ht,undef]
  ·cases want <;> simp [Region.wanted,hg,yielded,hj,hx,ht]
theorem WH.gskip {i j g d:Nat} {want q:Bool} {x:Oper} (hi:nth ops.toList i=some o) (hg:o.guard=some (j,want)) (hj:nth ops.toList j=some x) (hx:x.dst=some g) (hb:offB want (EK.get g)=true) (hd:o.dst=some d) (hlt:okQ c.ntmps E d=true) (hk:WH true c0 c s P ops Q sch ((d, .when false (.bool true))::EK) E m):WH true c0 c s P ops Q (.one i q sch) EK E m:=by
 rw [ep,Array.getElem?_toList] at hi hj
 have hbv:∀ {a:Act},cg s.F s.N s.w a EK→a.tmps.getD g undef=undef∨a.tmps.getD g undef= .bool (!want):=fun {a} he=>sY hb (he g)
 have un:Rep s.F s.N s.w undef (.when false (.bool true)):= .when (fun h=>by cases h) (fun _=>rfl)
 cases q with
 | true=>
  have:=WHQ.take (c0:=c0) (c:=c) (P:=P) (Q:=Q) (m:=m) (rest:=sch) (p:= .when false (.bool true)) (l:=[]) hd hlt (fun a hek hs=>⟨undef,un, .inr ⟨oP hg hj hx (hbv hek),rfl⟩⟩) (fun is his=>by
   cases is with
   | nil=>exact hk
   | cons i is=>cases his)
  exact this [i] (by simp [hi])
 | false=>
  intro hst hsel hp a w listed hB hr hek
  refine ny hB fun hB2=>?_
  unfold okQ at hlt
  simp only [Bool.and_eq_true] at hlt
  unfold wpOp
  simp only [hi]
  rw [oP hg hj hx (hbv hek),if_neg (by simp),hd]
  refine ⟨hr.ks,hk hst hsel hp _ _ _ hB2 (hr.keep (ta hlt.2)) ?_⟩
  obtain ⟨_,h2,_⟩:=hr
  exact hek.put (by rw [h2];exact Nat.le_of_ble_eq_true hlt.1) un
theorem WH.pick1 {i g d:Nat} {y z:Operand} {p:AV} {b:Bool} (hi:nth ops.toList i=some o) (ho:o.op= .pick (.tmp g) y z) (hb:EK.get g= .d (.bool b)) (hy:opnd EK (cond b y z)=some p) (hd:o.dst=some d) (hg:o.guard=none) (hlt:okQ c.ntmps E d=true) (hk:WH true c0 c s P ops Q sch ((d,p)::EK) E m):WH true c0 c s P ops Q (.one i true sch) EK E m:=by
 rw [ep,Array.getElem?_toList] at hi
 have hY:LJ.aF P o EK s.m p:=by
  cases b with
  | true=>exact Y.pick_t (.tmp hb) (aA hy) ho
  | false=>exact Y.pick_f (.tmp hb) (aA hy) ho
 have:=WHQ.take (c0:=c0) (c:=c) (P:=P) (Q:=Q) (m:=m) (rest:=sch) (p:=p) (l:=[]) hd hlt (fun a hek hs=>by
  obtain ⟨v,hv,hrun⟩:=er hY hek hs
  exact ⟨v,hv, .inl ⟨by simp [Region.wanted,hg],hrun⟩⟩) (fun is his=>by
   cases is with
   | nil=>exact hk
   | cons i is=>cases his)
 exact this [i] (by simp [hi])
theorem WH.gpick1 {i g d j q:Nat} {want:Bool} {x:Oper} {y z:Operand} {p:AV} {b:Bool} (hi:nth ops.toList i=some o) (ho:o.op= .pick (.tmp g) y z) (hb:EK.get g= .d (.bool b)) (hy:opnd EK (cond b y z)=some p) (hd:o.dst=some d) (hg:o.guard=some (j,want)) (hj:nth ops.toList j=some x) (hx:x.dst=some q) (hq:EK.get q= .d (.bool want)) (hlt:okQ c.ntmps E d=true) (hk:WH true c0 c s P ops Q sch ((d,p)::EK) E m):WH true c0 c s P ops Q (.one i true sch) EK E m:=by
 rw [ep,Array.getElem?_toList] at hi hj
 have hY:LJ.aF P o EK s.m p:=by
  cases b with
  | true=>exact Y.pick_t (.tmp hb) (aA hy) ho
  | false=>exact Y.pick_f (.tmp hb) (aA hy) ho
 have:=WHQ.take (c0:=c0) (c:=c) (P:=P) (Q:=Q) (m:=m) (rest:=sch) (p:=p) (l:=[]) hd hlt (fun a hek hs=>by
  obtain ⟨v,hv,hrun⟩:=er hY hek hs
  have hbv:a.tmps.getD q undef= .bool want:=by
   have:=hek q
   rw [hq] at this
   exact this.d_inv.bool_inv
  exact ⟨v,hv, .inl ⟨by rw [iO hg hj hx hbv];simp,hrun⟩⟩) (fun is his=>by
   cases is with
   | nil=>exact hk
   | cons i is=>cases his)
 exact this [i] (by simp [hi])
end
theorem lu {P0:List Nat} :∀ {E:Env} {seen:List Nat} {A B:Env},Env.parts P0 E seen=(A,B)→(∀ t,inl seen t=true→A.get t= .und∧B.get t= .und)∧∀ t,(A.get t= .und∨A.get t=E.get t)∧(B.get t= .und∨B.get t=E.get t)
 | [],seen,A,B,h=>by
  simp only [Env.parts,Prod.mk.injEq] at h
  obtain ⟨rfl,rfl⟩:=h
  exact ⟨fun t _=>⟨rfl,rfl⟩,fun t=>⟨.inl rfl, .inl rfl⟩⟩
 | (k,v)::l,seen,A,B,h=>by
  simp only [Env.parts] at h
  cases hs:inl seen k with
  | true=>
   rw [hs] at h
   obtain ⟨h1,h2⟩:=lu (show Env.parts P0 l seen=(A,B) from h)
   refine ⟨h1,fun t=>?_⟩
   simp only [Env.get]
   cases e:Nat.beq k t with
   | true=>
    have:=Nat.eq_of_beq_eq_true e
    subst this
    exact ⟨.inl (h1 k hs).1, .inl (h1 k hs).2⟩
   | false=>exact h2 t
  | false=>
   rw [hs] at h
   simp only [cond_false] at h
   have key:∀ (A1 B1:Env),Env.parts P0 l (k::seen)=(A1,B1)→(A=(k,v)::A1∧B=B1)∨(A=A1∧B=(k,v)::B1)→((∀ t,inl seen t=true→A.get t= .und∧B.get t= .und)∧∀ t,(A.get t= .und∨A.get t=Env.get ((k,v)::l) t)∧(B.get t= .und∨B.get t=Env.get ((k,v)::l) t)):=by
    intro A1 B1 hp hc
    obtain ⟨h1,h2⟩:=lu hp
    have hk:=h1 k (by simp [inl])
    have hsn:∀ t,inl seen t=true→Nat.beq k t=false:=fun t ht=>by
     cases e:Nat.beq k t with
     | false=>rfl
     | true=>rw [Nat.eq_of_beq_eq_true e,ht] at hs;cases hs
    have hin:∀ t,inl seen t=true→inl (k::seen) t=true:=fun t ht=>by simp only [inl,ht];cases Nat.beq k t <;> rfl
    rcases hc with ⟨rfl,rfl⟩ | ⟨rfl,rfl⟩
    ·refine ⟨fun t ht=>⟨by simp only [Env.get,hsn t ht,cond_false];exact (h1 t (hin t ht)).1,(h1 t (hin t ht)).2⟩,fun t=>?_⟩
     simp only [Env.get]
     cases e:Nat.beq k t with
     | true=>rw [←Nat.eq_of_beq_eq_true e];exact ⟨.inr rfl, .inl hk.2⟩
     | false=>exact h2 t
    ·refine ⟨fun t ht=>⟨(h1 t (hin t ht)).1,by simp only [Env.get,hsn t ht,cond_false];exact (h1 t (hin t ht)).2⟩,fun t=>?_⟩
     simp only [Env.get]
     cases e:Nat.beq k t with
     | true=>rw [←Nat.eq_of_beq_eq_true e];exact ⟨.inl hk.1, .inr rfl⟩
     | false=>exact h2 t
   cases hp:Env.parts P0 l (k::seen) with
   | mk A1 B1=>
    rw [hp] at h
    split at h
    ·simp only [Prod.mk.injEq] at h
     exact key A1 B1 hp (.inl ⟨h.1.symm,h.2.symm⟩)
    ·simp only [Prod.mk.injEq] at h
     exact key A1 B1 hp (.inr ⟨h.1.symm,h.2.symm⟩)
theorem WC.heldP {EK E2:Env} {mK:Mem} {id:Nat} {l:List Oper} (sch:Sch) (P0 ks:List Nat) (hm:P.follows .mixedOrders=true) (hsel:Region.noSelect l.toArray=true) (hlen:Nat.beq sch.len l.length=true) (hB:schB l.toArray sch true (Array.replicate l.length false)=true)
  (hP0:c.P0.all (fun n=>inl P0 n)=true) (hKN:c.KN=[]) (hK:∀ b,c.K b→False) (hmK:pR ks m=some mK) (hks:mK.all (fun p=>inl ks p.1)=true)
  (hE:Env.parts P0 E []=(EK,E2)) (hp:∀ ch E m,Q (.panic ch) E m→Q (.panic ch) [] [])
  (h:∀ FK NK wK K,WH true c {w0:=c.w0,F0:=FK,S0:=c.S0,ntmps:=c.ntmps,dfs:=c.dfs,P0:=P0,B0:=NK,K:=K,wK:=wK,KN:=ks} ⟨FK,NK,wK,mK⟩ P l.toArray Q sch EK E2 m):WC c P (.region id l.toArray true) Q E m:=by
 obtain ⟨_,h2⟩:=lu hE
 exact WC.heldS sch P0 ks hm hsel hlen hB hP0 hKN hK hmK hks (fun t=>(h2 t).1) (fun t=>(h2 t).2) hp h
end
end LJ
namespace LJ
open Go Go.RowKit
set_option linter.unusedVariables false
set_option linter.unusedSimpArgs false
def AVle (p q:AV):Prop:=∀ F N w v,Rep F N w v p→Rep F N w v q
theorem AVle.of {p q:AV} (h:p=q):AVle p q:=by subst h;exact fun _ _ _ _ h=>h
def wk (E:Env):Env→Prop
 | []=>True
 | (k,v)::l=>AVle (E.get k) v∧wk E l
structure gu (E:Env) (m:Mem) (E':Env) (m':Mem):Prop where
 env:∀ t,AVle (E.get t) (E'.get t)
 mem:∀ n o,m'.get n=some o→m.get n=some o
theorem gu.mk' {E E':Env} {m m':Mem} (h1:wk E E') (h2:dc m m'):gu E m E' m':=by
 refine ⟨fun t=>?_,fun n o hn=>h2.get hn⟩
 induction E' with
 | nil=>exact fun _ _ _ _ _=> .und
 | cons p l ih=>
  obtain ⟨k,v⟩:=p
  simp only [Env.get]
  cases e:Nat.beq k t with
  | true=>rw [←Nat.eq_of_beq_eq_true e];exact h1.1
  | false=>exact ih h1.2
theorem WC.lessW {c:Ctx} {P:Program} {Q:Exit→Env→Mem→Prop} {E E':Env} {m m':Mem} {C:Code} (hl:gu E m E' m') (h:WC c P C Q E' m'):WC c P C Q E m:=fun a w hr=>
 (WC.less ⟨fun t=> .inr rfl,hl.mem⟩ (fun a w hr=>h a w (hr.weaker fun F N v t=>hl.env t F N w v)):WC c P C Q E m) a w hr
def hO {α β γ:Type} (K:α→β) (f:(α→β)→γ):γ:=f K
theorem du {α β γ:Type} {K:α→β} {f:(α→β)→Option γ} {r:γ} (h:hO K f=some r):∃ K',(∀ s,K' s=K s)∧f K'=some r:=⟨K,fun _=>rfl,h⟩
theorem wm {s:ByteArray} {n:Nat} (h:s.size+n≤140737488355328):(b8 s).length+n≤140737488355328:=by rw [gB];exact h
def xc (Ef:Env) (mf:Mem):Exit→Env→Mem→Prop:=fun x E m=>x= .normal∧E=Ef∧m=mf
theorem WC.heldF {c:Ctx} {P:Program} {Q:Exit→Env→Mem→Prop} {E EK E2:Env} {m mK:Mem} {id:Nat} {l:List Oper} (Ef:Env) (mf:Mem) (sch:Sch) (P0 ks:List Nat) (hm:P.follows .mixedOrders=true) (hsel:Region.noSelect l.toArray=true) (hlen:Nat.beq sch.len l.length=true) (hB:schB l.toArray sch true (Array.replicate l.length false)=true)
  (hP0:c.P0.all (fun n=>inl P0 n)=true) (hKN:c.KN=[]) (hK:∀ b,c.K b→False) (hmK:pR ks m=some mK) (hks:mK.all (fun p=>inl ks p.1)=true)
  (hE:Env.parts P0 E []=(EK,E2))
  (h:∀ FK NK wK K,WH true c {w0:=c.w0,F0:=FK,S0:=c.S0,ntmps:=c.ntmps,dfs:=c.dfs,P0:=P0,B0:=NK,K:=K,wK:=wK,KN:=ks} ⟨FK,NK,wK,mK⟩ P l.toArray (xc Ef mf) sch EK E2 m) (hc:Q .normal Ef mf):WC c P (.region id l.toArray true) Q E m:=fun a w hr=>
 wp_mono (WC.heldP sch P0 ks hm hsel hlen hB hP0 hKN hK hmK hks hE (fun ch E m h=>by cases h.1) h a w hr) (fun x a' w' hx=>by
  obtain ⟨E',m',⟨rfl,rfl,rfl⟩,h2⟩:=hx
  exact ⟨_,_,hc,h2⟩)
theorem WH.nilF {c0 c:Ctx} {s:Stay} {P:Program} {ops:Array Oper} {EK E Ef:Env} {m mf:Mem} (hf:fR c.P0 EK=true) (hl:gu (EK++E) m Ef mf):WH true c0 c s P ops (xc Ef mf) .done EK E m:=fun hs _ _ a w listed hB hr hk=>by
 simp only [schB,Bool.and_eq_true,List.isEmpty_iff] at hB
 have h1:=hs.both hr hk hf
 have h2:Rel c Ef mf a w:=Less.rel ⟨fun t=> .inr rfl,hl.mem⟩ (h1.weaker fun F N v t=>hl.env t F N w v)
 exact wpAnyH_done hB.2 ⟨_,_,⟨rfl,rfl,rfl⟩,hs.back _ _ _ _ h2⟩ _
end LJ
