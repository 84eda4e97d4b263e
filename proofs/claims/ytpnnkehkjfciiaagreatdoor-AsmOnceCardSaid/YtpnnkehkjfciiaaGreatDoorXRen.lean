/- A logic for the walks: other names. -/
import Derived.Test.YtpnnkehkjfciiaaGreatDoorXStep
namespace LJ
open Go Go.RowKit
set_option linter.unusedVariables false
set_option linter.unusedSimpArgs false
def AV.ren1 (ρ:Nat→Nat):AV→AV
 | .own n=> .own (ρ n)
 | .ptr n o=> .ptr (ρ n) o
 | .optp b n o=> .optp b (ρ n) o
 | .rel n o=> .rel (ρ n) o
 | .psl n o a b=> .psl (ρ n) o a b
 | .rsl n o a b=> .rsl (ρ n) o a b
 | .qel n o=> .qel (ρ n) o
 | .tup _=> .und
 | p=>p
def AV.ren (ρ:Nat→Nat):AV→AV
 | .own n=> .own (ρ n)
 | .ptr n o=> .ptr (ρ n) o
 | .optp b n o=> .optp b (ρ n) o
 | .rel n o=> .rel (ρ n) o
 | .psl n o a b=> .psl (ρ n) o a b
 | .rsl n o a b=> .rsl (ρ n) o a b
 | .qel n o=> .qel (ρ n) o
 | .tup vs=> .tup (vs.map (AV.ren1 ρ))
 | p=>p
def AObj.ren (ρ:Nat→Nat):AObj→AObj
 | .box T cs=> .box T (cs.map (AV.ren1 ρ))
 | .row E sz es=> .row E sz es
 | .que E sz es=> .que E sz es
 | .rowl E sz k c es=> .rowl E sz k (c.map ρ) es
def Mem.ren (ρ:Nat→Nat):Mem→Mem
 | []=>[]
 | (k,o)::l=>(ρ k,o.ren ρ)::Mem.ren ρ l
def aI.ren (ρ:Nat→Nat) (N:aI):aI:=⟨fun n=>N.β (ρ n),fun n=>N.σ (ρ n)⟩
section
variable {ρ ρi:Nat→Nat} {F:Nat→Prop} {N:aI} {w:World}
theorem Rep.ren1 {v:Value} {p:AV} (hp:∀ vs,p≠ .tup vs):Rep F (N.ren ρ) w v p↔Rep F N w v (p.ren1 ρ):=by
 cases p with
 | own n=>exact ⟨fun h=>by cases h;exact .own,fun h=>by rw [show v=N.σ (ρ n) from h.own_inv];exact Rep.own (N:=N.ren ρ)⟩
 | ptr n o=>exact ⟨fun h=>by cases h;exact .ptr,fun h=>by rw [show v=_ from h.ptr_inv];exact Rep.ptr (N:=N.ren ρ)⟩
 | optp b n o=>exact ⟨fun h=>by cases h;exact .optp,fun h=>by rw [show v=_ from h.optp_inv];exact Rep.optp (N:=N.ren ρ)⟩
 | rel n o=>exact ⟨fun h=>by cases h with | rel hg=>exact .rel hg,fun h=>by cases h with | rel hg=>exact .rel hg⟩
 | psl n o a b=>exact ⟨fun h=>by cases h with | psl ho=>exact .psl ho,fun h=>by cases h with | psl ho=>exact Rep.psl (N:=N.ren ρ) ho⟩
 | rsl n o a b=>exact ⟨fun h=>by cases h with | rsl hg ho=>exact .rsl hg ho,fun h=>by cases h with | rsl hg ho=>exact .rsl hg ho⟩
 | qel n o=>exact ⟨fun h=>by cases h with | qel hg=>exact .qel hg,fun h=>by cases h with | qel hg=>exact .qel hg⟩
 | tup vs=>exact absurd rfl (hp vs)
 | d x=>exact ⟨fun h=> .d h.d_inv,fun h=> .d h.d_inv⟩
 | when b x=>exact ⟨fun h=>by cases h with | when h1 h2=>exact .when h1 h2,fun h=>by cases h with | when h1 h2=>exact .when h1 h2⟩
 | und=>exact ⟨fun _=> .und,fun _=> .und⟩
theorem Rep.ren1_of {v:Value} {p:AV} (h:Rep F (N.ren ρ) w v p):Rep F N w v (p.ren1 ρ):=by
 by_cases hp:∃ vs,p= .tup vs
 ·obtain ⟨vs,rfl⟩:=hp
  exact .und
 ·exact (Rep.ren1 (fun vs he=>hp ⟨vs,he⟩)).1 h
theorem Rep.ren_of {v:Value} {p:AV} (h:Rep F (N.ren ρ) w v p):Rep F N w v (p.ren ρ):=by
 cases h with
 | tup hl h=>
  refine .tup (by simpa using hl) fun i v c hv hc=>?_
  rw [List.getElem?_map] at hc
  obtain ⟨c0,hc0,rfl⟩:=Option.map_eq_some_iff.1 hc
  exact (h i v c0 hv hc0).ren1_of
 | own=>exact Rep.ren1_of (p:= .own _) .own
 | ptr=>exact Rep.ren1_of (p:= .ptr _ _) .ptr
 | optp=>exact Rep.ren1_of (p:= .optp _ _ _) .optp
 | rel h=>exact Rep.ren1_of (p:= .rel _ _) (.rel h)
 | psl ho=>exact Rep.ren1_of (p:= .psl _ _ _ _) (.psl ho)
 | rsl h ho=>exact Rep.ren1_of (p:= .rsl _ _ _ _) (.rsl h ho)
 | qel h=>exact Rep.ren1_of (p:= .qel _ _) (.qel h)
 | d h=>exact .d h
 | when h hu=>exact .when h hu
 | und=>exact .und
theorem Mem.get_ren (hρ:∀ n,ρi (ρ n)=n):∀ (m:Mem) (n:Nat),(m.ren ρ).get (ρ n)=(m.get n).map (AObj.ren ρ)
 | [],n=>rfl
 | (k,o)::l,n=>by
  simp only [Mem.ren,Mem.get]
  cases e:Nat.beq k n with
  | true=>
   have:=Nat.eq_of_beq_eq_true e
   subst this
   rw [Nat.beq_refl]
   rfl
  | false=>
   have:Nat.beq (ρ k) (ρ n)=false:=by
    cases e':Nat.beq (ρ k) (ρ n) with
    | false=>rfl
    | true=>
     have:=congrArg ρi (Nat.eq_of_beq_eq_true e')
     rw [hρ,hρ] at this
     rw [this,Nat.beq_refl] at e
     cases e
   rw [this]
   exact Mem.get_ren hρ l n
theorem Mem.ren_get (hρ:∀ n,ρi (ρ n)=n):∀ {m:Mem} {n:Nat} {o:AObj},(m.ren ρ).get n=some o→∃ k o',n=ρ k∧m.get k=some o'∧o=o'.ren ρ
 | [],n,o,h=>by cases h
 | (k,x)::l,n,o,h=>by
  simp only [Mem.ren,Mem.get] at h
  cases e:Nat.beq (ρ k) n with
  | true=>
   rw [e] at h
   simp only [cond_true,Option.some.injEq] at h
   refine ⟨k,x,(Nat.eq_of_beq_eq_true e).symm,?_,h.symm⟩
   simp [Mem.get]
  | false=>
   rw [e] at h
   obtain ⟨k',o',h1,h2,h3⟩:=Mem.ren_get hρ (m:=l) h
   refine ⟨k',o',h1,?_,h3⟩
   have:Nat.beq k k'=false:=by
    cases e':Nat.beq k k' with
    | false=>rfl
    | true=>
     rw [Nat.eq_of_beq_eq_true e',←h1,Nat.beq_refl] at e
     cases e
   simp only [Mem.get,this,cond_false]
   exact h2
def AObj.noTup:AObj→Bool
 | .box _ cs=>cs.all fun | .tup _=>false | _=>true
 | .row _ _ _=>true
 | .que _ _ _=>true
 | .rowl _ _ _ _ _=>true
def Mem.noTup:Mem→Bool
 | []=>true
 | (_,o)::l=>o.noTup&&Mem.noTup l
theorem Mem.noTup_get:∀ {m:Mem},m.noTup=true→∀ {n:Nat} {o:AObj},m.get n=some o→o.noTup=true
 | [],_,n,o,h=>by cases h
 | (k,x)::l,hn,n,o,h=>by
  simp only [Mem.noTup,Bool.and_eq_true] at hn
  simp only [Mem.get] at h
  cases e:Nat.beq k n with
  | true=>
   rw [e] at h
   simp only [cond_true,Option.some.injEq] at h
   subst h
   exact hn.1
  | false=>rw [e] at h;exact Mem.noTup_get hn.2 h
theorem db.ren {n:Nat} {o:AObj} (ho:o.noTup=true) (h:db F N w (ρ n) (o.ren ρ)):db F (N.ren ρ) w n o:=by
 cases o with
 | box T cs=>
  obtain ⟨vs,h1,h2,h3⟩:=h
  refine ⟨vs,h1,by simpa using h2,fun i v c hv hc=>?_⟩
  have hm:=List.all_eq_true.1 (show List.all _ _=true from ho) c (List.mem_of_getElem? hc)
  refine (Rep.ren1 (fun us he=>by subst he;cases hm)).2 (h3 i v _ hv ?_)
  rw [List.getElem?_map,hc];rfl
 | row E sz es=>exact h
 | que E sz es=>exact h
 | rowl E sz k c es=>
  obtain ⟨vs,h1,h2,h3,h4,h5⟩:=h
  refine ⟨vs,h1,h2,h3,h4,fun j hj he=>?_⟩
  subst hj
  exact h5 (ρ j) rfl he
theorem db.ren_of {n:Nat} {o:AObj} (h:db F (N.ren ρ) w n o):db F N w (ρ n) (o.ren ρ):=by
 cases o with
 | box T cs=>
  obtain ⟨vs,h1,h2,h3⟩:=h
  refine ⟨vs,h1,by simpa using h2,fun i v c hv hc=>?_⟩
  rw [List.getElem?_map] at hc
  obtain ⟨c0,hc0,rfl⟩:=Option.map_eq_some_iff.1 hc
  exact (h3 i v c0 hv hc0).ren1_of
 | row E sz es=>exact h
 | que E sz es=>exact h
 | rowl E sz k c es=>
  obtain ⟨vs,h1,h2,h3,h4,h5⟩:=h
  refine ⟨vs,h1,h2,h3,h4,fun j hj he=>?_⟩
  obtain ⟨i,hi,rfl⟩:=Option.map_eq_some_iff.1 hj
  exact h5 i hi he
theorem fQ (n:Nat) (o:AObj):blk (N.ren ρ) n o=blk N (ρ n) (o.ren ρ):=by cases o <;> rfl
theorem mc.ren (hρ:∀ n,ρi (ρ n)=n) {m:Mem} (hn:m.noTup=true) (h:mc F N w (m.ren ρ)):mc F (N.ren ρ) w m:=by
 have key:∀ {n:Nat} {o:AObj},m.get n=some o→(m.ren ρ).get (ρ n)=some (o.ren ρ):=fun {n o} hg=>by rw [Mem.get_ren hρ,hg];rfl
 refine ⟨h.glob,h.Fin,fun n o hg=>db.ren (Mem.noTup_get hn hg) (h.obj _ _ (key hg)),fun n o b hg hb=>h.free _ _ b (key hg) (by rw [←fQ];exact hb),fun n n' o o' b hg hg' hb hb'=>?_⟩
 have:=h.apart _ _ _ _ b (key hg) (key hg') (by rw [←fQ];exact hb) (by rw [←fQ];exact hb')
 have:=congrArg ρi this
 rwa [hρ,hρ] at this
theorem ik.ren (hρ:∀ n,ρi (ρ n)=n) {m:Mem} {b:Nat} :ik (N.ren ρ) m b↔ik N (m.ren ρ) b:=by
 constructor
 ·rintro ⟨n,o,hg,hb⟩
  exact ⟨ρ n,o.ren ρ,by rw [Mem.get_ren hρ,hg];rfl,by rw [←fQ];exact hb⟩
 ·rintro ⟨n,o,hg,hb⟩
  obtain ⟨k,o',rfl,h2,rfl⟩:=Mem.ren_get hρ hg
  exact ⟨k,o',h2,by rw [fQ];exact hb⟩
def sU (ps:List AV):Bool:=ps.all fun | .tup _=>false | _=>true
theorem uM {vals:List Value} {args:List AV} (ha:sU args=true) (h:∀ (i:Nat) (v:Value) (p:AV),vals[i]? =some v→(args.map (AV.ren1 ρ))[i]? =some p→Rep F N w v p):∀ (i:Nat) (v:Value) (p:AV),vals[i]? =some v→args[i]? =some p→Rep F (N.ren ρ) w v p:=by
 intro i v p hv hp
 have hm:=List.all_eq_true.1 (show List.all _ _=true from ha) p (List.mem_of_getElem? hp)
 refine (Rep.ren1 (fun us he=>by subst he;cases hm)).2 (h i v _ hv ?_)
 rw [List.getElem?_map,hp];rfl
theorem Spec.ren {P:Program} {f:FuncId} {args:List AV} {m0 m1:Mem} {out:AV} (hρ:∀ n,ρi (ρ n)=n) (ha:sU args=true) (hm:m0.noTup=true) (h:Spec P f args m0 out m1):Spec P f (args.map (AV.ren1 ρ)) (m0.ren ρ) (out.ren ρ) (m1.ren ρ):=by
 intro F N w vals hmem hl hv
 refine (h F (N.ren ρ) w vals (hmem.ren hρ hm) (by simpa using hl) (uM ha hv)).mono ?_
 rintro e w' ⟨v,F',N',hd⟩
 have hN:N'=aI.ren ρ (N'.ren ρi):=by
  cases N'
  simp only [aI.ren,hρ]
 have hd':=hd
 rw [hN] at hd'
 refine ⟨v,F',N'.ren ρi,hd'.ending,hd'.rep.ren_of,⟨hd'.mem.glob,hd'.mem.Fin,?_,?_,?_⟩,hd.le,fun b hb=>?_,hd.os,hd.tape,hd.output,hd.size,fun b hb hn=>hd.kept b hb (fun hi=>hn ((ik.ren hρ).1 hi)),?_,?_⟩
 ·intro n o hg
  obtain ⟨k,o',rfl,h2,rfl⟩:=Mem.ren_get hρ hg
  exact (hd'.mem.obj k o' h2).ren_of
 ·intro n o b hg hb
  obtain ⟨k,o',rfl,h2,rfl⟩:=Mem.ren_get hρ hg
  exact hd'.mem.free k o' b h2 (by rw [fQ];exact hb)
 ·intro n n' o o' b hg hg' hb hb'
  obtain ⟨k,x,rfl,h2,rfl⟩:=Mem.ren_get hρ hg
  obtain ⟨k',x',rfl,h2',rfl⟩:=Mem.ren_get hρ hg'
  rw [hd'.mem.apart k k' x x' b h2 h2' (by rw [fQ];exact hb) (by rw [fQ];exact hb')]
 ·rcases hd.new b hb with h1 | h1 | h1
  ·exact .inl h1
  ·exact .inr (.inl h1)
  ·exact .inr (.inr ((ik.ren hρ).1 h1))
 ·intro n o b hg hb
  obtain ⟨k,o',rfl,h2,rfl⟩:=Mem.ren_get hρ hg
  rcases hd'.blocks k o' b h2 (by rw [fQ];exact hb) with h1 | h1
  ·exact .inl ((ik.ren hρ).1 h1)
  ·exact .inr h1
 ·intro n T cs hg
  obtain ⟨k,o',rfl,h2,h3⟩:=Mem.ren_get hρ hg
  cases o' with
  | row E sz es=>cases h3
  | que E sz es=>cases h3
  | rowl E sz k c es=>cases h3
  | box T' cs'=>
   have:=hd.boxes k T' cs' h2
   show N'.β (ρi (ρ k))=N.β (ρ k)
   rw [hρ]
   exact this
end
def sumL:List Nat→Nat
 | []=>0
 | x::l=>x+sumL l
def rho (ns:List Nat) (i:Nat):Nat:=
 match nth ns i with
 | some n=>n
 | none=>sumL ns+1+i
def idx:List Nat→Nat→Option Nat
 | [],_=>none
 | x::l,n=>cond (Nat.beq x n) (some 0) ((idx l n).map (· +1))
def rhoI (ns:List Nat) (n:Nat):Nat:=
 match idx ns n with
 | some i=>i
 | none=>n - (sumL ns+1)
def ib:List Nat→Bool
 | []=>true
 | x::l=> !(inl l x)&&ib l
theorem sV:∀ {ns:List Nat} {i n:Nat},nth ns i=some n→inl ns n=true
 | [],i,n,h=>by cases h
 | x::l,0,n,h=>by simp only [nth,Option.some.injEq] at h;subst h;simp [inl]
 | x::l,i+1,n,h=>by
  have:=sV (ns:=l) h
  simp only [inl,this]
  cases Nat.beq x n <;> rfl
theorem sW:∀ {ns:List Nat} {i n:Nat},ib ns=true→nth ns i=some n→idx ns n=some i
 | [],i,n,hd,h=>by cases h
 | x::l,0,n,hd,h=>by simp only [nth,Option.some.injEq] at h;subst h;simp [idx]
 | x::l,i+1,n,hd,h=>by
  simp only [ib,Bool.and_eq_true,Bool.not_eq_true'] at hd
  have hl:nth l i=some n:=h
  have hne:Nat.beq x n=false:=by
   cases e:Nat.beq x n with
   | false=>rfl
   | true=>
    have:=Nat.eq_of_beq_eq_true e
    subst this
    rw [sV hl] at hd
    cases hd.1
  simp only [idx,hne,cond_false,sW hd.2 hl,Option.map_some]
theorem qT:∀ {ns:List Nat} {n:Nat},sumL ns<n→idx ns n=none
 | [],n,h=>rfl
 | x::l,n,h=>by
  simp only [sumL] at h
  have hne:Nat.beq x n=false:=by
   cases e:Nat.beq x n with
   | false=>rfl
   | true=>have:=Nat.eq_of_beq_eq_true e;omega
  have ih:=qT (ns:=l) (n:=n) (by omega)
  simp only [idx,hne,cond_false,ih,Option.map_none]
theorem wi {ns:List Nat} (h:ib ns=true) (n:Nat):rhoI ns (rho ns n)=n:=by
 unfold rho
 split
 ·rename_i k hk
  simp only [rhoI,sW h hk]
 ·simp only [rhoI,qT (ns:=ns) (n:=sumL ns+1+n) (by omega)]
  omega
def nilF (P0 KN:List Nat) (n i r E' sz:Nat) (E:Env) (m:Mem):Option (Env×Mem):=
 match m.get n with
 | some (.box T cs)=>match nth cs i with
  | some (.d .nils)=>match okN P0 KN r&& !(inl KN n)&& !(Nat.beq n r) with
   | false=>none
   | true=>match fgtE [r] E,fgtC [r] cs,fgtM [r] m with
    | some E1,some cs1,some m1=>match eC (cs1.set i (.own r)) with
     | some cs2=>match eC (Mem.set n (.box T cs2) ((r, .row E' sz [])::m1)) with
      | some m2=>some (E1,m2)
      | none=>none
     | none=>none
    | _,_,_=>none
  | _=>none
 | _=>none
theorem sX {c:Ctx} {n i r E' sz:Nat} {E E1:Env} {m m1:Mem} (h:nilF c.P0 c.KN n i r E' sz E m=some (E1,m1)) {a:Act} {w:World} (hr:Rel c E m a w):Rel c E1 m1 a w:=by
 unfold nilF at h
 split at h
 ·rename_i T cs hn
  split at h
  ·rename_i hi
   split at h
   ·cases h
   ·rename_i hb
    simp only [Bool.and_eq_true,Bool.not_eq_true'] at hb
    obtain ⟨k1,k2⟩:=gq hb.1.1
    split at h
    ·rename_i E2 cs1 m2 h1 h2 h3
     split at h
     ·rename_i cs2 h4
      split at h
      ·rename_i m3 h5
       simp only [Option.some.injEq,Prod.mk.injEq] at h
       obtain ⟨rfl,rfl⟩:=h
       rw [ep] at hi
       rw [bt h5,bt h4,dd h1,nq h2,de h3]
       exact hr.nilcell r E' sz hn hi (Nat.ne_of_beq_eq_false hb.2) k1 k2 hb.1.2
      ·cases h
     ·cases h
    ·cases h
  ·cases h
 ·cases h
theorem WL.nilF {P:Program} {c:Ctx} {ops:Array Oper} {Q:Exit→Env→Mem→Prop} {l:List Oper} {E E1:Env} {m m1:Mem} (n i r E' sz:Nat) (h:LJ.nilF c.P0 c.KN n i r E' sz E m=some (E1,m1)) (hk:WL c P ops Q l E1 m1):WL c P ops Q l E m:=fun a w hr=>hk a w (sX h hr)
theorem WC.nilF {P:Program} {c:Ctx} {Q:Exit→Env→Mem→Prop} {C:Code} {E E1:Env} {m m1:Mem} (n i r E' sz:Nat) (h:LJ.nilF c.P0 c.KN n i r E' sz E m=some (E1,m1)) (hk:WC c P C Q E1 m1):WC c P C Q E m:=fun a w hr=>hk a w (sX h hr)
def rho1 (a n x:Nat):Nat:=cond (Nat.beq x a) n (x+(n+a+1))
def ye (a n y:Nat):Nat:=cond (Nat.beq y n) a (y - (n+a+1))
end LJ
