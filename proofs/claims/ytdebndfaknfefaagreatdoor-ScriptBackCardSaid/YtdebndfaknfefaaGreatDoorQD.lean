/- Several texts of plain Lean, one behind the other. No condition. -/
import Derived.Test.YtdebndfaknfefaaGreatDoorQB
import Derived.Test.YtdebndfaknfefaaGreatDoorQA
import Derived.Test.YtdebndfaknfefaaGreatDoorQC
import Derived.Test.YtdebndfaknfefaaGreatDoorCF
section
namespace LJ
open Go Go.RowKit
set_option linter.unusedVariables false
set_option linter.unusedSimpArgs false
def putE (x:ax):List UInt8:=UInt8.ofNat x.Kind.toNat::(numL (zig x.A)++cond (iEq x.Kind 1) (numL (zig x.B)) [])
def j9:List UInt8:=[76,83,1]
def wz (s:ar):List UInt8:=numL s.Config.Mode.toNat++(numL s.Config.Workers.toNat++(numL s.Config.Quantum.toNat++(numL s.Config.Policy.toNat++((numL (putP s.Program).length++putP s.Program)++(numL s.Events.length++s.Events.flatMap putE)))))
def putS (s:ar):List UInt8:=j9++wz s
structure OkE (x:ax):Prop where
 k:x.Kind=1∨x.Kind=2
 a: -9223372036854775808≤x.A∧x.A<9223372036854775808
 b: -9223372036854775808≤x.B∧x.B<9223372036854775808
 z:x.Kind=2→x.B=0
structure OkC (c:ba):Prop where
 m:0≤c.Mode∧c.Mode≤2
 w:1≤c.Workers∧c.Workers≤8
 q:1≤c.Quantum∧c.Quantum≤100
 p:0≤c.Policy∧c.Policy≤3
structure OkS (s:ar):Prop where
 c:OkC s.Config
 p:chkP s.Program=0
 n:s.Events.length≤4000
 e:∀ x∈s.Events,OkE x
def intP (l:List UInt8):Int ⊕ (Int×List UInt8):=two (zag (rdN l 0).2.1,(rdN l 0).1,(rdN l 0).2.2)
def A4 (l:List UInt8):Int ⊕ (List UInt8×List UInt8):=two ((rdT l 0).2.1,(rdT l 0).1,(rdT l 0).2.2)
def evP:List UInt8→Int ⊕ (ax×List UInt8)
 | []=> .inl 3
 | b::t=>cond (iEq (b.toNat:Int) 1) (sb (intP t) fun a=>sb (intP a.2) fun c=> .inr (⟨1,a.1,c.1⟩,c.2)) (cond (iEq (b.toNat:Int) 2) (sb (intP t) fun a=> .inr (⟨2,a.1,0⟩,a.2)) (.inl 6))
def yA (l:List UInt8):Int ⊕ ((ba×List UInt8)×List UInt8):=sb (numP l) fun m=>sb (numP m.2) fun w=>sb (numP w.2) fun q=>sb (numP q.2) fun y=>sb (A4 y.2) fun t=> .inr ((⟨cap m.1,cap w.1,cap q.1,cap y.1⟩,t.1),t.2)
def gP (l:List UInt8):Int ⊕ aa:=cond (iEq (getP l).2 0) (.inr (getP l).1) (.inl (getP l).2)
def scP (l:List UInt8):Int ⊕ (ar×List UInt8):=sb (yA l) fun c=>sb (gP c.1.2) fun p=>sb (ki 4000 c.2) fun n=>sb (repP evP n.1 n.2 []) fun v=> .inr (⟨c.1.1,p,v.1⟩,v.2)
def noS:ar:=⟨⟨0,0,0,0⟩,noP,[]⟩
def clS (chk:ar→Int) (r:ar×List UInt8):Int ⊕ ar:=cond (iEq (r.2.length:Int) 0) (cond (iEq (chk r.1) 0) (.inr r.1) (.inl (chk r.1))) (.inl 2)
def outS:Int ⊕ ar→ar×Int
 | .inl e=>(noS,e)
 | .inr s=>(s,0)
def getS (chk:ar→Int) (l:List UInt8):ar×Int:=cond (sEq (bs (l.take 3)) (bs j9)) (outS (sb (scP (l.drop 3)) (clS chk))) (noS,2)
theorem sY {x:Int} (h: -9223372036854775808≤x∧x<9223372036854775808) (t:List UInt8):intP (numL (zig x)++t)= .inr (x,t):=by
 unfold intP
 rw [eB (kt h.1 h.2),gl rfl,vu]
theorem DH {x t:List UInt8} (h:x.length<18446744073709551616):rdT (numL x.length++(x++t)) 0=(0,x,t):=by
 unfold rdT
 rw [eB h,if_neg (by simp),if_neg (by simp)]
 dsimp only
 rw [List.take_left,List.drop_left]
theorem A5 {x:List UInt8} (h:x.length<18446744073709551616) (t:List UInt8):A4 ((numL x.length++x)++t)= .inr (x,t):=by
 unfold A4
 rw [List.append_assoc,DH h,gl rfl]
theorem DI {x:ax} (h:OkE x) (t:List UInt8):evP (putE x++t)= .inr (x,t):=by
 obtain ⟨K,A,B⟩:=x
 have h1:=h.k
 have ha:=h.a
 have hb:=h.b
 have hz:=h.z
 dsimp only at h1 ha hb hz
 unfold putE
 dsimp only
 rcases h1 with rfl | rfl
 ·rw [aO rfl,cond_true,List.cons_append,evP,aO (by rfl),cond_true,List.append_assoc,sY ha,bD]
  dsimp only
  rw [sY hb,bD]
 ·rw [aK (by decide),cond_false,List.append_nil,List.cons_append,evP,aK (by decide),cond_false,aO (by rfl),cond_true,sY ha,bD,hz rfl]
theorem xO {n:Int} (h:0≤n∧n≤2147483648):cap n.toNat=n:=by
 unfold cap
 omega
theorem A6 {c:ba} (h:OkC c) {x:List UInt8} (hx:x.length<18446744073709551616) (t:List UInt8):yA (numL c.Mode.toNat++(numL c.Workers.toNat++(numL c.Quantum.toNat++(numL c.Policy.toNat++((numL x.length++x)++t)))))= .inr ((c,x),t):=by
 have hm:=h.m
 have hw:=h.w
 have hq:=h.q
 have hp:=h.p
 unfold yA
 rw [jk (by omega),bD]
 dsimp only
 rw [jk (by omega),bD]
 dsimp only
 rw [jk (by omega),bD]
 dsimp only
 rw [jk (by omega),bD]
 dsimp only
 rw [A5 hx,bD]
 dsimp only
 rw [xO (by omega),xO (by omega),xO (by omega),xO (by omega)]
theorem A7 {n:Nat} (h:n≤4000) (t:List UInt8):ki 4000 (numL n++t)= .inr (n,t):=by
 unfold ki
 rw [jk (by omega),bD]
 dsimp only
 rw [aW (by omega),cond_false]
theorem Eu {p:aa} (h:chkP p=0):gP (putP p)= .inr p:=by
 unfold gP
 rw [BU h,aO rfl,cond_true]
theorem A8 {s:ar} (h:OkS s) (t:List UInt8):scP (wz s++t)= .inr (s,t):=by
 have hl:=sP (kG.of h.p)
 unfold wz scP
 rw [List.append_assoc,List.append_assoc,List.append_assoc,List.append_assoc,List.append_assoc,A6 h.c (by omega),bD]
 dsimp only
 rw [Eu h.p,bD]
 rw [List.append_assoc,A7 h.n,bD]
 dsimp only
 rw [na (put:=putE) s.Events [] t (fun x hx t=>DI (h.e x hx) t),bD]
 rfl
theorem uT (chk:ar→Int) (l:List UInt8):getS chk (j9++l)=outS (sb (scP l) (clS chk)):=by
 unfold getS
 rw [show (j9++l).take 3=j9 from rfl,show (j9++l).drop 3=l from rfl,yc rfl,cond_true]
theorem sZ {chk:ar→Int} {s:ar} (h:OkS s) (hc:chk s=0):getS chk (putS s)=(s,0):=by
 have:=A8 h []
 rw [List.append_nil] at this
 unfold putS
 rw [uT,this,bD]
 unfold clS
 dsimp only
 rw [aO (show (([]:List UInt8).length:Int)=0 from rfl),aO hc]
 rfl
theorem uU {chk:ar→Int} {s:ar} (h:OkS s) {t:List UInt8} (ht:t≠[]):(getS chk (putS s++t)).2=2:=by
 have hl:t.length≠0:=fun h=>ht (List.length_eq_zero_iff.1 h)
 unfold putS
 rw [List.append_assoc,uT,A8 h,bD]
 unfold clS
 dsimp only
 rw [aK (by omega)]
 rfl
theorem zagR {n:Nat} (h:n<18446744073709551616): -9223372036854775808≤zag n∧zag n<9223372036854775808:=by
 unfold zag
 split <;> omega
theorem s0 {l:List UInt8} {x:Int} {t:List UInt8} (h:intP l= .inr (x,t)):l=numL (zig x)++t∧ -9223372036854775808≤x∧x<9223372036854775808:=by
 obtain ⟨h1,h2⟩:=fK h
 cases h2
 dsimp only at h1
 obtain ⟨h3,h4⟩:=eC h1
 refine ⟨?_,zagR h4⟩
 rw [vv]
 exact h3
theorem A9 {l x t:List UInt8} (h:A4 l= .inr (x,t)):l=(numL x.length++x)++t:=by
 obtain ⟨h1,h2⟩:=fK h
 cases h2
 dsimp only at h1 ⊢
 unfold rdT at h1 ⊢
 by_cases h0:(rdN l 0).1≠0
 ·rw [if_pos h0] at h1
  exact absurd h1 h0
 ·rw [if_neg h0] at h1 ⊢
  have h3:=(eC (Decidable.not_not.1 h0)).1
  by_cases h4:(rdN l 0).2.2.length<(rdN l 0).2.1
  ·rw [if_pos h4] at h1
   exact absurd h1 (by decide)
  ·rw [if_neg h4]
   dsimp only
   rw [List.length_take,Nat.min_eq_left (by omega),List.append_assoc,List.take_append_drop]
   exact h3
theorem Ba (l:List UInt8) (x:ax) (t:List UInt8) (h:evP l= .inr (x,t)):l=putE x++t∧OkE x:=by
 cases l with
 | nil=>cases h
 | cons b l=>
  rw [evP] at h
  by_cases h1:(b.toNat:Int)=1
  ·rw [aO h1,cond_true] at h
   obtain ⟨⟨a,l1⟩,ha,h⟩:=fr h
   obtain ⟨⟨c,l2⟩,hc,h⟩:=fr h
   cases h
   obtain ⟨ha1,ha2⟩:=s0 ha
   obtain ⟨hc1,hc2⟩:=s0 hc
   refine ⟨?_,⟨.inl rfl,ha2,hc2,fun e=>by cases e⟩⟩
   unfold putE
   dsimp only at*
   rw [aO rfl,cond_true,List.cons_append,List.append_assoc,←hc1,←ha1]
   congr 1
   rw [show (1:Int).toNat=b.toNat by omega,fD]
  ·rw [aK h1,cond_false] at h
   by_cases h2:(b.toNat:Int)=2
   ·rw [aO h2,cond_true] at h
    obtain ⟨⟨a,l1⟩,ha,h⟩:=fr h
    cases h
    obtain ⟨ha1,ha2⟩:=s0 ha
    refine ⟨?_,⟨.inr rfl,ha2,⟨by show (-9223372036854775808:Int)≤0;decide,by show (0:Int)<9223372036854775808;decide⟩,fun _=>rfl⟩⟩
    unfold putE
    dsimp only at*
    rw [aK (by decide),cond_false,List.append_nil,List.cons_append,←ha1]
    congr 1
    rw [show (2:Int).toNat=b.toNat by omega,fD]
   ·rw [aK h2,cond_false] at h
    cases h
theorem xP:∀ (n:Nat) (l:List UInt8) (acc r:List ax) (t:List UInt8),repP evP n l acc= .inr (r,t)→∃ L,r=acc++L∧L.length=n∧l=L.flatMap putE++t∧∀ x∈L,OkE x
 | 0,l,acc,r,t,h=>by
  rw [repP] at h
  cases h
  exact ⟨[],by simp,rfl,rfl,fun x hx=>by cases hx⟩
 | n+1,l,acc,r,t,h=>by
  rw [repP] at h
  obtain ⟨⟨x,l1⟩,h1,h⟩:=fr h
  obtain ⟨L,e1,e2,e3,e4⟩:=xP n l1 _ r t h
  obtain ⟨hx,ho⟩:=Ba _ _ _ h1
  refine ⟨x::L,by rw [e1];simp,by simp [e2],by rw [List.flatMap_cons,List.append_assoc,←e3];exact hx,fun y hy=>?_⟩
  rcases List.mem_cons.1 hy with rfl | hy
  ·exact ho
  ·exact e4 y hy
theorem Ev {l:List UInt8} {p:aa} (h:gP l= .inr p):chkP p=0∧l=putP p:=by
 unfold gP at h
 by_cases h0:(getP l).2=0
 ·rw [aO h0,cond_true] at h
  cases h
  exact BW h0
 ·rw [aK h0,cond_false] at h
  cases h
theorem ta {n:Nat} {m:Int} (hm:m≤100) (h:cap n=m):n=m.toNat:=by
 unfold cap at h
 omega
theorem DJ {l:List UInt8} {s:ar} {t:List UInt8} (h:scP l= .inr (s,t)) (hc:OkC s.Config):OkS s∧l=wz s++t:=by
 unfold scP at h
 obtain ⟨⟨⟨c,x⟩,l1⟩,h1,h⟩:=fr h
 obtain ⟨p,h2,h⟩:=fr h
 obtain ⟨n,h3,h⟩:=fr h
 obtain ⟨⟨v,l4⟩,h4,h⟩:=fr h
 cases h
 dsimp only at*
 obtain ⟨k1,k2⟩:=Ev h2
 obtain ⟨L,e1,e2,e3,e4⟩:=xP _ _ _ _ _ h4
 rw [List.nil_append] at e1
 subst e1
 obtain ⟨n1,n2⟩:=j8 h3
 refine ⟨⟨hc,k1,by show v.length≤4000;omega,e4⟩,?_⟩
 unfold yA at h1
 obtain ⟨m,m1,h1⟩:=fr h1
 obtain ⟨w,w1,h1⟩:=fr h1
 obtain ⟨q,q1,h1⟩:=fr h1
 obtain ⟨y,y1,h1⟩:=fr h1
 obtain ⟨⟨tx,l5⟩,t1,h1⟩:=fr h1
 cases h1
 have hm:=hc.m
 have hw:=hc.w
 have hq:=hc.q
 have hp:=hc.p
 dsimp only at hm hw hq hp
 have a1:=gM m1
 have a2:=gM w1
 have a3:=gM q1
 have a4:=gM y1
 have a5:=A9 t1
 have a6:=gM n2
 unfold wz
 dsimp only
 rw [←ta (m:=cap m.1) (by omega) rfl,←ta (m:=cap w.1) (by omega) rfl,←ta (m:=cap q.1) (by omega) rfl,←ta (m:=cap y.1) (by omega) rfl,←k2,e2]
 dsimp only at a5 a6
 rw [a1,a2,a3,a4,a5,a6,e3]
 simp only [List.append_assoc]
theorem CV (l:List UInt8):NZ (evP l):=by
 cases l with
 | nil=>intro e h;cases h;decide
 | cons b t=>
  rw [evP]
  cases iEq (b.toNat:Int) 1 with
  | true=>exact NZ.sb (NZ.two _) fun _=>NZ.sb (NZ.two _) fun _=>NZ.inr _
  | false=>
   cases iEq (b.toNat:Int) 2 with
   | true=>exact NZ.sb (NZ.two _) fun _=>NZ.inr _
   | false=>intro e h;cases h;decide
theorem EY (l:List UInt8):NZ (gP l):=fun e h=>by
 unfold gP at h
 by_cases h0:(getP l).2=0
 ·rw [aO h0,cond_true] at h;cases h
 ·rw [aK h0,cond_false] at h;cases h;exact h0
theorem Ew (l:List UInt8):NZ (scP l):=NZ.sb (NZ.sb (NZ.two _) fun _=>NZ.sb (NZ.two _) fun _=>NZ.sb (NZ.two _) fun _=>NZ.sb (NZ.two _) fun _=>NZ.sb (NZ.two _) fun _=>NZ.inr _) fun _=>NZ.sb (EY _) fun _=>NZ.sb (NZ.many _ _) fun _=>NZ.sb (NZ.rep CV _ _ _) fun _=>NZ.inr _
theorem Cb {chk:ar→Int} (hk:∀ s,chk s=0→OkC s.Config) {l:List UInt8} (h:(getS chk l).2=0):chk (getS chk l).1=0∧OkS (getS chk l).1∧l=putS (getS chk l).1:=by
 unfold getS at h ⊢
 cases hc:sEq (bs (l.take 3)) (bs j9) with
 | false=>rw [hc] at h;exact absurd h (by decide:(2:Int)≠0)
 | true=>
  rw [hc,cond_true] at h
  rw [cond_true]
  have hh:l.take 3=j9:=by
   have:=congrArg bl (zP.1 hc)
   rwa [ft,ft] at this
  cases hp:scP (l.drop 3) with
  | inl e=>
   rw [hp] at h
   exact absurd h (Ew _ _ hp)
  | inr r=>
   rw [hp,bD] at h
   rw [bD]
   unfold clS at h ⊢
   cases h0:iEq (r.2.length:Int) 0 with
   | false=>rw [h0] at h;exact absurd h (by decide:(2:Int)≠0)
   | true=>
    rw [h0,cond_true] at h
    rw [cond_true]
    by_cases hz:chk r.1=0
    ·rw [aO hz,cond_true]
     obtain ⟨h3,h4⟩:=DJ (s:=r.1) (t:=r.2) hp (hk _ hz)
     rw [cn] at h0
     rw [List.length_eq_zero_iff.1 (show r.2.length=0 by omega),List.append_nil] at h4
     refine ⟨hz,h3,?_⟩
     show l=putS r.1
     unfold putS
     rw [←h4,←hh,List.take_append_drop]
    ·rw [aK hz] at h
     exact absurd h hz
theorem Cc {chk:ar→Int} (hk:∀ s,chk s=0→OkC s.Config) {s:ar} (h:OkS s) (hc:chk s=0) {k:Nat} (hkl:k<(putS s).length):(getS chk ((putS s).take k)).2≠0:=fun h0=>by
 obtain ⟨h1,h2,h3⟩:=Cb hk h0
 have e:=List.take_append_drop k (putS s)
 have hne:(putS s).drop k≠[]:=fun he=>by
  have:=congrArg List.length he
  rw [List.length_drop,List.length_nil] at this
  omega
 have:=uU (chk:=chk) h2 hne
 rw [←h3,e,sZ h hc] at this
 cases this
theorem Cd {x:ax} (h:OkE x):(putE x).length≤21:=by
 have h1:=aM (kt h.a.1 h.a.2)
 have h2:=aM (kt h.b.1 h.b.2)
 unfold putE
 rw [List.length_cons,List.length_append]
 cases iEq x.Kind 1 with
 | true=>rw [cond_true];omega
 | false=>rw [cond_false,List.length_nil];omega
theorem uV:∀ (l:List ax),(∀ x∈l,OkE x)→(l.flatMap putE).length≤21*l.length
 | [],h=>Nat.zero_le _
 | x::l,h=>by
  have h1:=Cd (h x (List.mem_cons_self ..))
  have h2:=uV l (fun y hy=>h y (List.mem_cons_of_mem _ hy))
  rw [List.flatMap_cons,List.length_append,List.length_cons]
  omega
theorem Ce {s:ar} (h:OkS s):(putS s).length≤200000:=by
 have h1:=sP (kG.of h.p)
 have h2:=uV s.Events h.e
 have h3:=h.n
 have hm:=h.c.m
 have hw:=h.c.w
 have hq:=h.c.q
 have hp:=h.c.p
 have a1:=aM (n:=s.Config.Mode.toNat) (by omega)
 have a2:=aM (n:=s.Config.Workers.toNat) (by omega)
 have a3:=aM (n:=s.Config.Quantum.toNat) (by omega)
 have a4:=aM (n:=s.Config.Policy.toNat) (by omega)
 have a5:=aM (n:=(putP s.Program).length) (by omega)
 have a6:=aM (n:=s.Events.length) (by omega)
 unfold putS wz j9
 simp only [List.length_append,List.length_cons,List.length_nil]
 omega
end LJ
end
section
namespace LJ
open Go Go.RowKit
set_option linter.unusedVariables false
set_option linter.unusedSimpArgs false
theorem uW (a b:Int):iLt a b= !iLe b a:=by
 by_cases h:a<b
 ·rw [aV h,mM (by omega)];rfl
 ·rw [aW (by omega),py (by omega)];rfl
def cfgB (c:ba):Bool:=((((iLe 0 c.Mode&&iLe c.Mode 2)&&(iLe 1 c.Workers&&iLe c.Workers 8))&&(iLe 1 c.Quantum&&iLe c.Quantum 100))&&(iLe 0 c.Policy&&iLe c.Policy 3))
theorem Bb {c:ba} (h:cfgB c=true):OkC c:=by
 unfold cfgB at h
 simp only [Bool.and_eq_true,dB] at h
 exact ⟨h.1.1.1,h.1.1.2,h.1.2,h.2⟩
theorem Bc (c:ba):fX c=some (cond (cfgB c) 0 1):=by
 unfold fX iQ cfgB
 cases iLe 0 c.Mode <;> cases iLe c.Mode 2 <;> cases iLe 1 c.Workers <;> cases iLe c.Workers 8 <;> cases iLe 1 c.Quantum <;> cases iLe c.Quantum 100 <;> cases iLe 0 c.Policy <;> cases iLe c.Policy 3 <;> rfl
def chkE:List ax→Int
 | []=>0
 | x::l=>cond (iNe x.Kind 1&&iNe x.Kind 2) 6 (cond (iEq x.Kind 2&&iNe x.B 0) 2 (chkE l))
def verE (p:aa):Int:=match cO p with
 | some r=>r.2
 | none=>0
theorem Ex (p:aa):∃ w,cO p=some (w,verE p):=by
 obtain ⟨w,e,h,_⟩:=DF p
 refine ⟨w,?_⟩
 unfold verE
 rw [h]
def chkS (s:ar):Int:=cond (cfgB s.Config) (cond (iEq (verE s.Program) 0) (cond (iLt 4000 (s.Events.length:Int)) 4 (chkE s.Events)) (verE s.Program)) 1
theorem Cf (s:ar) (h:chkS s=0):OkC s.Config:=by
 unfold chkS at h
 cases hc:cfgB s.Config with
 | true=>exact Bb hc
 | false=>rw [hc,cond_false] at h;exact absurd h (by decide)
theorem Cg {α:Type} [Inhabited α] {l:List α} {i:Nat} (h:i<l.length):l.drop i=l.getD i default::l.drop (i+1):=by
 rw [List.drop_eq_getElem_cons h,List.getD_eq_getElem?_getD,List.getElem?_eq_getElem h];rfl
theorem xQ (s:ar) (hl:s.Events.length≤4000):∀ (n i f:Nat),i+n=s.Events.length→n<f→dr s f (i:Int)=some (chkE (s.Events.drop i))
 | n,i,0,hi,hf=>by omega
 | 0,i,f+1,hi,hf=>by
  rw [dr,aW (by omega),cond_false,List.drop_of_length_le (by omega)];rfl
 | n+1,i,f+1,hi,hf=>by
  rw [dr,aV (by omega),cond_true,au (aI ⟨by omega,by omega⟩),Int.toNat_natCast,Cg (show i<s.Events.length by omega),chkE,w64 (by omega),show (i:Int)+1=((i+1:Nat):Int) by omega,xQ s hl n (i+1) f (by omega) (by omega)]
  cases (iNe (s.Events.getD i default).Kind 1&&iNe (s.Events.getD i default).Kind 2) with
  | true=>rfl
  | false=>
   rw [cond_false,cond_false]
   cases (iEq (s.Events.getD i default).Kind 2&&iNe (s.Events.getD i default).B 0) <;> rfl
theorem xR (s:ar):eY s=some (chkS s):=by
 obtain ⟨w,hv⟩:=Ex s.Program
 unfold eY chkS
 rw [Bc,ae,hv]
 cases cfgB s.Config with
 | false=>rfl
 | true=>
  rw [cond_true,cond_true,bG rfl,cond_false,ae]
  dsimp only
  by_cases h0:verE s.Program=0
  ·rw [bG h0,aO h0,cond_false,cond_true]
   by_cases h4:4000<(s.Events.length:Int)
   ·rw [aV h4];rfl
   ·rw [aW (by omega),cond_false,cond_false]
    exact xQ s (by omega) s.Events.length 0 fuel (by omega) (by have:=aJ;omega)
  ·rw [cm h0,aK h0];rfl
def I64E (x:ax):Prop:=(-9223372036854775808≤x.A∧x.A<9223372036854775808)∧(-9223372036854775808≤x.B∧x.B<9223372036854775808)
theorem Bd:∀ l:List ax,(∀ x∈l,I64E x)→chkE l=0→∀ x∈l,OkE x
 | [],_,_=>fun x hx=>by cases hx
 | y::l,hr,h=>fun x hx=>by
  rw [chkE] at h
  cases h1:(iNe y.Kind 1&&iNe y.Kind 2) with
  | true=>rw [h1,cond_true] at h;exact absurd h (by decide)
  | false=>
   rw [h1,cond_false] at h
   cases h2:(iEq y.Kind 2&&iNe y.B 0) with
   | true=>rw [h2,cond_true] at h;exact absurd h (by decide)
   | false=>
    rw [h2,cond_false] at h
    rcases List.mem_cons.1 hx with rfl | hx
    ·have hy:=hr x (List.mem_cons_self ..)
     have k1:x.Kind=1∨x.Kind=2:=by
      rcases Classical.em (x.Kind=1) with k | k
      ·exact .inl k
      ·rcases Classical.em (x.Kind=2) with k' | k'
       ·exact .inr k'
       ·rw [cm k,cm k'] at h1;cases h1
     refine ⟨k1,hy.1,hy.2,fun hk=>?_⟩
     rcases Classical.em (x.B=0) with k | k
     ·exact k
     ·rw [aO hk,cm k] at h2;cases h2
    ·exact Bd l (fun z hz=>hr z (List.mem_cons_of_mem _ hz)) h x hx
theorem Ch (p:aa):∃ a b e,fW p=some (a,b,e)∧(e=0→chkP p=0∧cO p=some (⟨0,0⟩,0)):=by
 unfold fW cO
 rw [lC,ir,ae,ae]
 by_cases h0:chkP p=0
 ·have hp:=CU h0
  have hl:=hp.pos
  have hm:=hp.most
  rw [bG h0,cond_false,cond_false,au (aI ⟨by decide,by omega⟩),au (aI ⟨by decide,by omega⟩)]
  by_cases ha:(p.Funcs.getD (0:Int).toNat default).Args=0
  ·rw [bG ha,cond_false,aW (by omega),cond_false]
   obtain ⟨a,b,e,q1,q2⟩:=A3 hp p.Funcs.length 0 fuel (by omega) (by have:=aJ;omega) fun j hj=>by omega
   rw [show (0:Int)=((0:Nat):Int) from rfl,q1]
   refine ⟨a,b,e,rfl,fun h=>⟨h0,?_⟩⟩
   have hg:=q2 h
   exact qh hp (fun j hj=>⟨(hg j hj).v,(hg j hj).d⟩) p.Funcs.length 0 fuel (by omega) (by have:=aJ;omega)
  ·rw [cm ha,cond_true]
   exact ⟨_,_,_,rfl,fun h=>by cases h⟩
 ·rw [cm h0,cond_true]
  exact ⟨_,_,_,rfl,fun h=>absurd h h0⟩
theorem yB (c:ba):gR c=some (cond (cfgB c) 0 1):=by
 unfold gR cfgB
 rw [show iLt c.Mode 0= !iLe 0 c.Mode from uW _ _,show iLt 2 c.Mode= !iLe c.Mode 2 from uW _ _,show iLt c.Workers 1= !iLe 1 c.Workers from uW _ _,show iLt 8 c.Workers= !iLe c.Workers 8 from uW _ _,show iLt c.Quantum 1= !iLe 1 c.Quantum from uW _ _,show iLt 100 c.Quantum= !iLe c.Quantum 100 from uW _ _,show iLt c.Policy 0= !iLe 0 c.Policy from uW _ _,show iLt 3 c.Policy= !iLe c.Policy 3 from uW _ _]
 cases iLe 0 c.Mode <;> cases iLe c.Mode 2 <;> cases iLe 1 c.Workers <;> cases iLe c.Workers 8 <;> cases iLe 1 c.Quantum <;> cases iLe c.Quantum 100 <;> cases iLe 0 c.Policy <;> cases iLe c.Policy 3 <;> rfl
theorem uX (s:ar) (hl:s.Events.length≤4000):∀ (n i f:Nat),i+n=s.Events.length→n<f→dS s f (i:Int)=some (chkE (s.Events.drop i))
 | n,i,0,hi,hf=>by omega
 | 0,i,f+1,hi,hf=>by
  rw [dS,aW (by omega),cond_false,List.drop_of_length_le (by omega)];rfl
 | n+1,i,f+1,hi,hf=>by
  rw [dS,aV (by omega),cond_true,au (aI ⟨by omega,by omega⟩),Int.toNat_natCast,Cg (show i<s.Events.length by omega),chkE,w64 (by omega),show (i:Int)+1=((i+1:Nat):Int) by omega,uX s hl n (i+1) f (by omega) (by omega)]
  cases (iNe (s.Events.getD i default).Kind 1&&iNe (s.Events.getD i default).Kind 2) with
  | true=>rfl
  | false=>
   rw [cond_false,cond_false]
   cases (iEq (s.Events.getD i default).Kind 2&&iNe (s.Events.getD i default).B 0) <;> rfl
theorem Be (s:ar) (hr:∀ x∈s.Events,I64E x):∃ e,iP s=some e∧(e=0→OkS s∧chkS s=0):=by
 unfold iP
 rw [yB,ae]
 cases hc:cfgB s.Config with
 | false=>exact ⟨1,rfl,fun h=>by cases h⟩
 | true=>
  obtain ⟨a,b,e,h1,h2⟩:=Ch s.Program
  rw [cond_true,bG rfl,cond_false,h1,ae]
  dsimp only
  by_cases h0:e=0
  ·obtain ⟨h3,h4⟩:=h2 h0
   rw [bG h0,cond_false]
   by_cases hn:4000<(s.Events.length:Int)
   ·rw [aV hn,cond_true];exact ⟨4,rfl,fun h=>by cases h⟩
   ·rw [aW (by omega),cond_false]
    refine ⟨_,uX s (by omega) s.Events.length 0 fuel (by omega) (by have:=aJ;omega),fun h=>?_⟩
    rw [List.drop_zero] at h
    have hv:verE s.Program=0:=by unfold verE;rw [h4]
    refine ⟨⟨Bb hc,h3,by omega,Bd _ hr h⟩,?_⟩
    unfold chkS
    rw [hc,cond_true,aO hv,cond_true,aW (by omega),cond_false,h]
  ·rw [cm h0,cond_true];exact ⟨e,rfl,fun h=>absurd h h0⟩
theorem lh (b:ByteArray) (c:UInt8):(b.push c).size=b.size+1:=by
 rw [←iK,su,List.length_append,iK];rfl
theorem wA {s:ar} (h:OkS s):∀ (n i f:Nat) (b:ByteArray),i+n=s.Events.length→n<f→b.size+21*n≤1000000→dj s f ((i:Int),b)=some (bs (j9++(bl b++(s.Events.drop i).flatMap putE)),0)
 | n,i,0,b,hi,hf,hb=>by omega
 | 0,i,f+1,b,hi,hf,hb=>by
  rw [dj]
  dsimp only
  rw [aW (by omega),cond_false,List.drop_of_length_le (by omega)]
  unfold cw
  rw [ae,au (nM (by show 3+b.size≤_;omega))]
  refine congrArg (fun z=>some (z,(0:Int))) (c8 ?_)
  rw [jz,ft,List.flatMap_nil,List.append_nil]
  rfl
 | n+1,i,f+1,b,hi,hf,hb=>by
  have hx:=h.e _ (j7 s.Events i (by omega))
  have hn:=h.n
  have l1:=aM (kt hx.a.1 hx.a.2)
  have l2:=aM (kt hx.b.1 hx.b.2)
  have hk:=hx.k
  rw [dj]
  dsimp only
  rw [aV (by omega),cond_true,au (aI ⟨by omega,by omega⟩),Int.toNat_natCast,xq (by omega),ae,sA hx.a.1 hx.a.2 (by rw [lh];omega),ae,w64 (by omega),show (i:Int)+1=((i+1:Nat):Int) by omega,Cg (show i<s.Events.length by omega),List.flatMap_cons]
  have hkb:UInt8.ofNat ((s.Events.getD i default).Kind %256).toNat=UInt8.ofNat (s.Events.getD i default).Kind.toNat:=by
   rcases hk with k | k <;> rw [k] <;> rfl
  rw [hkb]
  rcases hk with k | k
  ·rw [aO k,cond_true,sA hx.b.1 hx.b.2 (by rw [ByteArray.size_append,lh,bb];omega),ae]
   dsimp only
   rw [wA h n (i+1) f _ (by omega) (by omega) (by rw [ByteArray.size_append,ByteArray.size_append,lh,bb,bb];omega)]
   refine congrArg (fun z=>some (bs (j9++z),(0:Int))) ?_
   unfold putE
   rw [aO k,cond_true,jz,jz,su,ft,ft]
   simp
  ·rw [aK (by omega),cond_false]
   rw [wA h n (i+1) f _ (by omega) (by omega) (by rw [ByteArray.size_append,lh,bb];omega)]
   refine congrArg (fun z=>some (bs (j9++z),(0:Int))) ?_
   unfold putE
   rw [aK (by omega),cond_false,jz,su,ft]
   simp
def cfgL (c:ba):List Int:=[c.Mode,c.Workers,c.Quantum,c.Policy]
theorem CW {s:ar} (h:OkS s):∀ (n i f:Nat) (b:ByteArray),i+n=4→n<f→b.size+10*n≤1000→ew s f ((i:Int),b)=some (bs (j9++(bl b++(((cfgL s.Config).drop i).flatMap (fun v=>numL v.toNat)++((numL (putP s.Program).length++putP s.Program)++(numL s.Events.length++s.Events.flatMap putE))))),0)
 | n,i,0,b,hi,hf,hb=>by omega
 | 0,i,f+1,b,hi,hf,hb=>by
  have hl:=sP (kG.of h.p)
  have hn:=h.n
  have l1:=aM (n:=(putP s.Program).length) (by omega)
  have l2:=aM (n:=s.Events.length) (by omega)
  rw [ew]
  dsimp only
  rw [aW (by simp only [List.length_cons,List.length_nil];omega),cond_false,wj h.p,ae]
  dsimp only
  rw [bG rfl,cond_false,BF (by rw [bb];omega) (by rw [bb];omega),ae,wu64 (by omega),lN (n:=s.Events.length) (by omega) (by simp only [ByteArray.size_append,bb];omega),ae]
  dsimp only
  have:=wA h s.Events.length 0 fuel (b++bs (numL (bs (putP s.Program)).size)++bs (putP s.Program)++bs (numL s.Events.length)) (by omega) (by have:=aJ;omega) (by simp only [ByteArray.size_append,bb];omega)
  rw [show ((0:Nat):Int)=0 from rfl] at this
  rw [this,List.drop_of_length_le (show (cfgL s.Config).length≤i by show 4≤i;omega)]
  refine congrArg (fun z=>some (bs (j9++z),(0:Int))) ?_
  simp
 | n+1,i,f+1,b,hi,hf,hb=>by
  have hc:=h.c
  have hm:=hc.m
  have hw:=hc.w
  have hq:=hc.q
  have hp:=hc.p
  have hv:0≤(cfgL s.Config).getD i default∧(cfgL s.Config).getD i default≤100:=by
   have:i=0∨i=1∨i=2∨i=3:=by omega
   rcases this with rfl | rfl | rfl | rfl
   ·exact ⟨hm.1,by show s.Config.Mode≤100;omega⟩
   ·exact ⟨by show 0≤s.Config.Workers;omega,by show s.Config.Workers≤100;omega⟩
   ·exact ⟨by show 0≤s.Config.Quantum;omega,hq.2⟩
   ·exact ⟨hp.1,by show s.Config.Policy≤100;omega⟩
  have l1:=aM (n:=((cfgL s.Config).getD i default).toNat) (by omega)
  have e4:([s.Config.Mode,s.Config.Workers,s.Config.Quantum,s.Config.Policy]:List Int)=cfgL s.Config:=rfl
  have e5:(cfgL s.Config).length=4:=rfl
  rw [ew,e4]
  dsimp only
  rw [e5,aV (by omega),cond_true,au (aI ⟨by omega,by omega⟩),Int.toNat_natCast,wu64 (by omega),iq hv.1 (by omega) (by omega),ae,w64 (by omega),show (i:Int)+1=((i+1:Nat):Int) by omega]
  dsimp only
  rw [CW h n (i+1) f _ (by omega) (by omega) (by rw [ByteArray.size_append,bb];omega),Cg (show i<(cfgL s.Config).length by rw [e5];omega),List.flatMap_cons]
  refine congrArg (fun z=>some (bs (j9++z),(0:Int))) ?_
  rw [jz,ft]
  simp
theorem Ey {s:ar} (h:OkS s) (hc:chkS s=0):iC s=some (bs (putS s),0):=by
 unfold iC
 rw [xR,ae,bG hc,cond_false]
 have:=CW h 4 0 fuel ByteArray.empty (by omega) (by have:=aJ;omega) (by show 0+_≤_;omega)
 rw [show ((0:Nat):Int)=0 from rfl] at this
 rw [this]
 refine congrArg (fun z=>some (bs z,(0:Int))) ?_
 unfold putS wz cfgL
 simp
theorem tb {s:ByteArray} (hs:s.size≤9007199254740992) {l:List UInt8} {e:Int} (h:RdOK s l e):fh (mkI s l e)=some (cap (rdN l e).2.1,mkI s (rdN l e).2.2 (rdN l e).1):=by
 unfold fh
 rw [eO hs h,ae]
 dsimp only
 congr 2
 unfold cap iMin
 have:=pJ l e
 split
 ·rw [w64 (by omega)];omega
 ·rw [w64 (by omega)];omega
theorem kI {l:List UInt8} {e:Int} (h:e≠0):rdN l e=(e,0,[]):=by unfold rdN;rw [if_neg h]
theorem tc {l:List UInt8} {e:Int} (h:e≠0):rdT l e=(e,[],[]):=by
 unfold rdT
 rw [kI h,if_pos h]
theorem Ez {s:ByteArray} (hs:s.size≤9007199254740992) {l:List UInt8} (h:l<:+bl s) {e:Int} (he:evP l= .inl e):∃ x r,ee (mkI s l 0)=some (x,e,r)∧e≠0:=by
 have ok:RdOK s l 0:=⟨h,fun h=>absurd rfl h⟩
 have hnz:e≠0:=CV l e he
 unfold ee
 rw [lO hs ok,ae,bH,ae]
 cases l with
 | nil=>
  cases he
  exact ⟨_,_,rfl,hnz⟩
 | cons b t=>
  have okt:RdOK s t 0:=⟨mY h,fun h=>absurd rfl h⟩
  rw [evP] at he
  rw [show rdB (b::t) 0=(0,b.toNat,t) from rfl]
  dsimp only
  rw [bG rfl,cond_false]
  by_cases h1:(b.toNat:Int)=1
  ·rw [aO h1,cond_true] at he
   rw [bG h1,Bool.false_and,cond_false,fQ hs okt,ae,aO h1,cond_true]
   dsimp only
   rw [fQ hs okt.num,ae,bH,ae]
   have key:(rdN (rdN t 0).2.2 (rdN t 0).1).1=e:=by
    cases ha:intP t with
    | inl e1=>
     rw [ha] at he
     cases he
     obtain ⟨k1,k2⟩:=sQ ha
     dsimp only at k1
     rw [k1,kI k2]
    | inr a=>
     rw [ha,bD] at he
     obtain ⟨k1,k2⟩:=fK ha
     subst k2
     dsimp only at k1 he
     rw [k1]
     cases hb:intP (rdN t 0).2.2 with
     | inl e2=>
      rw [hb] at he
      cases he
      exact (sQ hb).1
     | inr c=>rw [hb] at he;cases he
   rw [key]
   exact ⟨_,_,rfl,hnz⟩
  ·rw [aK h1,cond_false] at he
   by_cases h2:(b.toNat:Int)=2
   ·rw [aO h2,cond_true] at he
    rw [bG h2,Bool.and_false,cond_false,fQ hs okt,ae,aK h1,cond_false,bH,ae]
    have key:(rdN t 0).1=e:=by
     cases ha:intP t with
     | inl e1=>rw [ha] at he;cases he;exact (sQ ha).1
     | inr a=>rw [ha] at he;cases he
    rw [key]
    exact ⟨_,_,rfl,hnz⟩
   ·rw [aK h2,cond_false] at he
    cases he
    rw [cm h1,cm h2,Bool.and_self,cond_true]
    exact ⟨_,_,rfl,hnz⟩
theorem EA {s:ByteArray} (hs:s.size≤9007199254740992) {l:List UInt8} (h:l<:+bl s) {x:ax} {t:List UInt8} (he:evP l= .inr (x,t)):ee (mkI s l 0)=some (x,0,mkI s t 0)∧t<:+bl s:=by
 have ok:RdOK s l 0:=⟨h,fun h=>absurd rfl h⟩
 have hsuf:=(Ba _ _ _ he).1
 refine ⟨?_,List.IsSuffix.trans ⟨_,hsuf.symm⟩ h⟩
 clear hsuf
 unfold ee
 rw [lO hs ok,ae,bH,ae]
 cases l with
 | nil=>cases he
 | cons b k=>
  have okt:RdOK s k 0:=⟨mY h,fun h=>absurd rfl h⟩
  rw [evP] at he
  rw [show rdB (b::k) 0=(0,b.toNat,k) from rfl]
  dsimp only
  rw [bG rfl,cond_false]
  by_cases h1:(b.toNat:Int)=1
  ·rw [aO h1,cond_true] at he
   obtain ⟨a,ha,he⟩:=fr he
   obtain ⟨c,hc,he⟩:=fr he
   cases he
   obtain ⟨k1,k2⟩:=fK ha
   subst k2
   dsimp only at k1 hc
   obtain ⟨k3,k4⟩:=fK hc
   subst k4
   dsimp only at k3
   rw [bG h1,Bool.false_and,cond_false,fQ hs okt,ae,aO h1,cond_true]
   dsimp only
   rw [fQ hs okt.num,ae,bH,ae,k1,k3,h1]
  ·rw [aK h1,cond_false] at he
   by_cases h2:(b.toNat:Int)=2
   ·rw [aO h2,cond_true] at he
    obtain ⟨a,ha,he⟩:=fr he
    cases he
    obtain ⟨k1,k2⟩:=fK ha
    subst k2
    dsimp only at k1
    rw [bG h2,Bool.and_false,cond_false,fQ hs okt,ae,aK h1,cond_false,bH,ae,k1,h2]
   ·rw [aK h2,cond_false] at he;cases he
def Rd3 (z:Option (ar×Int×ak)) (g:ar×Int):Prop:=∃ s r,z=some (s,g.2,r)∧(g.2=0→s=g.1)
theorem xS {s:ByteArray} (hs:s.size≤9007199254740992) (x1 x2 x3 x4:Int×ak) (x8:aa×Int) (x10:Int×ak) {N:Nat} (hN:x10.1=(N:Int)) (hN2:N≤4000):∀ (n i f:Nat) (l:List UInt8) (acc:List ax),i+n=N→n<f→acc.length=i→l<:+bl s→
  Rd3 (du x1 x2 x3 x4 x8 x10 f ((i:Int),s,(s.size:Int) - l.length,0,acc)) (outS (sb (repP evP n l acc) fun v=>clS chkS (⟨⟨x1.1,x2.1,x3.1,x4.1⟩,x8.1,v.1⟩,v.2)))
 | n,i,0,l,acc,hi,hf,ha,hl=>by omega
 | 0,i,f+1,l,acc,hi,hf,ha,hl=>by
  have e:(⟨s,(s.size:Int) - l.length,0⟩:ak)=mkI s l 0:=rfl
  rw [du,repP,bD]
  dsimp only
  rw [hN,aW (by omega),cond_false,e,pK hs ⟨hl,fun h=>absurd rfl h⟩,ae]
  unfold clS
  dsimp only
  by_cases h0:l.length=0
  ·rw [aW (by omega),cond_false,aO (by omega),cond_true,xR,ae]
   by_cases hc:chkS ⟨⟨x1.1,x2.1,x3.1,x4.1⟩,x8.1,acc⟩=0
   ·rw [aO hc,cond_true,hc]
    exact ⟨_,_,rfl,fun _=>rfl⟩
   ·rw [aK hc,cond_false]
    exact ⟨_,_,rfl,fun h=>absurd h hc⟩
  ·rw [aV (by omega),cond_true,aK (by omega),cond_false]
   exact ⟨_,_,rfl,fun h=>by cases h⟩
 | n+1,i,f+1,l,acc,hi,hf,ha,hl=>by
  have e:(⟨s,(s.size:Int) - l.length,0⟩:ak)=mkI s l 0:=rfl
  rw [du,repP]
  dsimp only
  rw [hN,aV (by omega),cond_true,e]
  cases hv:evP l with
  | inl er=>
   obtain ⟨x,r,h1,h2⟩:=Ez hs hl hv
   rw [h1,ae]
   dsimp only
   rw [cm h2,cond_true]
   exact ⟨_,_,rfl,fun h=>absurd h h2⟩
  | inr r=>
   obtain ⟨x,t⟩:=r
   obtain ⟨h1,h2⟩:=EA hs hl hv
   rw [h1,ae,bD]
   dsimp only
   rw [bG rfl,cond_false,au (cH (by simp;omega)),wu64 (by omega),show (i:Int)+1=((i+1:Nat):Int) by omega]
   exact xS hs x1 x2 x3 x4 x8 x10 hN hN2 n (i+1) f t _ (by omega) (by omega) (by simp;omega) h2
theorem DK (l:List UInt8):yA l=cond (iEq (rdT (rdN (rdN (rdN (rdN l 0).2.2 (rdN l 0).1).2.2 (rdN (rdN l 0).2.2 (rdN l 0).1).1).2.2 (rdN (rdN (rdN l 0).2.2 (rdN l 0).1).2.2 (rdN (rdN l 0).2.2 (rdN l 0).1).1).1).2.2 (rdN (rdN (rdN (rdN l 0).2.2 (rdN l 0).1).2.2 (rdN (rdN l 0).2.2 (rdN l 0).1).1).2.2 (rdN (rdN (rdN l 0).2.2 (rdN l 0).1).2.2 (rdN (rdN l 0).2.2 (rdN l 0).1).1).1).1).1 0)
  (.inr ((⟨cap (rdN l 0).2.1,cap (rdN (rdN l 0).2.2 (rdN l 0).1).2.1,cap (rdN (rdN (rdN l 0).2.2 (rdN l 0).1).2.2 (rdN (rdN l 0).2.2 (rdN l 0).1).1).2.1,cap (rdN (rdN (rdN (rdN l 0).2.2 (rdN l 0).1).2.2 (rdN (rdN l 0).2.2 (rdN l 0).1).1).2.2 (rdN (rdN (rdN l 0).2.2 (rdN l 0).1).2.2 (rdN (rdN l 0).2.2 (rdN l 0).1).1).1).2.1⟩,(rdT (rdN (rdN (rdN (rdN l 0).2.2 (rdN l 0).1).2.2 (rdN (rdN l 0).2.2 (rdN l 0).1).1).2.2 (rdN (rdN (rdN l 0).2.2 (rdN l 0).1).2.2 (rdN (rdN l 0).2.2 (rdN l 0).1).1).1).2.2 (rdN (rdN (rdN (rdN l 0).2.2 (rdN l 0).1).2.2 (rdN (rdN l 0).2.2 (rdN l 0).1).1).2.2 (rdN (rdN (rdN l 0).2.2 (rdN l 0).1).2.2 (rdN (rdN l 0).2.2 (rdN l 0).1).1).1).1).2.1),(rdT (rdN (rdN (rdN (rdN l 0).2.2 (rdN l 0).1).2.2 (rdN (rdN l 0).2.2 (rdN l 0).1).1).2.2 (rdN (rdN (rdN l 0).2.2 (rdN l 0).1).2.2 (rdN (rdN l 0).2.2 (rdN l 0).1).1).1).2.2 (rdN (rdN (rdN (rdN l 0).2.2 (rdN l 0).1).2.2 (rdN (rdN l 0).2.2 (rdN l 0).1).1).2.2 (rdN (rdN (rdN l 0).2.2 (rdN l 0).1).2.2 (rdN (rdN l 0).2.2 (rdN l 0).1).1).1).1).2.2))
  (.inl (rdT (rdN (rdN (rdN (rdN l 0).2.2 (rdN l 0).1).2.2 (rdN (rdN l 0).2.2 (rdN l 0).1).1).2.2 (rdN (rdN (rdN l 0).2.2 (rdN l 0).1).2.2 (rdN (rdN l 0).2.2 (rdN l 0).1).1).1).2.2 (rdN (rdN (rdN (rdN l 0).2.2 (rdN l 0).1).2.2 (rdN (rdN l 0).2.2 (rdN l 0).1).1).2.2 (rdN (rdN (rdN l 0).2.2 (rdN l 0).1).2.2 (rdN (rdN l 0).2.2 (rdN l 0).1).1).1).1).1):=by
 unfold yA numP A4
 generalize hM:rdN l 0=M
 by_cases m0:M.1=0
 ·rw [gl m0,bD]
  dsimp only
  rw [m0]
  generalize hW:rdN M.2.2 0=W
  by_cases w0:W.1=0
  ·rw [gl w0,bD]
   dsimp only
   rw [w0]
   generalize hQ:rdN W.2.2 0=Q
   by_cases q0:Q.1=0
   ·rw [gl q0,bD]
    dsimp only
    rw [q0]
    generalize hY:rdN Q.2.2 0=Y
    by_cases y0:Y.1=0
    ·rw [gl y0,bD]
     dsimp only
     rw [y0]
     generalize hT:rdT Y.2.2 0=T
     by_cases t0:T.1=0
     ·rw [gl t0,bD,aO t0,cond_true]
     ·rw [ia t0,kf,aK t0,cond_false]
    ·rw [ia y0,kf,tc y0]
     dsimp only
     rw [aK y0,cond_false]
   ·rw [ia q0,kf,kI q0]
    dsimp only
    rw [tc q0]
    dsimp only
    rw [aK q0,cond_false]
  ·rw [ia w0,kf,kI w0]
   dsimp only
   rw [kI w0]
   dsimp only
   rw [tc w0]
   dsimp only
   rw [aK w0,cond_false]
 ·rw [ia m0,kf,kI m0]
  dsimp only
  rw [kI m0]
  dsimp only
  rw [kI m0]
  dsimp only
  rw [tc m0]
  dsimp only
  rw [aK m0,cond_false]
theorem DL {s:ByteArray} {l:List UInt8} {e:Int} (h:RdOK s l e):(rdT l e).2.1.length≤s.size:=by
 have:=kD h.num.suf
 unfold rdT
 split
 ·exact Nat.zero_le _
 ·split
  ·exact Nat.zero_le _
  ·dsimp only
   rw [List.length_take]
   omega
theorem DM {s:ByteArray} (hs:s.size≤9007199254740992):Rd3 (gC (mkI s (bl s) 0)) (outS (sb (scP (bl s)) (clS chkS))):=by
 have k0:=RdOK.start s
 have k4:=k0.num.num.num.num
 have hce:=DK (bl s)
 unfold gC scP
 rw [tb hs k0,ae,tb hs k0.num,ae,tb hs k0.num.num,ae,tb hs k0.num.num.num,ae,vH hs k4,ae,bH,ae]
 dsimp only
 rw [hce]
 clear hce
 have k5:=k4.text
 have k6:=DL k4
 generalize rdT (rdN (rdN (rdN (rdN (bl s) 0).2.2 (rdN (bl s) 0).1).2.2 (rdN (rdN (bl s) 0).2.2 (rdN (bl s) 0).1).1).2.2 (rdN (rdN (rdN (bl s) 0).2.2 (rdN (bl s) 0).1).2.2 (rdN (rdN (bl s) 0).2.2 (rdN (bl s) 0).1).1).1).2.2 (rdN (rdN (rdN (rdN (bl s) 0).2.2 (rdN (bl s) 0).1).2.2 (rdN (rdN (bl s) 0).2.2 (rdN (bl s) 0).1).1).2.2 (rdN (rdN (rdN (bl s) 0).2.2 (rdN (bl s) 0).1).2.2 (rdN (rdN (bl s) 0).2.2 (rdN (bl s) 0).1).1).1).1=T at k5 k6 ⊢
 by_cases t0:T.1=0
 ·rw [bG t0,aO t0,cond_false,cond_true,bD,wk (by rw [bb];omega),ae,ft]
  dsimp only
  unfold gP
  by_cases p0:(getP T.2.1).2=0
  ·rw [bG p0,aO p0,cond_false,cond_true,bD,t0]
   rw [t0] at k5
   rw [eO hs k5,ae,bH,ae]
   dsimp only
   unfold ki numP
   by_cases n0:(rdN T.2.2 0).1=0
   ·rw [bG n0,cond_false,gl n0,bD]
    dsimp only
    by_cases n4:4000<((rdN T.2.2 0).2.1:Int)
    ·rw [aV n4,cond_true,aV (a:=((4000:Nat):Int)) (by omega),cond_true]
     exact ⟨_,_,rfl,fun h=>by cases h⟩
    ·rw [aW (by omega),cond_false,aW (a:=((4000:Nat):Int)) (by omega),cond_false,bD]
     dsimp only
     rw [n0,BS]
     have:=xS hs (cap (rdN (bl s) 0).2.1,mkI s (rdN (bl s) 0).2.2 (rdN (bl s) 0).1) (cap (rdN (rdN (bl s) 0).2.2 (rdN (bl s) 0).1).2.1,mkI s (rdN (rdN (bl s) 0).2.2 (rdN (bl s) 0).1).2.2 (rdN (rdN (bl s) 0).2.2 (rdN (bl s) 0).1).1) (cap (rdN (rdN (rdN (bl s) 0).2.2 (rdN (bl s) 0).1).2.2 (rdN (rdN (bl s) 0).2.2 (rdN (bl s) 0).1).1).2.1,mkI s (rdN (rdN (rdN (bl s) 0).2.2 (rdN (bl s) 0).1).2.2 (rdN (rdN (bl s) 0).2.2 (rdN (bl s) 0).1).1).2.2 (rdN (rdN (rdN (bl s) 0).2.2 (rdN (bl s) 0).1).2.2 (rdN (rdN (bl s) 0).2.2 (rdN (bl s) 0).1).1).1)
      (cap (rdN (rdN (rdN (rdN (bl s) 0).2.2 (rdN (bl s) 0).1).2.2 (rdN (rdN (bl s) 0).2.2 (rdN (bl s) 0).1).1).2.2 (rdN (rdN (rdN (bl s) 0).2.2 (rdN (bl s) 0).1).2.2 (rdN (rdN (bl s) 0).2.2 (rdN (bl s) 0).1).1).1).2.1,mkI s (rdN (rdN (rdN (rdN (bl s) 0).2.2 (rdN (bl s) 0).1).2.2 (rdN (rdN (bl s) 0).2.2 (rdN (bl s) 0).1).1).2.2 (rdN (rdN (rdN (bl s) 0).2.2 (rdN (bl s) 0).1).2.2 (rdN (rdN (bl s) 0).2.2 (rdN (bl s) 0).1).1).1).2.2 (rdN (rdN (rdN (rdN (bl s) 0).2.2 (rdN (bl s) 0).1).2.2 (rdN (rdN (bl s) 0).2.2 (rdN (bl s) 0).1).1).2.2 (rdN (rdN (rdN (bl s) 0).2.2 (rdN (bl s) 0).1).2.2 (rdN (rdN (bl s) 0).2.2 (rdN (bl s) 0).1).1).1).1)
      (getP T.2.1) (((rdN T.2.2 0).2.1:Int),mkI s (rdN T.2.2 0).2.2 0) (N:=(rdN T.2.2 0).2.1) rfl (by omega) (rdN T.2.2 0).2.1 0 fuel (rdN T.2.2 0).2.2 [] (by omega) (by have:=aJ;omega) rfl (by have:=k5.num.suf;exact this)
     exact this
   ·rw [cm n0,cond_true,ia n0,kf,kf]
    exact ⟨_,_,rfl,fun h=>absurd h n0⟩
  ·rw [cm p0,aK p0,cond_true,cond_false,kf]
   exact ⟨_,_,rfl,fun h=>absurd h p0⟩
 ·rw [cm t0,aK t0,cond_true,cond_false,kf]
  exact ⟨_,_,rfl,fun h=>absurd h t0⟩
end LJ
end
section
namespace LJ
open Go Go.RowKit
set_option linter.unusedVariables false
set_option linter.unusedSimpArgs false
theorem Ci {z:Int ⊕ ar} (h:(outS z).2≠0):(outS z).1=noS:=by
 cases z with
 | inl e=>rfl
 | inr s=>exact absurd rfl h
theorem Bf {s:ByteArray} (hs:s.size≤9007199254740992):fP s=some (getS chkS (bl s)):=by
 have h3:(⟨#[76,83,1]⟩:ByteArray)=bs j9:=rfl
 have h3s:(bs j9).size=3:=rfl
 unfold fP fg dx bZ getS
 rw [h3,h3s]
 by_cases hl:3≤s.size
 ·have hx:s.extract 0 ((3:Nat):Int).toNat=bs ((bl s).take 3):=by
   apply c8
   rw [fN,ft,Int.toNat_natCast,List.drop_zero]
  rw [py (by omega),ud (by omega)]
  simp only [Bool.not_true,Bool.false_or]
  rw [au rfl,ae,hx,Bool.true_and]
  cases hc:sEq (bs ((bl s).take 3)) (bs j9) with
  | false=>rfl
  | true=>
   have he:s.extract ((3:Nat):Int).toNat s.size=bs ((bl s).drop 3):=by
    apply c8
    rw [fN,ft,←iK,List.take_length]
    rfl
   rw [Bool.not_true,cond_false,cond_true,au rfl,ae,ae,he]
   dsimp only
   rw [Bool.not_true,cond_false,pH,ae]
   obtain ⟨s',r,h1,h2⟩:=DM (s:=bs ((bl s).drop 3)) (by rw [bb,List.length_drop,iK];omega)
   rw [ft] at h1 h2
   rw [ft,h1,ae]
   dsimp only
   by_cases h0:(outS (sb (scP ((bl s).drop 3)) (clS chkS))).2=0
   ·rw [bG h0,cond_false,h2 h0]
    exact congrArg some (Prod.ext rfl h0.symm)
   ·rw [cm h0,cond_true]
    exact congrArg some (Prod.ext (Ci h0).symm rfl)
 ·have hc:sEq (bs ((bl s).take 3)) (bs j9)=false:=yd fun h=>by
   have:=congrArg ByteArray.size h
   rw [bb,h3s,List.length_take,iK] at this
   omega
  rw [mM (by omega),hc]
  rfl
theorem wB:iU=some true:=by decide+kernel
def ownS (s:ar):ar:=⟨s.Config,ownP s.Program,s.Events.take 4100⟩
theorem Bg (s:ar):jD s=some (ownS s):=by
 unfold jD
 rw [EV]
 by_cases h:4100<(s.Events.length:Int)
 ·rw [aV h,cond_true,au (ue (by omega)),ae,au (cH (by simp;omega))]
  rfl
 ·rw [aW (by omega),cond_false,ae,au (cH (by simp;omega))]
  unfold ownS
  rw [List.nil_append,List.take_of_length_le (by omega)]
theorem Cj (s:ar):ownS (ownS s)=ownS s:=by
 unfold ownS
 dsimp only
 rw [BR,List.take_take,Nat.min_self]
theorem xT (s:ar) (hl:s.Events.length≤4000):∀ (n i f:Nat),i+n=s.Events.length→n<f→eA s s f (i:Int)=some true
 | n,i,0,hi,hf=>by omega
 | 0,i,f+1,hi,hf=>by
  rw [eA,aW (by omega),cond_false]
 | n+1,i,f+1,hi,hf=>by
  have h1:nIn (i:Int) (s.Events.length:Int)=true:=aI ⟨by omega,by omega⟩
  rw [eA,aV (by omega),cond_true,au h1,au h1,aO rfl,aO rfl,aO rfl]
  simp only [Bool.and_self,Bool.not_true,cond_false]
  rw [w64 (by omega),show (i:Int)+1=((i+1:Nat):Int) by omega]
  exact xT s hl n (i+1) f (by omega) (by omega)
theorem EZ {s:ar} (h:OkS s):iG s s=some true:=by
 have hn:=h.n
 unfold iG
 rw [aO rfl,aO rfl,aO rfl,aO rfl,yp (kG.of h.p),bG rfl]
 simp only [Bool.and_self,Bool.not_true,Bool.not_false,cond_true,ae,Bool.or_self,Bool.or_false,cond_false]
 exact xT s h.n s.Events.length 0 fuel (by omega) (by have:=aJ;omega)
theorem qj {s:ar} (w:ng s) {t:ByteArray} (ht:t.size≤140737488351232):fz s t=some true:=by
 obtain ⟨_,_,wl,we⟩:=w
 unfold fz
 have hr:∀ x∈(ownS s).Events,I64E x:=fun x hx=>by
  have:=we x (List.mem_of_mem_take hx)
  exact ⟨this.2.1,this.2.2⟩
 obtain ⟨e,h1,h2⟩:=Be (ownS s) hr
 rw [Bg s,ae,h1,ae]
 by_cases h0:e=0
 ·obtain ⟨ok,hc⟩:=h2 h0
  have hl2:=Ce ok
  have hn:=ok.n
  have h3:3≤(putS (ownS s)).length:=by unfold putS;rw [List.length_append];exact Nat.le_add_right _ _
  have hb:bl (bs (putS (ownS s))++t)=putS (ownS s)++bl t:=by simp
  have hx:(bs (putS (ownS s))).extract 0 (IntKind.i64.wrap (((bs (putS (ownS s))).size:Int) - 1)).toNat=bs ((putS (ownS s)).take ((putS (ownS s)).length - 1)):=by
   apply c8
   rw [fN,ft,ft,List.drop_zero,bb,w64 (by omega),show (((putS (ownS s)).length:Int) - 1).toNat=(putS (ownS s)).length - 1 by omega]
  have hcut:=Cc Cf ok hc (k:=(putS (ownS s)).length - 1) (by omega)
  have hne:sEq (bs (putS (ownS s))) ByteArray.empty=false:=yd fun h=>by
   have:=congrArg ByteArray.size h
   rw [bb] at this
   have h0:ByteArray.empty.size=0:=rfl
   omega
  rw [bG h0,cond_false,Bg,Cj,ae,Ey ok hc,ae]
  dsimp only
  rw [bG rfl,Bool.false_or,hne,cond_false,Bf (by rw [bb];omega),ae,ft,sZ ok hc,au (nM (by rw [bb];omega)),Bf (by rw [ByteArray.size_append,bb];omega),ae,au (ud (by rw [bb,w64 (by omega)];omega)),hx,Bf (by rw [bb,List.length_take];omega),ae,hb,ft]
  dsimp only
  rw [aO rfl,cond_true,EZ ok,ae]
  by_cases he:t=ByteArray.empty
  ·have e1:getS chkS (putS (ownS s)++bl t)=(ownS s,0):=by
    rw [he,show bl ByteArray.empty=[] from rfl,List.append_nil,sZ ok hc]
   rw [e1,aO rfl,yc he,cm hcut,wB]
   rfl
  ·have e1:(getS chkS (putS (ownS s)++bl t)).2=2:=uU ok fun h=>he (c8 (h.trans rfl))
   rw [e1,aK (by decide),yd he,cm hcut,wB]
   rfl
 ·rw [cm h0,cond_true,wB]
  rfl
end LJ
end
