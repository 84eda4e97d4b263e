/- Several texts of plain Lean, one behind the other. No condition. -/
import Derived.Test.YtdebndfaknfefaaGreatDoorQB
import Derived.Test.YtdebndfaknfefaaGreatDoorQA
section
namespace LJ
open Go Go.RowKit
set_option linter.unusedVariables false
set_option linter.unusedSimpArgs false
theorem xE {k:Int} (h:opK k=false):jJ k=some 0:=by
 have hk:=xu.1 h
 unfold jJ
 rw [kM,h]
 have e:∀ c:Int,0≤c→c<52→iEq k c=false:=fun c h0 h1=>aJ (by omega)
 rw [e 2 (by decide) (by decide),e 17 (by decide) (by decide),e 19 (by decide) (by decide),e 21 (by decide) (by decide),e 18 (by decide) (by decide),e 25 (by decide) (by decide),e 16 (by decide) (by decide),e 45 (by decide) (by decide),e 40 (by decide) (by decide),e 43 (by decide) (by decide),e 8 (by decide) (by decide),e 24 (by decide) (by decide),e 27 (by decide) (by decide),e 28 (by decide) (by decide),e 30 (by decide) (by decide),e 31 (by decide) (by decide),e 33 (by decide) (by decide),e 39 (by decide) (by decide),e 44 (by decide) (by decide),e 46 (by decide) (by decide),e 49 (by decide) (by decide)]
 have:(iLe 3 k&&iLe k 15)=false:=by simp only [Bool.and_eq_false_iff,i6];omega
 rw [this]
 rfl
theorem yC:∀ k:Fin 52,cY k=dt k:=by decide+kernel
theorem AO (k:Int):cY k=dt k:=by
 cases h:opK k with
 | true=>
  have hk:=jY.1 h
  have:=yC ⟨k.toNat,by omega⟩
  dsimp only at this
  rwa [Int.toNat_of_nonneg hk.1] at this
 | false=>
  unfold cY dt
  rw [xE h,fM,h]
  rfl
theorem BI:∀ k:Fin 52,(k:Nat)≠20→(k:Nat)≠41→(k:Nat)≠42→gb ⟨k,0,0⟩ 0=dy ⟨k,0,0⟩ 0:=by decide+kernel
theorem De {x:ar} (a:Int) (hb: -1099511627776≤x.B∧x.B≤1099511627776):gb x a=dy x a:=by
 obtain ⟨k,A,B⟩:=x
 dsimp only at hb
 cases h:opK k with
 | false=>
  have hk:=xu.1 h
  unfold gb dy
  dsimp only
  rw [aJ (show k≠20 by omega),aJ (show k≠42 by omega),aJ (show k≠41 by omega),xE h,fM,h]
  rfl
 | true=>
  have hk:=jY.1 h
  by_cases h20:k=20
  ·subst h20;rfl
  ·by_cases h42:k=42
   ·subst h42
    show some (IntKind.i64.wrap (IntKind.i64.wrap ((0:Int)+1)+B))=some (IntKind.i64.wrap ((1:Int)+B))
    rw [w64 (a:=(0:Int)+1) (by decide)]
    rfl
   ·by_cases h41:k=41
    ·subst h41;rfl
    ·have h1:gb ⟨k,A,B⟩ a=gb ⟨k,0,0⟩ 0:=by
      unfold gb
      dsimp only
      rw [aJ h20,aJ h42,aJ h41]
      rfl
     have h2:dy ⟨k,A,B⟩ a=dy ⟨k,0,0⟩ 0:=by
      unfold dy
      dsimp only
      rw [aJ h20,aJ h42,aJ h41]
      rfl
     have:=BI ⟨k.toNat,by omega⟩ (by dsimp only;omega) (by dsimp only;omega) (by dsimp only;omega)
     dsimp only at this
     rw [Int.toNat_of_nonneg hk.1] at this
     rw [h1,h2,this]
end LJ
end
section
namespace LJ
open Go Go.RowKit
set_option linter.unusedVariables false
set_option linter.unusedSimpArgs false
def Tot (P:Prop) (z:Option Int):Prop:=∃ e,z=some e∧(e=0→P)
theorem Tot.ok {P:Prop} (h:P) (e:Int):Tot P (some e):=⟨e,rfl,fun _=>h⟩
theorem Tot.bad {P:Prop} {e:Int} (h:e≠0):Tot P (some e):=⟨e,rfl,fun h'=>absurd h' h⟩
theorem Tot.br {P:Prop} {b:Bool} {z z':Option Int} (h:b=true→Tot P z) (h':b=false→Tot P z'):Tot P (cond b z z'):=by
 cases b with
 | true=>exact h rfl
 | false=>exact h' rfl
theorem Tot.nd {P:Prop} {b:Bool} {z:Option Int} (hb:b=true) (h:Tot P z):Tot P (need b z):=by subst hb;exact h
theorem Tot.next {P Q:Prop} {z r:Option Int} (h:Tot Q z) (k:Q→Tot P r):Tot P (z.bind fun x=>cond (iNe x 0) (some x) r):=by
 obtain ⟨e,rfl,he⟩:=h
 show Tot P (cond (iNe e 0) (some e) r)
 by_cases h0:e=0
 ·rw [bd h0];exact k (he h0)
 ·rw [bn h0];exact .bad h0
theorem Tot.mono {P Q:Prop} {z:Option Int} (h:Tot P z) (k:P→Q):Tot Q z:=by
 obtain ⟨e,h1,h2⟩:=h
 exact ⟨e,h1,fun h=>k (h2 h)⟩
theorem Df (x:ar):Tot (OkI x) (fY x):=⟨_,jZ x,vX⟩
theorem D3 (F:aq) (hF:F.Code.length≤200):∀ (n i f:Nat),i+n=F.Code.length→n<f→Tot (∀ j,i≤j→j<F.Code.length→OkI (F.Code.getD j default)) (bH F f (i:Int))
 | n,i,0,hi,hf=>by omega
 | 0,i,f+1,hi,hf=>by
  rw [bH,aU (by omega),cond_false]
  exact .ok (fun j h1 h2=>by omega) _
 | n+1,i,f+1,hi,hf=>by
  rw [bH,aR (by omega),cond_true,aB (aN ⟨by omega,by omega⟩),Int.toNat_natCast,w64 (by omega),show (i:Int)+1=((i+1:Nat):Int) by omega]
  refine .next (Df _) fun h=>(D3 F hF n (i+1) f (by omega) (by omega)).mono fun h' j h1 h2=>?_
  rcases Nat.eq_or_lt_of_le h1 with rfl | h1
  ·exact h
  ·exact h' j h1 h2
structure OkFn (F:aq):Prop where
 args:0≤F.Args∧F.Args≤8
 pos:1≤F.Code.length
 most:F.Code.length≤200
 ins:∀ j,j<F.Code.length→OkI (F.Code.getD j default)
theorem D4 (F:aq):Tot (OkFn F) (dT F):=by
 unfold dT
 refine .br (fun _=> .bad (by decide)) fun h1=> .br (fun _=> .bad (by decide)) fun h2=> .br (fun _=> .bad (by decide)) fun h3=>?_
 simp only [Bool.or_eq_false_iff,bM] at h1 h3
 have h2':(F.Code.length:Int)≠0:=fun h=>by rw [aQ h] at h2;cases h2
 exact (D3 F (by omega) F.Code.length 0 fuel (by omega) (by have:=aL;omega)).mono fun h=>⟨by omega,by omega,by omega,fun j hj=>h j (Nat.zero_le _) hj⟩
theorem AP (p:ah) (hF:p.Funcs.length≤16):∀ (n i f:Nat),i+n=p.Funcs.length→n<f→Tot (∀ j,i≤j→j<p.Funcs.length→OkFn (p.Funcs.getD j default)) (cn p f (i:Int))
 | n,i,0,hi,hf=>by omega
 | 0,i,f+1,hi,hf=>by
  rw [cn,aU (by omega),cond_false]
  exact .ok (fun j h1 h2=>by omega) _
 | n+1,i,f+1,hi,hf=>by
  rw [cn,aR (by omega),cond_true,aB (aN ⟨by omega,by omega⟩),Int.toNat_natCast,w64 (by omega),show (i:Int)+1=((i+1:Nat):Int) by omega]
  refine .next (D4 _) fun h=>(AP p hF n (i+1) f (by omega) (by omega)).mono fun h' j h1 h2=>?_
  rcases Nat.eq_or_lt_of_le h1 with rfl | h1
  ·exact h
  ·exact h' j h1 h2
theorem BJ (L:List ab) (x:af):Tot True (jk L x):=by
 unfold jk
 refine .br (fun _=> .ok trivial _) fun h1=>?_
 simp only [Bool.or_eq_false_iff,bM] at h1
 by_cases ho:0≤x.Obj∧x.Obj<L.length
 ·have hn:nIn x.Obj (L.length:Int)=true:=aN ho
  have hk:nIn x.Kind (([0,1,2,2,3,6]:List Int).length:Int)=true:=aN ⟨by omega,by simp only [List.length_cons,List.length_nil];omega⟩
  refine .nd (by rw [hn,Bool.or_true]) (.nd (by rw [hk,Bool.or_true]) ?_)
  simp only [hn,aB,bb]
  exact .ok trivial _
 ·have hc:(iLt x.Obj 0||iLe (L.length:Int) x.Obj)=true:=by
   rw [Bool.or_eq_true,cP,dS];omega
  refine .nd (by rw [hc];rfl) (.nd (by rw [hc];rfl) ?_)
  rw [hc,Bool.true_or,cond_true]
  exact .ok trivial _
theorem D5 {W:List (List af)} {s:Int} {j:Nat} {K:Unit→Option Int} (hK:Tot True (K ())) (hj:j<(W.getD s.toNat default).length) (h4:(W.getD s.toNat default).length≤4):∀ (n i f:Nat),i+n=j→n<f→Tot True (cj W s (j:Int) K f (i:Int))
 | n,i,0,hi,hf=>by omega
 | 0,i,f+1,hi,hf=>by
  rw [cj,aU (by omega),cond_false]
  exact hK
 | n+1,i,f+1,hi,hf=>by
  have e1:nIn (i:Int) ((W.getD s.toNat default).length:Int)=true:=aN ⟨by omega,by omega⟩
  have e2:nIn (j:Int) ((W.getD s.toNat default).length:Int)=true:=aN ⟨by omega,by omega⟩
  rw [cj,aR (by omega),cond_true,e1,e2,Bool.or_true,Bool.or_true,w64 (by omega),show (i:Int)+1=((i+1:Nat):Int) by omega]
  exact .nd rfl (.nd rfl (.nd rfl (.nd rfl (.br (fun _=> .ok trivial _) fun _=>D5 hK hj h4 n (i+1) f (by omega) (by omega)))))
theorem D6 {W:List (List af)} {s:Int} {K:Unit→Option Int} (hK:Tot True (K ())) (h4:(W.getD s.toNat default).length≤4):∀ (n i f:Nat),i+n=(W.getD s.toNat default).length→n<f→Tot True (bR W s K f (i:Int))
 | n,i,0,hi,hf=>by omega
 | 0,i,f+1,hi,hf=>by
  rw [bR,aU (by omega),cond_false]
  exact hK
 | n+1,i,f+1,hi,hf=>by
  rw [bR,aR (by omega),cond_true,dR,w64 (by omega),show (i:Int)+1=((i+1:Nat):Int) by omega]
  have ih:=D6 hK h4 n (i+1) f (by omega) (by omega)
  exact D5 (K:=fun _=>bR W s K f ((i+1:Nat):Int)) ih (by omega) h4 i 0 fuel (by omega) (by have:=aL;omega)
theorem D7 {L:List ab} {W:List (List af)} {s:Int} {K:Unit→Option Int} (hK:Tot True (K ())) (h4:(W.getD s.toNat default).length≤4):∀ (n i f:Nat),i+n=(W.getD s.toNat default).length→n<f→Tot True (ck L W s K f (i:Int))
 | n,i,0,hi,hf=>by omega
 | 0,i,f+1,hi,hf=>by
  rw [ck,aU (by omega),cond_false]
  exact D6 hK h4 (W.getD s.toNat default).length 0 fuel (by omega) (by have:=aL;omega)
 | n+1,i,f+1,hi,hf=>by
  rw [ck,aR (by omega),cond_true,aB (aN ⟨by omega,by omega⟩),w64 (by omega),show (i:Int)+1=((i+1:Nat):Int) by omega]
  exact .next (BJ _ _) fun _=>D7 hK h4 n (i+1) f (by omega) (by omega)
theorem n_l4 {L:List ab} {W:List (List af)} (hW:W.length≤4):∀ (n i f:Nat),i+n=W.length→n<f→Tot True (cb L W f (i:Int))
 | n,i,0,hi,hf=>by omega
 | 0,i,f+1,hi,hf=>by
  rw [cb,aU (by omega),cond_false]
  exact .ok trivial _
 | n+1,i,f+1,hi,hf=>by
  rw [cb,aR (by omega),cond_true,dR,w64 (by omega),show (i:Int)+1=((i+1:Nat):Int) by omega]
  refine .nd (aN ⟨by omega,by omega⟩) (.br (fun _=> .ok trivial _) fun _=> .br (fun _=> .ok trivial _) fun h=>?_)
  rw [bM] at h
  have ih:=n_l4 (L:=L) hW n (i+1) f (by omega) (by omega)
  exact D7 (K:=fun _=>cb L W f ((i+1:Nat):Int)) ih (by omega) (W.getD (i:Int).toNat default).length 0 fuel (by omega) (by have:=aL;omega)
theorem BK (L:List ab) (W:List (List af)):Tot True (fg L W):=by
 unfold fg
 refine .br (fun _=> .ok trivial _) fun _=> .br (fun _=> .ok trivial _) fun h=>?_
 rw [bM] at h
 exact n_l4 (by omega) W.length 0 fuel (by omega) (by have:=aL;omega)
theorem BL:hH 117=some [1,2]:=by decide+kernel
theorem xF (L:List ab) (o:Int):∀ (n i f:Nat),i+n=2→n<f→∃ b,cB L o [1,2] f (i:Int)=some b
 | n,i,0,hi,hf=>by omega
 | 0,i,f+1,hi,hf=>by
  rw [cB,aU (by simp only [List.length_cons,List.length_nil];omega)]
  exact ⟨_,rfl⟩
 | n+1,i,f+1,hi,hf=>by
  rw [cB]
  cases h:((iLt (i:Int) (([1,2]:List Int).length:Int)&&iLe 0 o)&&iLt o (L.length:Int)) with
  | false=>exact ⟨_,rfl⟩
  | true=>
   simp only [Bool.and_eq_true,cP,dS] at h
   rw [cond_true,aB (aN ⟨h.1.2,h.2⟩),aB (aN ⟨by omega,h.1.1⟩),w64 (by omega),show (i:Int)+1=((i+1:Nat):Int) by omega]
   obtain ⟨b,hb⟩:=xF L o n (i+1) f (by omega) (by omega)
   rw [hb,bb]
   exact ⟨_,rfl⟩
theorem Dg (L:List ab) (o:Int):∃ b,gl L 117 o=some b:=by
 unfold gl
 rw [BL,aj]
 exact xF L o 2 0 fuel (by omega) (by have:=aL;omega)
theorem BM (L:List ab) (x:ab):Tot True (jj L x):=by
 unfold jj
 refine .br (fun _=> .ok trivial _) fun _=> .br (fun _=> .ok trivial _) fun _=> .br (fun _=> .ok trivial _) fun _=>?_
 obtain ⟨b,hb⟩:=Dg L x.B
 have:∃ c,cond (iEq x.Kind 7) (jb x.A) (some default)=some c:=by cases iEq x.Kind 7 <;> exact ⟨_,rfl⟩
 obtain ⟨c,hc⟩:=this
 rw [hc,aj,hb,bb,aj]
 exact .br (fun _=> .ok trivial _) fun _=> .br (fun _=> .ok trivial _) fun _=> .ok trivial _
theorem xG (L:List ab) (hL:L.length≤32):∀ (n i f:Nat),i+n=L.length→n<f→∃ p,cz L f (i:Int)=some p
 | n,i,0,hi,hf=>by omega
 | 0,i,f+1,hi,hf=>by
  rw [cz,aU (by omega),cond_false]
  exact ⟨_,rfl⟩
 | n+1,i,f+1,hi,hf=>by
  rw [cz,aR (by omega),cond_true,aB (aN ⟨by omega,by omega⟩),Int.toNat_natCast,w64 (by omega),show (i:Int)+1=((i+1:Nat):Int) by omega]
  obtain ⟨e,he,_⟩:=BM L (L.getD i default)
  obtain ⟨p,hp⟩:=xG L hL n (i+1) f (by omega) (by omega)
  rw [he,aj,hp,bb]
  exact ⟨_,rfl⟩
theorem AQ (L:List ab):∃ p,ff L=some p:=by
 unfold ff
 cases h:iLt 32 (L.length:Int) with
 | true=>exact ⟨_,rfl⟩
 | false=>
  rw [bM] at h
  rw [cond_false]
  exact xG L (by omega) L.length 0 fuel (by omega) (by have:=aL;omega)
structure OkP (p:ah):Prop where
 most:p.Funcs.length≤16
 fns:∀ j,j<p.Funcs.length→OkFn (p.Funcs.getD j default)
 pos:0<p.Funcs.length
theorem xH (p:ah) (hW:p.Waits.length≤32):∀ (n i f:Nat),i+n=p.Waits.length→n<f→Tot (OkP p) (cA p f (i:Int))
 | n,i,0,hi,hf=>by omega
 | 0,i,f+1,hi,hf=>by
  rw [cA,aU (by omega),cond_false]
  refine .br (fun _=> .bad (by decide)) fun h1=> .br (fun _=> .bad (by decide)) fun h=>?_
  rw [bM] at h
  rw [fu] at h1
  exact (AP p (by omega) p.Funcs.length 0 fuel (by omega) (by have:=aL;omega)).mono fun h'=>⟨by omega,fun j hj=>h' j (Nat.zero_le _) hj,by omega⟩
 | n+1,i,f+1,hi,hf=>by
  rw [cA,aR (by omega),cond_true,aB (aN ⟨by omega,by omega⟩),Int.toNat_natCast,w64 (by omega),show (i:Int)+1=((i+1:Nat):Int) by omega]
  exact .next (BK _ _) fun _=>xH p hW n (i+1) f (by omega) (by omega)
theorem BN (p:ah):Tot (OkP p) (fh p):=by
 unfold fh
 obtain ⟨q,hq⟩:=AQ p.Decls
 rw [hq,aj]
 refine .br (fun h=>⟨_,rfl,fun h0=>?_⟩) fun _=> .br (fun _=> .bad (by decide)) fun h=>?_
 ·rw [bd h0] at h;cases h
 ·rw [bM] at h
  exact xH p (by omega) p.Waits.length 0 fuel (by omega) (by have:=aL;omega)
def Same (p:ah) (z:Option ah):Prop:=∃ d w,z=some ⟨d,w,p.Funcs⟩
end LJ
end
section
namespace LJ
open Go Go.RowKit
set_option linter.unusedVariables false
set_option linter.unusedSimpArgs false
theorem qI:∀ k:Fin 52,(jJ k).isSome=true∧(cY k).isSome=true∧(match cY k with | some v=>decide (0≤v)&&decide (v≤2) | none=>false)=true:=by decide+kernel
theorem wq {k:Int} (h:0≤k∧k<52):∃ v,cY k=some v∧0≤v∧v≤2:=by
 have:=(qI ⟨k.toNat,by omega⟩).2.2
 dsimp only at this
 rw [Int.toNat_of_nonneg h.1] at this
 cases hp:cY k with
 | none=>rw [hp] at this;cases this
 | some v=>
  rw [hp] at this
  simp only [Bool.and_eq_true,decide_eq_true_eq] at this
  exact ⟨v,rfl,this.1,this.2⟩
theorem yD {k:Int} (h:0≤k∧k<52):∃ v,jJ k=some v:=by
 have:=(qI ⟨k.toNat,by omega⟩).1
 dsimp only at this
 rw [Int.toNat_of_nonneg h.1] at this
 exact Option.isSome_iff_exists.1 this
theorem AR {x:ar} {a:Int} (h:0≤x.Op∧x.Op<52) (ha:0≤a∧a≤8) (hb: -2147483648≤x.B∧x.B<2147483648):∃ v,gb x a=some v∧ -2147483648≤v∧v≤2147483650:=by
 obtain ⟨s,hs⟩:=yD h
 unfold gb
 rw [dR,hs]
 simp only [aj,dR]
 have w1:IntKind.i64.wrap ((0:Int)+1)=1:=by decide
 have w2:IntKind.i64.wrap ((1:Int)+1)=2:=by decide
 rw [w1,w2,w64 (a:=1+x.B) (by omega),w64 (a:=0+x.B) (by omega)]
 simp only [bb]
 refine ⟨_,rfl,?_⟩
 cases iEq x.Op 20 with
 | true=>rw [cond_true];omega
 | false=>
  rw [cond_false]
  cases iEq x.Op 42 with
  | true=>rw [cond_true];omega
  | false=>
   rw [cond_false]
   cases iEq x.Op 41 with
   | true=>rw [cond_true];omega
   | false=>
    rw [cond_false]
    cases iEq s 4 <;> cases iEq s 2 <;> cases iEq s 3 <;> cases iEq s 5 <;> simp only [cond_true,cond_false] <;> omega
theorem EG {x:ar} (h:OkI x): -2147483648≤x.B∧x.B<2147483648:=by
 by_cases h0:(dq x.Op).size≤1
 ·rw [h.b0 h0];omega
 ·have:=mo (h.b1 (by omega));omega
theorem nA {x:ar} (h:OkI x) (hx:x.Op=18∨x.Op=19∨x.Op=20):0≤x.A:=by
 have key:0<(dq x.Op).size∧bf (dq x.Op) 0≠110:=by rcases hx with h | h | h <;> rw [h] <;> decide+kernel
 exact (mo (h.a1 key.1)).2.2 key.2
abbrev W:=aH
def dAt (w:W) (i:Nat):Int:=w.depth.getD i default
def nAt (w:W) (i:Nat):Bool:=w.next.getD i default
structure Ext (w w':W):Prop where
 p:w'.p=w.p
 code:w'.code=w.code
 dl:w'.depth.length=w.depth.length
 nl:w'.next.length=w.next.length
 old:∀ i,0≤dAt w i→dAt w' i=dAt w i∧nAt w' i=nAt w i
 new:∀ i,dAt w i<0→(dAt w' i=dAt w i∧nAt w' i=nAt w i)∨(0≤dAt w' i∧dAt w' i≤16∧nAt w' i=true)
 err:w.err≠0→w'.err≠0
theorem Ext.refl (w:W):Ext w w:=⟨rfl,rfl,rfl,rfl,fun _ _=>⟨rfl,rfl⟩,fun _ _=> .inl ⟨rfl,rfl⟩,id⟩
theorem Ext.trans {a b c:W} (h:Ext a b) (h':Ext b c):Ext a c where
 p:=h'.p.trans h.p
 code:=h'.code.trans h.code
 dl:=h'.dl.trans h.dl
 nl:=h'.nl.trans h.nl
 old i hi:=by
  obtain ⟨h1,h2⟩:=h.old i hi
  obtain ⟨h3,h4⟩:=h'.old i (by omega)
  exact ⟨h3.trans h1,h4.trans h2⟩
 new i hi:=by
  rcases h.new i hi with ⟨h1,h2⟩ | ⟨h1,h2,h3⟩
  ·rcases h'.new i (by omega) with ⟨h4,h5⟩ | h4
   ·exact .inl ⟨h4.trans h1,h5.trans h2⟩
   ·exact .inr h4
  ·obtain ⟨h4,h5⟩:=h'.old i h1
   exact .inr ⟨by omega,by omega,h5.trans h3⟩
 err he:=h'.err (h.err he)
theorem pQ (w:W) (a e:Int) (he:e≠0):∃ w',bc w a e=some w'∧Ext w w'∧w'.err≠0:=by
 unfold bc
 cases h:(iEq w.err 0||iLt a w.at_) with
 | true=>exact ⟨_,rfl,⟨rfl,rfl,rfl,rfl,fun _ _=>⟨rfl,rfl⟩,fun _ _=> .inl ⟨rfl,rfl⟩,fun _=>he⟩,he⟩
 | false=>
  rw [Bool.or_eq_false_iff,fu] at h
  exact ⟨_,rfl, .refl w,h.1⟩
theorem uQ {α:Type} [Inhabited α] (L:List α) (k:Nat) (v:α) (hk:k<L.length) (i:Nat):(L.set k v).getD i default=if i=k then v else L.getD i default:=by
 rw [List.getD_eq_getElem?_getD,List.getD_eq_getElem?_getD,List.getElem?_set]
 by_cases h:i=k
 ·subst h;simp [hk]
 ·rw [if_neg (fun h'=>h h'.symm),if_neg h]
structure Lens (w:W):Prop where
 d:w.depth.length=w.code.length
 n:w.next.length=w.code.length
theorem Ext.lens {w w':W} (h:Ext w w') (hl:Lens w):Lens w':=⟨by rw [h.dl,h.code,hl.d],by rw [h.nl,h.code,hl.n]⟩
theorem tc (w:W) (hw:Lens w) (a to b:Int) (h0:0≤to) (hb:0≤b∧b≤16):∃ k w',aV w a to b=some (k,w')∧Ext w w'∧(k=false→w'.err≠0)∧(k=true→to<w.code.length∧dAt w' to.toNat=b):=by
 unfold aV
 by_cases h:to<w.code.length
 ·have hd:nIn to (w.depth.length:Int)=true:=aN ⟨h0,by rw [hw.d];exact h⟩
  have hn:nIn to (w.next.length:Int)=true:=aN ⟨h0,by rw [hw.n];exact h⟩
  have hd':to.toNat<w.depth.length:=by rw [hw.d];omega
  have hn':to.toNat<w.next.length:=by rw [hw.n];omega
  rw [kA (by omega),cond_false,aB hd,aB hd,aB hn,aB hd]
  by_cases hneg:w.depth.getD to.toNat default<0
  ·rw [aR hneg,cond_true]
   have hD:∀ i,dAt (⟨w.p,w.code,w.depth.set to.toNat b,w.next.set to.toNat true,w.at_,w.err⟩:W) i=if i=to.toNat then b else dAt w i:=fun i=>uQ _ _ _ hd' i
   have hN:∀ i,nAt (⟨w.p,w.code,w.depth.set to.toNat b,w.next.set to.toNat true,w.at_,w.err⟩:W) i=if i=to.toNat then true else nAt w i:=fun i=>uQ _ _ _ hn' i
   refine ⟨_,_,rfl,⟨rfl,rfl,List.length_set,List.length_set,fun i hi=>?_,fun i hi=>?_,id⟩,fun h=>(by cases h),fun _=>⟨h,?_⟩⟩
   ·have:i≠to.toNat:=fun h=>by subst h;exact absurd hneg (Int.not_lt.2 hi)
    rw [hD,hN,if_neg this,if_neg this]
    exact ⟨rfl,rfl⟩
   ·rw [hD,hN]
    by_cases h:i=to.toNat
    ·rw [if_pos h,if_pos h];exact .inr ⟨hb.1,hb.2,rfl⟩
    ·rw [if_neg h,if_neg h];exact .inl ⟨rfl,rfl⟩
   ·rw [hD,if_pos rfl]
  ·rw [aU (by omega),cond_false]
   by_cases he:w.depth.getD to.toNat default=b
   ·rw [bd he,cond_false]
    exact ⟨_,_,rfl, .refl w,fun h=>(by cases h),fun _=>⟨h,he⟩⟩
   ·obtain ⟨w',h1,h2,h3⟩:=pQ w a 2 (by decide)
    rw [bn he,cond_true,h1,aj]
    exact ⟨_,_,rfl,h2,fun _=>h3,fun h=>(by cases h)⟩
 ·obtain ⟨w',h1,h2,h3⟩:=pQ w a 3 (by decide)
  rw [l0 (by omega),cond_true,h1,aj]
  exact ⟨_,_,rfl,h2,fun _=>h3,fun h=>(by cases h)⟩
def yE (p:ah) (x:ar):Int:=cond (iEq x.Op 20&&iLt x.A (p.Funcs.length:Int)) (p.Funcs.getD x.A.toNat default).Args 0
structure Good (p:ah) (code:List ar) (dep:Nat→Int) (i:Nat):Prop where
 h:∃ v u:Int,gb (code.getD i default) (yE p (code.getD i default))=some v∧cY (code.getD i default).Op=some u∧ -2147483648≤v∧v≤2147483650∧0≤u∧u≤2∧0≤dep i - v∧dep i - v+u≤16∧
  ((code.getD i default).Op≠18→(code.getD i default).Op≠21→i+1<code.length∧dep (i+1)=dep i - v+u)∧
  ((code.getD i default).Op=18∨(code.getD i default).Op=19→0≤(code.getD i default).A∧(code.getD i default).A<code.length∧dep (code.getD i default).A.toNat=dep i - v+u)
theorem AU {k:Int} (h:0≤k∧k<52):ll k=some (iNe k 18&&iNe k 21):=by
 unfold ll
 rw [kM,jY.2 h,aj,Bool.true_and]
theorem AW {p:ah} {code:List ar} {w:W} (hp:w.p=p) (hc:w.code=code) (hw:Lens w) {i:Nat} (hi:i<code.length) (hlen:code.length≤200) (hx:OkI (code.getD i default)) (hd:0≤dAt w i∧dAt w i≤16) {v u:Int} (hv:gb (code.getD i default) (yE p (code.getD i default))=some v) (hv1: -2147483648≤v∧v≤2147483650) (hu:cY (code.getD i default).Op=some u) (hu1:0≤u∧u≤2):
  ∃ w',(cond (iLt (IntKind.i64.wrap ((w.depth.getD i default) - v)) 0) ((bc w (i:Int) 2).bind fun (x5:aH)=>some x5) ((cY ((code.getD i default).Op)).bind fun (x6:Int)=>cond (iLt 16 (IntKind.i64.wrap ((IntKind.i64.wrap ((w.depth.getD i default) - v))+x6))) ((bc w (i:Int) 4).bind fun (x8:aH)=>some x8) ((ll ((code.getD i default).Op)).bind fun (x9:Bool)=>cond x9 ((aV w (i:Int) (IntKind.i64.wrap ((i:Int)+1)) (IntKind.i64.wrap ((IntKind.i64.wrap ((w.depth.getD i default) - v))+x6))).bind fun (x11:Bool×aH)=>cond (!x11.1) (some x11.2) (cond ((iEq ((code.getD i default).Op) 18)||(iEq ((code.getD i default).Op) 19)) ((aV x11.2 (i:Int) ((code.getD i default).A) (IntKind.i64.wrap ((IntKind.i64.wrap ((w.depth.getD i default) - v))+x6))).bind fun (x14:Bool×aH)=>some x14.2) (some x11.2))) (cond ((iEq ((code.getD i default).Op) 18)||(iEq ((code.getD i default).Op) 19)) ((aV w (i:Int) ((code.getD i default).A) (IntKind.i64.wrap ((IntKind.i64.wrap ((w.depth.getD i default) - v))+x6))).bind fun (x16:Bool×aH)=>some x16.2) (some w)))))=some w'∧Ext w w'∧(w'.err≠0∨Good p code (dAt w') i):=by
 have hd0:w.depth.getD i default=dAt w i:=rfl
 rw [hd0,w64 (a:=dAt w i - v) (by omega)]
 by_cases h1:dAt w i - v<0
 ·obtain ⟨w',e1,e2,e3⟩:=pQ w (i:Int) 2 (by decide)
  rw [aR h1,cond_true,e1]
  exact ⟨_,rfl,e2, .inl e3⟩
 rw [aU (by omega),cond_false,hu,aj,w64 (by omega)]
 by_cases h2:16<dAt w i - v+u
 ·obtain ⟨w',e1,e2,e3⟩:=pQ w (i:Int) 4 (by decide)
  rw [aR h2,cond_true,e1]
  exact ⟨_,rfl,e2, .inl e3⟩
 rw [aU (by omega),cond_false,AU hx.op,aj,w64 (by omega)]
 have hb:0≤dAt w i - v+u∧dAt w i - v+u≤16:=by omega
 have mk:∀ w':W,Ext w w'→((code.getD i default).Op≠18→(code.getD i default).Op≠21→i+1<code.length∧dAt w' (i+1)=dAt w i - v+u)→((code.getD i default).Op=18∨(code.getD i default).Op=19→(code.getD i default).A<code.length∧dAt w' (code.getD i default).A.toNat=dAt w i - v+u)→Good p code (dAt w') i:=fun w' he g1 g2=>by
  have:=(he.old i hd.1).1
  rw [←this] at g1 g2 h1 h2
  exact ⟨v,u,hv,hu,hv1.1,hv1.2,hu1.1,hu1.2,by omega,by omega,g1,fun h=>⟨nA hx (by omega),g2 h⟩⟩
 generalize hz:dAt w i - v+u=z at*
 cases hg:(iNe (code.getD i default).Op 18&&iNe (code.getD i default).Op 21) with
 | true=>
  rw [Bool.and_eq_true,zQ,zQ] at hg
  obtain ⟨k,w1,e1,e2,e3,e4⟩:=tc w hw (i:Int) ((i:Int)+1) z (by omega) hb
  rw [cond_true,e1,aj]
  dsimp only
  cases k with
  | false=>exact ⟨_,rfl,e2, .inl (e3 rfl)⟩
  | true=>
   obtain ⟨e4,e5⟩:=e4 rfl
   rw [hc] at e4
   have e6:dAt w1 (i+1)=z:=by rw [←e5];congr 1
   rw [Bool.not_true,cond_false]
   cases hj:(iEq (code.getD i default).Op 18||iEq (code.getD i default).Op 19) with
   | false=>
    rw [Bool.or_eq_false_iff,fu,fu] at hj
    exact ⟨_,rfl,e2, .inr (mk w1 e2 (fun _ _=>⟨by omega,e6⟩) (fun h=>(h.elim hj.1 hj.2).elim))⟩
   | true=>
    rw [Bool.or_eq_true,cy,cy] at hj
    obtain ⟨k2,w2,f1,f2,f3,f4⟩:=tc w1 (e2.lens hw) (i:Int) (code.getD i default).A z (nA hx (by omega)) hb
    rw [cond_true,f1,aj]
    cases k2 with
    | false=>exact ⟨_,rfl,e2.trans f2, .inl (f3 rfl)⟩
    | true=>
     obtain ⟨f4,f5⟩:=f4 rfl
     rw [e2.code,hc] at f4
     exact ⟨_,rfl,e2.trans f2, .inr (mk w2 (e2.trans f2) (fun _ _=>⟨by omega,by rw [(f2.old (i+1) (by omega)).1,e6]⟩) (fun _=>⟨f4,f5⟩))⟩
 | false=>
  rw [cond_false]
  have hg':(code.getD i default).Op=18∨(code.getD i default).Op=21:=by
   rcases Bool.and_eq_false_iff.1 hg with h | h
   ·exact .inl (xd.1 h)
   ·exact .inr (xd.1 h)
  cases hj:(iEq (code.getD i default).Op 18||iEq (code.getD i default).Op 19) with
  | false=>
   rw [Bool.or_eq_false_iff,fu,fu] at hj
   exact ⟨_,rfl, .refl w, .inr (mk w (.refl w) (fun h h'=>(hg'.elim h h').elim) (fun h=>(h.elim hj.1 hj.2).elim))⟩
  | true=>
   rw [Bool.or_eq_true,cy,cy] at hj
   obtain ⟨k2,w2,f1,f2,f3,f4⟩:=tc w hw (i:Int) (code.getD i default).A z (nA hx (by omega)) hb
   rw [cond_true,f1,aj]
   cases k2 with
   | false=>exact ⟨_,rfl,f2, .inl (f3 rfl)⟩
   | true=>
    obtain ⟨f4,f5⟩:=f4 rfl
    rw [hc] at f4
    exact ⟨_,rfl,f2, .inr (mk w2 f2 (fun h h'=>(hg'.elim h h').elim) (fun _=>⟨f4,f5⟩))⟩
theorem Dh {p:ah} {code:List ar} {w:W} (hp:w.p=p) (hc:w.code=code) (hF:∀ j,j<p.Funcs.length→OkFn (p.Funcs.getD j default)) (hw:Lens w) {i:Nat} (hi:i<code.length) (hlen:code.length≤200) (hx:OkI (code.getD i default)) (hd:0≤dAt w i∧dAt w i≤16):
  ∃ w',cC w (i:Int)=some w'∧Ext w w'∧(w'.err≠0∨Good p code (dAt w') i):=by
 obtain ⟨u,hu,hu1⟩:=wq hx.op
 have hargs:0≤yE p (code.getD i default)∧yE p (code.getD i default)≤8:=by
  unfold yE
  cases h:(iEq (code.getD i default).Op 20&&iLt (code.getD i default).A (p.Funcs.length:Int)) with
  | false=>rw [cond_false];omega
  | true=>
   rw [Bool.and_eq_true,cy,cP] at h
   have h0:=nA hx (.inr (.inr h.1))
   have:=(hF (code.getD i default).A.toNat (by omega)).args
   rw [cond_true];exact this
 obtain ⟨v,hv,hv1⟩:=AR hx.op hargs (EG hx)
 have key:=AW hp hc hw hi hlen hx hd hv hv1 hu hu1
 unfold cC
 have hdn:nIn (i:Int) (w.depth.length:Int)=true:=aN ⟨by omega,by rw [hw.d,hc];omega⟩
 rw [hc,hp,aB (aN ⟨by omega,by omega⟩),Int.toNat_natCast]
 unfold yE at hv
 cases h:(iEq (code.getD i default).Op 20&&iLt (code.getD i default).A (p.Funcs.length:Int)) with
 | true=>
  rw [h,cond_true] at hv
  rw [Bool.and_eq_true,cy,cP] at h
  have h0:=nA hx (.inr (.inr h.1))
  rw [cond_true,aB (aN ⟨h0,h.2⟩),aB hdn,hv,aj]
  exact key
 | false=>
  rw [h,cond_false] at hv
  rw [cond_false,aB hdn,hv,aj]
  exact key
end LJ
end
section
namespace LJ
open Go Go.RowKit
set_option linter.unusedVariables false
set_option linter.unusedSimpArgs false
theorem Good.ext {p:ah} {code:List ar} {w w':W} {i:Nat} (h:Good p code (dAt w) i) (he:Ext w w') (hd:0≤dAt w i):Good p code (dAt w') i:=by
 obtain ⟨v,u,h1,h2,h3,h4,h5,h6,h7,h8,h9,h10⟩:=h.h
 have e:=(he.old i hd).1
 refine ⟨v,u,h1,h2,h3,h4,h5,h6,by omega,by omega,fun a b=>?_,fun a=>?_⟩
 ·obtain ⟨g1,g2⟩:=h9 a b
  exact ⟨g1,by rw [(he.old (i+1) (by omega)).1];omega⟩
 ·obtain ⟨g0,g1,g2⟩:=h10 a
  exact ⟨g0,g1,by rw [(he.old _ (by omega)).1];omega⟩
structure Inv (p:ah) (code:List ar) (w:W):Prop where
 ep:w.p=p
 ec:w.code=code
 lens:Lens w
 d0:dAt w 0=0
 rng:∀ i,i<code.length→dAt w i≤16
 nx:∀ i,i<code.length→nAt w i=true→0≤dAt w i
 good:∀ i,i<code.length→0≤dAt w i→nAt w i=false→w.err≠0∨Good p code (dAt w) i
def pend (w:W) (i:Nat):Bool:=decide (dAt w i<0)||nAt w i
def cnt (w:W) (n:Nat):Nat:=(List.range n).countP (pend w)
theorem uR {α:Type} {p q:α→Bool} :∀ (l:List α) (a:α),(∀ x∈l,q x=true→p x=true)→a∈l→p a=true→q a=false→l.countP q<l.countP p
 | [],a,h,ha,_,_=>by cases ha
 | x::l,a,h,ha,hp,hq=>by
  rw [List.countP_cons,List.countP_cons]
  have hm:l.countP q≤l.countP p:=List.countP_mono_left fun y hy=>h y (List.mem_cons_of_mem _ hy)
  by_cases e:a=x
  ·subst e
   rw [hp,hq]
   simp
   omega
  ·have hin:a∈l:=by
    rcases List.mem_cons.1 ha with h' | h'
    ·exact absurd h' e
    ·exact h'
   have ih:=uR l a (fun y hy=>h y (List.mem_cons_of_mem _ hy)) hin hp hq
   have hx:=h x (List.mem_cons_self ..)
   cases hqx:q x with
   | false=>simp;split <;> omega
   | true=>rw [hx hqx];omega
theorem D8 {p:ah} {code:List ar} {w:W} (hF:∀ j,j<p.Funcs.length→OkFn (p.Funcs.getD j default)) (hlen:code.length≤200) (hI:∀ j,j<code.length→OkI (code.getD j default)) (h:Inv p code w) {k:Nat} (hk:k<code.length) (hn:nAt w k=true):
  ∃ w',cC ⟨w.p,w.code,w.depth,w.next.set k false,w.at_,w.err⟩ (k:Int)=some w'∧Inv p code w'∧cnt w' code.length<cnt w code.length:=by
 have hkn:k<w.next.length:=by rw [h.lens.n,h.ec];exact hk
 have hN:∀ i,nAt (⟨w.p,w.code,w.depth,w.next.set k false,w.at_,w.err⟩:W) i=if i=k then false else nAt w i:=fun i=>uQ _ _ _ hkn i
 have hD:∀ i,dAt (⟨w.p,w.code,w.depth,w.next.set k false,w.at_,w.err⟩:W) i=dAt w i:=fun i=>rfl
 have hE:(⟨w.p,w.code,w.depth,w.next.set k false,w.at_,w.err⟩:W).err=w.err:=rfl
 have hL:Lens (⟨w.p,w.code,w.depth,w.next.set k false,w.at_,w.err⟩:W):=⟨h.lens.d,by rw [List.length_set];exact h.lens.n⟩
 have hdk:=h.nx k hk hn
 have hdk2:=h.rng k hk
 obtain ⟨w',e1,e2,e3⟩:=Dh (w:=⟨w.p,w.code,w.depth,w.next.set k false,w.at_,w.err⟩) h.ep h.ec hF hL hk hlen (hI k hk) ⟨hdk,hdk2⟩
 generalize hw0:(⟨w.p,w.code,w.depth,w.next.set k false,w.at_,w.err⟩:W)=w0 at*
 have hp0:w0.p=w.p:=by rw [←hw0]
 have hc0:w0.code=w.code:=by rw [←hw0]
 refine ⟨w',e1,⟨e2.p.trans (hp0.trans h.ep),e2.code.trans (hc0.trans h.ec),e2.lens hL,?_,fun i hi=>?_,fun i hi hni=>?_,fun i hi hdi hni=>?_⟩,?_⟩
 ·rw [(e2.old 0 (by rw [hD,h.d0];exact Int.le_refl _)).1,hD,h.d0]
 ·by_cases hd:0≤dAt w0 i
  ·rw [(e2.old i hd).1,hD];exact h.rng i hi
  ·rcases e2.new i (by omega) with ⟨a,_⟩ | ⟨_,a,_⟩
   ·omega
   ·exact a
 ·by_cases hd:0≤dAt w0 i
  ·rw [(e2.old i hd).1];exact hd
  ·rcases e2.new i (by omega) with ⟨_,b⟩ | ⟨a,_⟩
   ·rw [b,hN] at hni
    by_cases hik:i=k
    ·rw [if_pos hik] at hni;cases hni
    ·rw [if_neg hik] at hni
     have:=h.nx i hi hni
     rw [hD] at hd
     exact absurd this hd
   ·exact a
 ·by_cases hik:i=k
  ·rw [hik];exact e3
  ·by_cases hd:0≤dAt w0 i
   ·have hh:=(e2.old i hd).2
    rw [hni,hN,if_neg hik] at hh
    rcases h.good i hi (by rw [←hD];exact hd) hh.symm with a | a
    ·exact .inl (e2.err (by rw [hE];exact a))
    ·refine .inr (Good.ext (w:=w0) ?_ e2 hd)
     have:dAt w0=dAt w:=funext hD
     rw [this];exact a
   ·rcases e2.new i (by omega) with ⟨a,_⟩ | ⟨_,_,a⟩
    ·omega
    ·rw [a] at hni;cases hni
 ·refine uR (List.range code.length) k (fun i hi hpi=>?_) (List.mem_range.2 hk) ?_ ?_
  ·unfold pend at hpi ⊢
   by_cases hd:0≤dAt w0 i
   ·obtain ⟨a,b⟩:=e2.old i hd
    rw [a,b,hN] at hpi
    by_cases hik:i=k
    ·rw [hik,hn,Bool.or_true]
    ·rwa [if_neg hik,hD] at hpi
   ·rw [hD] at hd
    rw [decide_eq_true (by omega:dAt w i<0)];rfl
  ·unfold pend;rw [hn,Bool.or_true]
  ·unfold pend
   obtain ⟨a,b⟩:=e2.old k (by rw [hD];exact hdk)
   rw [a,b,hN,if_pos rfl,hD,decide_eq_false (by omega)];rfl
theorem xI (L:List Bool) (hL:L.length≤1000):∀ (n i f:Nat),i+n=L.length→n<f→∃ r,aW L true f (i:Int)=some r∧((r= -1∧∀ j,i≤j→j<L.length→L.getD j default=false)∨∃ k:Nat,k<L.length∧r=(k:Int)∧L.getD k default=true)
 | n,i,0,hi,hf=>by omega
 | 0,i,f+1,hi,hf=>by
  rw [aW,aU (by omega),cond_false]
  exact ⟨_,rfl, .inl ⟨rfl,fun j h1 h2=>by omega⟩⟩
 | n+1,i,f+1,hi,hf=>by
  rw [aW,aR (by omega),cond_true,aB (aN ⟨by omega,by omega⟩),Int.toNat_natCast,w64 (by omega),show (i:Int)+1=((i+1:Nat):Int) by omega]
  cases hb:L.getD i default with
  | true=>exact ⟨_,rfl, .inr ⟨i,by omega,rfl,hb⟩⟩
  | false=>
   obtain ⟨r,h1,h2⟩:=xI L hL n (i+1) f (by omega) (by omega)
   refine ⟨r,h1,?_⟩
   rcases h2 with ⟨h3,h4⟩ | h3
   ·refine .inl ⟨h3,fun j h5 h6=>?_⟩
    rcases Nat.eq_or_lt_of_le h5 with rfl | h5
    ·exact hb
    ·exact h4 j h5 h6
   ·exact .inr h3
theorem xJ (w:W) (hL:w.next.length≤1000):∃ r,bS w=some r∧((r= -1∧∀ j,j<w.next.length→nAt w j=false)∨∃ k:Nat,k<w.next.length∧r=(k:Int)∧nAt w k=true):=by
 obtain ⟨r,h1,h2⟩:=xI w.next hL w.next.length 0 fuel (by omega) (by have:=aL;omega)
 refine ⟨r,?_,h2.imp (fun h=>⟨h.1,fun j hj=>h.2 j (Nat.zero_le _) hj⟩) id⟩
 unfold bS cq
 rw [show (0:Int)=((0:Nat):Int) from rfl,h1,aj]
structure OkL (p:ah) (code:List ar) (l:List Int):Prop where
 len:l.length=code.length
 d0:l.getD 0 default=0
 rng:∀ i,i<code.length→l.getD i default≤16
 good:∀ i,i<code.length→0≤l.getD i default→Good p code (fun j=>l.getD j default) i
def Res (p:ah) (code:List ar) (z:Option (List Int×Int×Int)):Prop:=∃ l a e,z=some (l,a,e)∧(e=0→OkL p code l)
theorem AX {p:ah} {k:Int} {code:List ar} (hc:(p.Funcs.getD k.toNat default).Code=code) (hlen:code.length≤200) {P:Option (List Int×Int×Int)→Prop} (hK:∀ L:List Int,L.length=code.length→(∀ i,i<code.length→L.getD i default= -1)→P (cond (iEq (code.length:Int) 0) (some ([],0,3)) (need (nMk (code.length:Int) 1) ((aV (⟨p,code,L,List.replicate (code.length:Int).toNat (false:Bool),0,0⟩:aH) 0 0 0).bind fun (x10:Bool×aH)=>(bS x10.2).bind fun (x11:Int)=>eh fuel (x11,x10.2.p.Decls,x10.2.p.Waits,x10.2.p.Funcs,x10.2.code,x10.2.at_,x10.2.err,x10.2.depth,x10.2.next))))):∀ (n i f:Nat) (L:List Int),i+n=code.length→n<f→L.length=code.length→(∀ j,j<i→L.getD j default= -1)→P (gd p k f ((i:Int),L))
 | n,i,0,L,hi,hf,hl,hL=>by omega
 | 0,i,f+1,L,hi,hf,hl,hL=>by
  rw [gd,hc]
  dsimp only
  rw [List.length_map,List.length_replicate,Int.toNat_natCast,aU (by omega),cond_false]
  exact hK L hl fun j hj=>hL j (by omega)
 | n+1,i,f+1,L,hi,hf,hl,hL=>by
  rw [gd,hc]
  dsimp only
  rw [List.length_map,List.length_replicate,Int.toNat_natCast,aR (by omega),cond_true,aB (aN ⟨by omega,by omega⟩),Int.toNat_natCast,w64 (by omega),show (i:Int)+1=((i+1:Nat):Int) by omega]
  refine AX hc hlen hK n (i+1) f _ (by omega) (by omega) (by rw [List.length_set];exact hl) fun j hj=>?_
  rw [uQ _ _ _ (by omega)]
  by_cases h:j=i
  ·rw [if_pos h]
  ·rw [if_neg h];exact hL j (by omega)
end LJ
end
section
namespace LJ
open Go Go.RowKit
set_option linter.unusedVariables false
set_option linter.unusedSimpArgs false
def kf:List Int:=[0,0,1,2,2,2,2,2,1,2,2,2,2,2,2,2,1,1,0,1,0,1,0,0,1,0,0,1,1,0,1,1,0,1,0,0,0,0,0,1,2,0,1,2,1,0,1,0,0,1,0,0]
def BO:List Int:=[1,1,0,1,1,1,1,1,1,1,1,1,1,1,1,1,2,0,0,0,1,0,1,1,1,0,1,1,1,1,1,1,1,1,1,1,1,1,1,1,1,1,1,1,1,2,1,1,1,1,1,1]
def kg (x:ar) (a:Int):Int:=cond (iEq x.Op 20) a (cond (iEq x.Op 41||iEq x.Op 42) (kf.getD x.Op.toNat default+x.B) (kf.getD x.Op.toNat default))
def yF (k:Int):Int:=BO.getD k.toNat default
theorem okB {x:ar} (h:OkI x): -2147483648≤x.B∧x.B<2147483648:=by
 by_cases h0:(dq x.Op).size≤1
 ·rw [h.b0 h0];omega
 ·have:=mo (h.b1 (by omega));omega
theorem sh {x:ar} (h:OkI x) (hx:x.Op=18∨x.Op=19∨x.Op=20):0≤x.A:=by
 have key:0<(dq x.Op).size∧bf (dq x.Op) 0≠110:=by rcases hx with h | h | h <;> rw [h] <;> decide+kernel
 exact (mo (h.a1 key.1)).2.2 key.2
theorem D9 {x:ar} (h:OkI x) (hx:x.Op=41∨x.Op=42):1≤x.B∧x.B≤4:=by
 have key:1<(dq x.Op).size∧bf (dq x.Op) 1=106:=by rcases hx with h | h <;> rw [h] <;> decide+kernel
 have:=h.b1 key.1
 rw [key.2] at this
 unfold inL at this
 rw [aJ (show (106:Int)≠110 by decide),aJ (show (106:Int)≠107 by decide),aJ (show (106:Int)≠116 by decide),aJ (show (106:Int)≠102 by decide),aQ rfl] at this
 simpa only [cond_true,cond_false,Bool.and_eq_true,dS] using this
theorem BP:jl=some kf:=rfl
theorem Di:lS=some BO:=rfl
theorem xK {x:ar} (h:OkI x) (a:Int):dy x a=some (kg x a):=by
 have hk:(iLe 0 x.Op&&iLe x.Op 51)=true:=by rw [Bool.and_eq_true,dS,dS];have:=h.op;omega
 have ho:=h.op
 have hb:=okB h
 have hin:nIn x.Op ((52:Nat):Int)=true:=aN ⟨by omega,by omega⟩
 have hT:0≤kf.getD x.Op.toNat default∧kf.getD x.Op.toNat default≤2:=by
  have key:∀ k:Fin 52,0≤kf.getD k default∧kf.getD k default≤2:=by decide+kernel
  exact key ⟨x.Op.toNat,by omega⟩
 unfold dy dA kg
 rw [aj,hk,Bool.not_true,cond_false,BP]
 simp only [aj]
 rw [show (kf.length:Int)=((52:Nat):Int) from rfl,hin,aB rfl,aB rfl,w64 (by omega)]
 cases iEq x.Op 20 <;> cases (iEq x.Op 41||iEq x.Op 42) <;> rfl
theorem xL {k:Int} (h:0≤k∧k<52):dt k=some (yF k):=by
 unfold dt dA
 rw [aj,show (iLe 0 k&&iLe k 51)=true by rw [Bool.and_eq_true,dS,dS];omega,Bool.not_true,cond_false,Di,aj,aB (aN ⟨by omega,by show k<52;omega⟩)]
 rfl
theorem kh {k:Int} (h:0≤k∧k<52):0≤yF k∧yF k≤2:=by
 have key:∀ j:Fin 52,0≤BO.getD j default∧BO.getD j default≤2:=by decide+kernel
 exact key ⟨k.toNat,by omega⟩
theorem nB {x:ar} (h:OkI x) {a:Int} (ha:0≤a∧a≤8):0≤kg x a∧kg x a≤8∧(x.Op≠20→kg x a≤5):=by
 have ho:=h.op
 have hT:0≤kf.getD x.Op.toNat default∧kf.getD x.Op.toNat default≤2:=by
  have key:∀ k:Fin 52,0≤kf.getD k default∧kf.getD k default≤2:=by decide+kernel
  exact key ⟨x.Op.toNat,by omega⟩
 unfold kg
 by_cases h20:x.Op=20
 ·rw [aQ h20,cond_true];omega
 ·rw [aJ h20,cond_false]
  by_cases h4:x.Op=41∨x.Op=42
  ·have:=D9 h h4
   rw [show (iEq x.Op 41||iEq x.Op 42)=true by rw [Bool.or_eq_true,cy,cy];exact h4,cond_true]
   have h1:kf.getD x.Op.toNat default≤1:=by rcases h4 with e | e <;> rw [e] <;> decide
   omega
  ·rw [show (iEq x.Op 41||iEq x.Op 42)=false by rw [Bool.or_eq_false_iff,fu,fu];omega,cond_false]
   omega
def ki (p:ah) (x:ar):Int:=cond (iEq x.Op 20&&iLt x.A (p.Funcs.length:Int)) (p.Funcs.getD x.A.toNat default).Args 0
def behR (p:ah) (x:ar) (d:Int):Int:=d - kg x (ki p x)+yF x.Op
theorem nC {p:ah} (hp:OkP p) {x:ar} (hx:OkI x):0≤ki p x∧ki p x≤8:=by
 unfold ki
 cases h:(iEq x.Op 20&&iLt x.A (p.Funcs.length:Int)) with
 | true=>
  rw [Bool.and_eq_true,cy,cP] at h
  have h0:=sh hx (.inr (.inr h.1))
  exact (hp.fns x.A.toNat (by omega)).args
 | false=>rw [cond_false];omega
theorem si {p:ah} (hp:OkP p) {x:ar} (hx:OkI x) {d:Int} (hd:0≤d∧d≤16):iC p x d=some (cond (iLt (d - kg x (ki p x)) 0) (-1) (behR p x d)):=by
 have ha:=nC hp hx
 have hv:=nB hx ha
 have hu:=kh hx.op
 have fin:∀ a,ki p x=a→(dy x a).bind (fun (x3:Int)=>cond (iLt (IntKind.i64.wrap (d - x3)) 0) (some (-1)) ((dt x.Op).bind fun (x5:Int)=>some (IntKind.i64.wrap ((IntKind.i64.wrap (d - x3))+x5))))=some (cond (iLt (d - kg x (ki p x)) 0) (-1) (behR p x d)):=fun a e=>by
  subst e
  rw [xK hx,aj,xL hx.op,aj,w64 (a:=d - kg x (ki p x)) (by omega),w64 (by omega),←bb]
  rfl
 unfold iC
 cases h:(iEq x.Op 20&&iLt x.A (p.Funcs.length:Int)) with
 | true=>
  have h':=h
  rw [Bool.and_eq_true,cy,cP] at h
  have h0:=sh hx (.inr (.inr h.1))
  rw [cond_true,aB (aN ⟨h0,h.2⟩)]
  exact fin _ (by unfold ki;rw [h',cond_true])
 | false=>
  rw [cond_false]
  exact fin _ (by unfold ki;rw [h,cond_false])
def nD (x:ar) (i:Int):List Int:=cond (iNe x.Op 18&&iNe x.Op 21) [i+1] []++cond (iEq x.Op 18||iEq x.Op 19) [x.A] []
theorem nF (x:ar) (i:Int):(nD x i).length≤2:=by
 unfold nD
 cases (iNe x.Op 18&&iNe x.Op 21) <;> cases (iEq x.Op 18||iEq x.Op 19) <;> simp
theorem xM (x:ar) {i:Int} (h:0≤i∧i≤1000):j6 x i=some (nD x i):=by
 unfold j6 nD
 rw [w64 (by omega)]
 cases (iNe x.Op 18&&iNe x.Op 21) <;> cases (iEq x.Op 18||iEq x.Op 19) <;> rfl
theorem wt {x:ar} (hx:OkI x) {i:Int} (h:0≤i):∀ t∈nD x i,0≤t:=fun t ht=>by
 unfold nD at ht
 rcases List.mem_append.1 ht with h1 | h1
 ·cases hc:(iNe x.Op 18&&iNe x.Op 21) with
  | true=>rw [hc,cond_true,List.mem_singleton] at h1;omega
  | false=>rw [hc] at h1;cases h1
 ·cases hc:(iEq x.Op 18||iEq x.Op 19) with
  | true=>
   rw [hc,cond_true,List.mem_singleton] at h1
   rw [Bool.or_eq_true,cy,cy] at hc
   have:=sh hx (by omega)
   omega
  | false=>rw [hc] at h1;cases h1
theorem iv {α:Type} [Inhabited α] (L:List α) (k:Nat) (v:α) (hk:k<L.length) (i:Nat):(L.set k v).getD i default=if i=k then v else L.getD i default:=by
 by_cases h:i=k
 ·subst h
  rw [if_pos rfl,List.getD_eq_getElem?_getD,List.getElem?_set_self hk];rfl
 ·rw [if_neg h,List.getD_eq_getElem?_getD,List.getElem?_set_ne (fun e=>h e.symm),List.getD_eq_getElem?_getD]
theorem Ct (code:List ar) (hc:code.length≤200) (d:Int) (hd:0≤d) (ws:List Int) (hw:∀ t∈ws,0≤t) (hl:ws.length≤2):∀ (n i f:Nat) (D:List Int),i+n=ws.length→n<f→D.length=code.length→
  ∃ e D',cK code d ws f ((i:Int),D)=some (e,D')∧D'.length=code.length∧(∀ j,0≤D.getD j default→D'.getD j default=D.getD j default)∧(∀ j,D'.getD j default=D.getD j default∨D'.getD j default=d)∧
   (e=0→∀ k,i≤k→k<ws.length→ws.getD k default<code.length∧D'.getD (ws.getD k default).toNat default=d)
 | n,i,0,D,hi,hf,hD=>by omega
 | 0,i,f+1,D,hi,hf,hD=>by
  rw [cK]
  dsimp only
  rw [aU (by omega),cond_false]
  exact ⟨0,D,rfl,hD,fun j _=>rfl,fun j=> .inl rfl,fun _ k h1 h2=>by omega⟩
 | n+1,i,f+1,D,hi,hf,hD=>by
  have ht:0≤ws.getD i default:=hw _ (by
   rw [List.getD_eq_getElem?_getD,List.getElem?_eq_getElem (by omega)]
   exact List.getElem_mem _)
  have hN:nIn (i:Int) (ws.length:Int)=true:=aN ⟨by omega,by omega⟩
  rw [cK]
  dsimp only
  rw [aR (by omega),cond_true,hN,aB rfl,Int.toNat_natCast]
  by_cases h3:(code.length:Int)≤ws.getD i default
  ·rw [l0 h3,cond_true]
   exact ⟨3,D,rfl,hD,fun j _=>rfl,fun j=> .inl rfl,fun h=>by cases h⟩
  ·have hT:nIn (ws.getD i default) (D.length:Int)=true:=aN ⟨ht,by omega⟩
   rw [kA (by omega),cond_false,aB rfl,hT,aB rfl]
   have key:(0≤D.getD (ws.getD i default).toNat default→D.getD (ws.getD i default).toNat default=d)→∃ e D',cK code d ws f (IntKind.i64.wrap ((i:Int)+1),D.set (ws.getD i default).toNat d)=some (e,D')∧D'.length=code.length∧(∀ j,0≤D.getD j default→D'.getD j default=D.getD j default)∧(∀ j,D'.getD j default=D.getD j default∨D'.getD j default=d)∧
     (e=0→∀ k,i≤k→k<ws.length→ws.getD k default<code.length∧D'.getD (ws.getD k default).toNat default=d):=fun hq=>by
    have hset:=iv D (ws.getD i default).toNat d (by omega)
    obtain ⟨e,D',h1,h2,h4,h5,h6⟩:=Ct code hc d hd ws hw hl n (i+1) f (D.set (ws.getD i default).toNat d) (by omega) (by omega) (by rw [List.length_set];exact hD)
    rw [w64 (by omega),show (i:Int)+1=((i+1:Nat):Int) by omega]
    refine ⟨e,D',h1,h2,fun j hj=>?_,fun j=>?_,fun h0 k hk hk'=>?_⟩
    ·have a:=h4 j
     rw [hset] at a
     by_cases c:j=(ws.getD i default).toNat
     ·rw [if_pos c] at a
      rw [a hd,c,hq (by rw [←c];exact hj)]
     ·rw [if_neg c] at a
      exact a hj
    ·have a:=h5 j
     rw [hset] at a
     by_cases c:j=(ws.getD i default).toNat
     ·rw [if_pos c] at a
      exact .inr (a.elim id id)
     ·rw [if_neg c] at a
      exact a
    ·rcases Nat.eq_or_lt_of_le hk with rfl | hk
     ·refine ⟨by omega,?_⟩
      have a:=h4 (ws.getD i default).toNat
      rw [hset,if_pos rfl] at a
      exact a hd
     ·exact h6 h0 k hk hk'
   by_cases h4:0≤D.getD (ws.getD i default).toNat default
   ·rw [l0 h4,cond_true,aB rfl,aB rfl]
    by_cases h5:D.getD (ws.getD i default).toNat default=d
    ·rw [bd h5,cond_false,aB rfl,aB rfl]
     exact key fun _=>h5
    ·rw [bn h5,cond_true]
     exact ⟨2,D,rfl,hD,fun j _=>rfl,fun j=> .inl rfl,fun h=>by cases h⟩
   ·rw [kA (by omega),cond_false,aB rfl,aB rfl]
    exact key fun h=>absurd h h4
structure yG (p:ah) (code:List ar) (D:List Int) (i:Nat):Prop where
 takes:0≤D.getD i default - kg (code.getD i default) (ki p (code.getD i default))
 most:behR p (code.getD i default) (D.getD i default)≤16
 ways:∀ t∈nD (code.getD i default) (i:Int),t<code.length∧D.getD t.toNat default=behR p (code.getD i default) (D.getD i default)
theorem BQ {l:List Int} {t:Int} (h:t∈l):∃ k,k<l.length∧l.getD k default=t:=by
 obtain ⟨k,hk,e⟩:=List.getElem_of_mem h
 exact ⟨k,hk,by rw [List.getD_eq_getElem?_getD,List.getElem?_eq_getElem hk];exact e⟩
theorem Dj {p:ah} (hp:OkP p) {code:List ar} (hc:code.length≤200) (hI:∀ j,j<code.length→OkI (code.getD j default)) {D:List Int} (hD:D.length=code.length) {i:Nat} (hi:i<code.length) (h0:0≤D.getD i default∧D.getD i default≤16):
  ∃ e D',iE p code D (i:Int)=some (e,D')∧D'.length=code.length∧(∀ j,0≤D.getD j default→D'.getD j default=D.getD j default)∧(∀ j,D'.getD j default=D.getD j default∨0≤D'.getD j default∧D'.getD j default≤16)∧(e=0→yG p code D' i):=by
 have hx:=hI i hi
 have ha:=nC hp hx
 have hv:=nB hx ha
 have hu:=kh hx.op
 unfold iE
 rw [aB (aN ⟨by omega,by omega⟩),aB (aN ⟨by omega,by omega⟩),Int.toNat_natCast,si hp hx h0,aj]
 by_cases h1:D.getD i default - kg (code.getD i default) (ki p (code.getD i default))<0
 ·rw [aR h1,cond_true,aR (by decide),cond_true]
  exact ⟨2,D,rfl,hD,fun j _=>rfl,fun j=> .inl rfl,fun h=>by cases h⟩
 ·have hb:0≤behR p (code.getD i default) (D.getD i default):=by unfold behR;omega
  rw [aU (a:=D.getD i default - kg (code.getD i default) (ki p (code.getD i default))) (by omega),cond_false,aU hb,cond_false]
  by_cases h2:16<behR p (code.getD i default) (D.getD i default)
  ·rw [aR h2,cond_true]
   exact ⟨4,D,rfl,hD,fun j _=>rfl,fun j=> .inl rfl,fun h=>by cases h⟩
  ·rw [aU (by omega),cond_false,aB (aN ⟨by omega,by omega⟩),xM _ (by omega),aj]
   obtain ⟨e,D',q1,q2,q3,q4,q5⟩:=Ct code hc _ hb (nD (code.getD i default) (i:Int)) (wt hx (by omega)) (nF _ _) (nD (code.getD i default) (i:Int)).length 0 fuel D (by omega) (by have:=nF (code.getD i default) (i:Int);have:=aL;omega) hD
   refine ⟨e,D',q1,q2,q3,fun j=>(q4 j).imp id fun h=>by omega,fun h=>⟨by rw [q3 i h0.1];omega,by rw [q3 i h0.1];omega,fun t ht=>?_⟩⟩
   obtain ⟨k,hk,e⟩:=BQ ht
   have:=q5 h k (Nat.zero_le _) hk
   rw [e] at this
   rw [q3 i h0.1]
   exact this
theorem yG.ext {p:ah} {code:List ar} {D D':List Int} {i:Nat} (h:yG p code D i) (hI:OkI (code.getD i default)) (hp:OkP p) (h0:0≤D.getD i default) (he:∀ j,0≤D.getD j default→D'.getD j default=D.getD j default):yG p code D' i:=by
 have hb:0≤behR p (code.getD i default) (D.getD i default):=by
  have:=kh hI.op
  have:=h.takes
  unfold behR;omega
 refine ⟨by rw [he i h0];exact h.takes,by rw [he i h0];exact h.most,fun t ht=>?_⟩
 obtain ⟨h1,h2⟩:=h.ways t ht
 exact ⟨h1,by rw [he i h0,he t.toNat (by omega)];exact h2⟩
structure InvR (p:ah) (code:List ar) (s:Int×Int×List Int×List Bool):Prop where
 dl:s.2.2.1.length=code.length
 nl:s.2.2.2.length=code.length
 d0:s.2.2.1.getD 0 default=0
 rng:∀ j,s.2.2.1.getD j default≤16
 dn:∀ j,j<code.length→s.2.2.2.getD j default=true→0≤s.2.2.1.getD j default
 fb:s.2.1=0→s.1=code.length
 good:s.2.1=0→∀ j,j<code.length→s.2.2.2.getD j default=true→yG p code s.2.2.1 j
structure OkR (p:ah) (code:List ar) (D:List Int):Prop where
 len:D.length=code.length
 d0:D.getD 0 default=0
 rng:∀ i,D.getD i default≤16
 good:∀ i,i<code.length→0≤D.getD i default→yG p code D i
theorem Cu {p:ah} {k:Int} {code:List ar} (hc:(p.Funcs.getD k.toNat default).Code=code) (hlen:code.length≤200) {s:Int×Int×List Int×List Bool} (hs:InvR p code s) {K:Int→Option (List Int×Int×Int)} {P:Option (List Int×Int×Int)→Prop} (hK:∀ i:Nat,i≤code.length→(i<code.length→s.2.2.2.getD i default=false∧0≤s.2.2.1.getD i default)→(i=code.length→∀ j,j<code.length→s.2.2.2.getD j default=true∨s.2.2.1.getD j default<0)→P (K (i:Int))):∀ (n i f:Nat),i+n=code.length→n<f→(∀ j,j<i→s.2.2.2.getD j default=true∨s.2.2.1.getD j default<0)→P (cx p k s K f (i:Int))
 | n,i,0,hi,hf,hj=>by omega
 | 0,i,f+1,hi,hf,hj=>by
  rw [cx,hc,aU (by omega),cond_false]
  exact hK i (by omega) (fun h=>by omega) fun h j hj'=>hj j (by omega)
 | n+1,i,f+1,hi,hf,hj=>by
  have hd:=hs.dl
  have hn:=hs.nl
  have next:(s.2.2.2.getD i default=true∨s.2.2.1.getD i default<0)→P (cx p k s K f (IntKind.i64.wrap ((i:Int)+1))):=fun h=>by
   rw [w64 (by omega),show (i:Int)+1=((i+1:Nat):Int) by omega]
   refine Cu hc hlen hs hK n (i+1) f (by omega) (by omega) fun j hj'=>?_
   rcases Nat.lt_or_ge j i with h1 | h1
   ·exact hj j h1
   ·rw [show j=i by omega];exact h
  rw [cx,hc,aR (by omega),cond_true,aB (aN ⟨by omega,by omega⟩),Int.toNat_natCast]
  cases hb:s.2.2.2.getD i default with
  | true=>exact next (.inl hb)
  | false=>
   rw [cond_false,aB (aN ⟨by omega,by omega⟩)]
   by_cases h0:s.2.2.1.getD i default<0
   ·rw [aR h0,cond_true];exact next (.inr h0)
   ·rw [aU (by omega),cond_false]
    exact hK i (by omega) (fun _=>⟨hb,by omega⟩) fun h=>by omega
def left (L:List Bool) (n:Nat):Nat:=(List.range n).countP fun i=> !(L.getD i default)
theorem oo {p q:Nat→Bool} :∀ (l:List Nat) (a:Nat),(∀ x∈l,q x=true→p x=true)→a∈l→p a=true→q a=false→l.countP q<l.countP p
 | [],a,h,ha,hp,hq=>by cases ha
 | x::l,a,h,ha,hp,hq=>by
  have hx:=h x (List.mem_cons_self ..)
  have hle:l.countP q≤l.countP p:=List.countP_mono_left fun y hy=>h y (List.mem_cons_of_mem _ hy)
  rw [List.countP_cons,List.countP_cons]
  rcases List.mem_cons.1 ha with rfl | ha
  ·rw [if_pos hp,if_neg (by rw [hq];decide)];omega
  ·have ih:=oo l a (fun y hy=>h y (List.mem_cons_of_mem _ hy)) ha hp hq
   cases hqx:q x with
   | true=>rw [if_pos rfl,if_pos (hx hqx)];omega
   | false=>rw [if_neg (by decide)];split <;> omega
def ResR (p:ah) (code:List ar) (z:Option (List Int×Int×Int)):Prop:=∃ l a e,z=some (l,a,e)∧(e=0→OkR p code l)
theorem xN {p:ah} (hp:OkP p) {k:Int} {code:List ar} (hc:(p.Funcs.getD k.toNat default).Code=code) (hlen:code.length≤200) (hI:∀ j,j<code.length→OkI (code.getD j default)) {K:Int×Int×List Int→Option (List Int×Int×Int)} (hK:∀ a b D,K (a,b,D)=cond (iNe b 0) (some ([],a,b)) (some (D,0,0))):∀ (m f:Nat) (s:Int×Int×List Int×List Bool),left s.2.2.2 code.length≤m→m<f→InvR p code s→ResR p code (du p k K f s)
 | m,0,s,hm,hf,hs=>by omega
 | m,f+1,s,hm,hf,hs=>by
  rw [du,dR]
  refine Cu (P:=ResR p code) hc hlen hs (fun i hi h1 h2=>?_) code.length 0 fuel (by omega) (by have:=aL;omega) fun j hj=>by omega
  rw [hc]
  have hd:=hs.dl
  have hn:=hs.nl
  by_cases hl:i=code.length
  ·rw [aQ (by omega),cond_true,hK]
   by_cases hb:s.2.1=0
   ·rw [bd hb,cond_false]
    refine ⟨_,_,_,rfl,fun _=>⟨hs.dl,hs.d0,hs.rng,fun j hj h0=>?_⟩⟩
    rcases h2 hl j hj with h | h
    ·exact hs.good hb j hj h
    ·omega
   ·rw [bn hb,cond_true]
    exact ⟨_,_,_,rfl,fun h=>absurd h hb⟩
  ·obtain ⟨hb,h0⟩:=h1 (by omega)
   have hlt:i<code.length:=by omega
   rw [aJ (by omega),cond_false]
   obtain ⟨e,D',q1,q2,q3,q4,q5⟩:=Dj hp hlen hI hs.dl hlt ⟨h0,hs.rng i⟩
   rw [q1,aj,aB (aN ⟨by omega,by omega⟩),Int.toNat_natCast]
   have hset:=iv s.2.2.2 i true (by omega)
   have hm':left (s.2.2.2.set i true) code.length≤m - 1∧0<m:=by
    have:left (s.2.2.2.set i true) code.length<left s.2.2.2 code.length:=by
     refine oo _ i (fun x _ hx=>?_) (List.mem_range.2 hlt) (by rw [hb];rfl) (by rw [hset,if_pos rfl];rfl)
     rw [hset] at hx
     by_cases c:x=i
     ·rw [if_pos c] at hx;cases hx
     ·rwa [if_neg c] at hx
    omega
   have inv:∀ a b,(b=0→a=(code.length:Int)∧s.2.1=0∧e=0)→InvR p code (a,b,D',s.2.2.2.set i true):=fun a b hab=>by
    refine ⟨q2,by rw [List.length_set];exact hn,by dsimp only;rw [q3 0 (by rw [hs.d0];decide),hs.d0],fun j=>?_,fun j hj hd'=>?_,fun h=>(hab h).1,fun h j hj hd'=>?_⟩
    ·have:=hs.rng j
     dsimp only
     rcases q4 j with h | h <;> omega
    ·dsimp only at hd' ⊢
     rw [hset] at hd'
     by_cases c:j=i
     ·rw [c,q3 i h0];exact h0
     ·rw [if_neg c] at hd'
      have:=hs.dn j hj hd'
      rw [q3 j this];exact this
    ·dsimp only at hd' ⊢
     rw [hset] at hd'
     by_cases c:j=i
     ·rw [c];exact q5 (hab h).2.2
     ·rw [if_neg c] at hd'
      have h3:=hs.dn j hj hd'
      exact (hs.good (hab h).2.1 j hj hd').ext (hI j hj) hp h3 q3
   by_cases he:e=0
   ·rw [bd he,Bool.false_and,cond_false]
    exact xN hp hc hlen hI hK (m - 1) f _ hm'.1 (by omega) (inv _ _ fun h=>⟨hs.fb h,h,he⟩)
   ·rw [bn he,Bool.true_and]
    by_cases hfi:(i:Int)<s.1
    ·rw [aR hfi,cond_true]
     exact xN hp hc hlen hI hK (m - 1) f _ hm'.1 (by omega) (inv _ _ fun h=>absurd h he)
    ·rw [aU (by omega),cond_false]
     exact xN hp hc hlen hI hK (m - 1) f _ hm'.1 (by omega) (inv _ _ fun h=>by have:=hs.fb h;omega)
theorem Dk {p:ah} {k:Int} {code:List ar} (hc:(p.Funcs.getD k.toNat default).Code=code) (hlen:code.length≤200) {P:Option (List Int×Int×Int)→Prop} (hK:∀ D:List Int,D.length=code.length→D.getD 0 default=0→(∀ j,1≤j→j<code.length→D.getD j default= -1)→P (gR (fun s9:Int×Int×(List Int)=>cond (iNe s9.2.1 0) (some ([],s9.1,s9.2.1)) (some (s9.2.2,0,0))) fun K8=>du p k K8 fuel ((((p.Funcs.getD k.toNat default).Code).length:Int),0,D,List.replicate (((p.Funcs.getD k.toNat default).Code).length:Int).toNat (false:Bool)))):∀ (n i f:Nat) (D:List Int),i+n=code.length→n<f→1≤i→D.length=code.length→D.getD 0 default=0→(∀ j,1≤j→j<i→D.getD j default= -1)→P (eu p k f ((i:Int),D))
 | n,i,0,D,hi,hf,h1,hD,h0,hj=>by omega
 | 0,i,f+1,D,hi,hf,h1,hD,h0,hj=>by
  rw [eu]
  dsimp only
  rw [aU (by rw [hc];omega),cond_false]
  exact hK D hD h0 fun j h1 h2=>hj j h1 (by omega)
 | n+1,i,f+1,D,hi,hf,h1,hD,h0,hj=>by
  rw [eu]
  dsimp only
  rw [aR (by rw [hc];omega),cond_true,aB (aN ⟨by omega,by omega⟩),w64 (by omega),show (i:Int)+1=((i+1:Nat):Int) by omega,Int.toNat_natCast]
  have hset:=iv D i (-1) (by omega)
  refine Dk hc hlen hK n (i+1) f _ (by omega) (by omega) (by omega) (by rw [List.length_set];exact hD) (by rw [hset,if_neg (by omega)];exact h0) fun j h2 h3=>?_
  rw [hset]
  by_cases c:j=i
  ·rw [if_pos c]
  ·rw [if_neg c];exact hj j h2 (by omega)
theorem pR {α:Type} [Inhabited α] (n:Nat) (a:α) (i:Nat) (h:i<n):(List.replicate n a).getD i default=a:=by
 rw [List.getD_eq_getElem?_getD,List.getElem?_replicate,if_pos h];rfl
theorem Eb {p:ah} (hp:OkP p) (k:Int):∃ l a e,jI p k=some (l,a,e)∧(e=0→0≤k∧k<p.Funcs.length∧OkR p (p.Funcs.getD k.toNat default).Code l):=by
 unfold jI
 by_cases hk:k<0∨(p.Funcs.length:Int)≤k
 ·rw [show (iLt k 0||iLe (p.Funcs.length:Int) k)=true by rw [Bool.or_eq_true,cP,dS];exact hk,cond_true]
  exact ⟨_,_,_,rfl,fun h=>by cases h⟩
 ·have hF:=hp.fns k.toNat (by omega)
  have hpos:=hF.pos
  have hmost:=hF.most
  rw [show (iLt k 0||iLe (p.Funcs.length:Int) k)=false by rw [Bool.or_eq_false_iff,bM,i6];omega,cond_false,aB (aN ⟨by omega,by omega⟩),aJ (by omega),cond_false]
  have hm8:nMk ((p.Funcs.getD k.toNat default).Code.length:Int) 8=true:=xn ⟨by omega,by omega,by omega⟩
  have hm1:nMk ((p.Funcs.getD k.toNat default).Code.length:Int) 1=true:=xn ⟨by omega,by omega,by omega⟩
  rw [aB hm8,aB hm1,Int.toNat_natCast]
  have main:ResR p (p.Funcs.getD k.toNat default).Code (eu p k fuel (((1:Nat):Int),List.replicate (p.Funcs.getD k.toNat default).Code.length (0:Int))):=by
   refine Dk (P:=ResR p _) rfl hmost (fun D hD h0 hj=>?_) ((p.Funcs.getD k.toNat default).Code.length - 1) 1 fuel _ (by omega) (by have:=aL;omega) (by omega) (by rw [List.length_replicate]) (by rw [pR _ _ _ (by omega)]) fun j h1 h2=>by omega
   rw [dR,Int.toNat_natCast]
   have hfree:∀ j,j<(p.Funcs.getD k.toNat default).Code.length→(List.replicate (p.Funcs.getD k.toNat default).Code.length (false:Bool)).getD j default=false:=fun j hj=>pR _ _ _ hj
   refine xN hp rfl hmost hF.ins (fun a b D=>rfl) (p.Funcs.getD k.toNat default).Code.length fuel _ ?_ (by have:=aL;omega) ⟨hD,by rw [List.length_replicate],h0,fun j=>?_,fun j hj h=>?_,fun _=>rfl,fun _ j hj h=>?_⟩
   ·exact Nat.le_trans List.countP_le_length (by rw [List.length_range];exact Nat.le_refl _)
   ·dsimp only
    by_cases c:j=0
    ·rw [c,h0];decide
    ·by_cases c2:j<(p.Funcs.getD k.toNat default).Code.length
     ·rw [hj j (by omega) c2];decide
     ·rw [List.getD_eq_getElem?_getD,List.getElem?_eq_none (by omega)];decide
   ·dsimp only at h
    rw [hfree j hj] at h;cases h
   ·dsimp only at h
    rw [hfree j hj] at h;cases h
  obtain ⟨l,a,e,h1,h2⟩:=main
  exact ⟨l,a,e,h1,fun h=>⟨by omega,by omega,h2 h⟩⟩
end LJ
end
section
namespace LJ
open Go Go.RowKit
set_option linter.unusedVariables false
set_option linter.unusedSimpArgs false
def Tot3 (P:Prop) (z:Option (Int×Int×Int)):Prop:=∃ a b e,z=some (a,b,e)∧(e=0→P)
def Ec (p:ah) (x:ar):Prop:=x.Op=20→x.A<p.Funcs.length
structure FnR (p:ah) (k:Nat):Prop where
 calls:∀ j,j<(p.Funcs.getD k default).Code.length→Ec p ((p.Funcs.getD k default).Code.getD j default)
 depth:∃ D a,jI p (k:Int)=some (D,a,0)∧OkR p (p.Funcs.getD k default).Code D
structure Runs (p:ah):Prop where
 ok:OkP p
 fns:∀ j,j<p.Funcs.length→FnR p j
end LJ
end
section
namespace LJ
open Go Go.RowKit
set_option linter.unusedVariables false
set_option linter.unusedSimpArgs false
def Agr (w:W) (D:List Int):Prop:=∀ i,0≤dAt w i→dAt w i=D.getD i default
end LJ
end
section
namespace LJ
open Go Go.RowKit
set_option linter.unusedVariables false
set_option linter.unusedSimpArgs false
def opV (p:ah) (F:aq) (x:ar) (c n:Int):Int:=
 cond (iEq c 110) 0 (cond (iEq c 106) 0 (cond (iEq c 107) (cond (iLt n F.Locals) 0 1) (cond (iEq c 116) (cond (iLt n (F.Code.length:Int)) 0 1) (cond (iEq c 102) (cond (iLt n (p.Funcs.length:Int)&&(iNe x.Op 40||iEq (p.Funcs.getD n.toNat default).Args 1)) 0 1) (cond (iEq c 119) (cond (iLt n (p.Waits.length:Int)) 0 1) (cond (fitD p.Decls c n) 0 6))))))
theorem xO (a b:Int):iLe a b= !iLt b a:=by
 cases h:iLt b a with
 | true=>rw [cP] at h;exact kA h
 | false=>rw [bM] at h;exact l0 (by omega)
theorem wv (p:ah) (F:aq) (x:ar) (c n:Int) (hn:c=102→0≤n):fJ p F x c n=some (opV p F x c n):=by
 unfold fJ opV
 cases h1:iEq c 110 with
 | true=>rfl
 | false=>
 cases h2:iEq c 106 with
 | true=>rfl
 | false=>
 cases h3:iEq c 107 with
 | true=>cases iLt n F.Locals <;> rfl
 | false=>
 cases h4:iEq c 116 with
 | true=>cases iLt n (F.Code.length:Int) <;> rfl
 | false=>
 cases h5:iEq c 102 with
 | true=>
  have h0:=hn (cy.1 h5)
  simp only [cond_true,cond_false]
  cases h:iLt n (p.Funcs.length:Int) with
  | false=>rfl
  | true=>
   rw [aN ⟨h0,cP.1 h⟩,Bool.or_true,aB rfl,Bool.true_and]
   cases (iNe x.Op 40||iEq (p.Funcs.getD n.toNat default).Args 1) <;> rfl
 | false=>
 cases h6:iEq c 119 with
 | true=>cases iLt n (p.Waits.length:Int) <;> rfl
 | false=>
  simp only [cond_false]
  rw [lz,aj]
  cases fitD p.Decls c n <;> rfl
theorem wx (p:ah) (F:aq) (x:ar) (c n:Int) (hn:c=102→0≤n):gy p F x c n=some (opV p F x c n):=by
 unfold gy jH opV
 rw [mq c 110,mq c 107,mq c 116,mq c 102,mq c 119,mq c 106]
 by_cases h1:c=110
 ·subst h1;rfl
 by_cases h2:c=106
 ·subst h2;rfl
 by_cases h3:c=107
 ·subst h3
  rw [xO]
  cases iLt n F.Locals <;> rfl
 by_cases h4:c=116
 ·subst h4
  rw [xO (F.Code.length:Int)]
  cases iLt n (F.Code.length:Int) <;> rfl
 by_cases h6:c=119
 ·subst h6
  rw [xO (p.Waits.length:Int)]
  cases iLt n (p.Waits.length:Int) <;> rfl
 by_cases h5:c=102
 ·have h0:=hn h5
  subst h5
  rw [xO (p.Funcs.length:Int)]
  cases h:iLt n (p.Funcs.length:Int) with
  | false=>rfl
  | true=>
   rw [aN ⟨h0,cP.1 h⟩,Bool.or_true,aB rfl,mq x.Op 40,mq _ 1]
   cases iEq x.Op 40 <;> cases iEq (p.Funcs.getD n.toNat default).Args 1 <;> rfl
 rw [aJ h1,aJ h2,aJ h3,aJ h4,aJ h5,aJ h6]
 simp only [Bool.false_and,Bool.or_self,cond_false,Bool.not_false,Bool.true_or,Bool.and_self,aj,cond_true]
 rw [aB rfl,nq,aj,Bool.true_and]
 cases fitD p.Decls c n <;> rfl
def KO (p:ah) (F:aq) (x:ar):Prop:=∀ q:Nat,q<(dq x.Op).size→opV p F x (bf (dq x.Op) q) (([x.A,x.B]:List Int).getD q default)=0
theorem uS {x:ar} (hx:OkI x) {i:Nat} (h:i<(dq x.Op).size):bf (dq x.Op) i=102→0≤([x.A,x.B]:List Int).getD i default:=fun hb=>by
 have hf2:=fD x.Op
 have:i=0∨i=1:=by omega
 rcases this with rfl | rfl
 ·exact (mo (hx.a1 (by omega))).2.2 (by rw [hb];decide)
 ·exact (mo (hx.b1 (by omega))).2.2 (by rw [hb];decide)
theorem AY (s:ByteArray) (i:Nat) (h:i<s.size):(jG s).getD i default=bf s i:=by
 have h':i<s.data.toList.length:=by simpa using h
 unfold jG bf
 rw [List.getD_eq_getElem?_getD,List.getElem?_map,List.getElem?_eq_getElem h']
 have e:s.get! i=s.data[i]'(by simpa using h'):=by
  show s.data[i]! =_
  exact getElem!_pos s.data i (by simpa using h')
 rw [e]
 simp
theorem yH (k:Int):kD k=some (dq k):=og k
def FnV (p:ah) (k:Nat):Prop:=∀ j,j<(p.Funcs.getD k default).Code.length→KO p (p.Funcs.getD k default) ((p.Funcs.getD k default).Code.getD j default)
theorem Ed {p:ah} (h:chkP p=0):OkP p:=by
 obtain ⟨e,h1,h2⟩:=BN p
 rw [j0] at h1
 exact h2 ((Option.some.inj h1).symm.trans h)
structure FnG (p:ah) (k:Nat):Prop where
 v:FnV p k
 d:∃ D,OkR p (p.Funcs.getD k default).Code D
end LJ
end
section
namespace LJ
open Go Go.RowKit
set_option linter.unusedVariables false
set_option linter.unusedSimpArgs false
def putE (x:av):List UInt8:=UInt8.ofNat x.Kind.toNat::(numL (zig x.A)++cond (iEq x.Kind 1) (numL (zig x.B)) [])
def oq:List UInt8:=[76,83,1]
def Dl (s:aw):List UInt8:=numL s.Config.Mode.toNat++(numL s.Config.Workers.toNat++(numL s.Config.Quantum.toNat++(numL s.Config.Policy.toNat++((numL (putP s.Program).length++putP s.Program)++(numL s.Events.length++s.Events.flatMap putE)))))
def putS (s:aw):List UInt8:=oq++Dl s
structure OkE (x:av):Prop where
 k:x.Kind=1∨x.Kind=2
 a: -9223372036854775808≤x.A∧x.A<9223372036854775808
 b: -9223372036854775808≤x.B∧x.B<9223372036854775808
 z:x.Kind=2→x.B=0
structure OkC (c:aM):Prop where
 m:0≤c.Mode∧c.Mode≤2
 w:1≤c.Workers∧c.Workers≤8
 q:1≤c.Quantum∧c.Quantum≤100
 p:0≤c.Policy∧c.Policy≤3
structure OkS (s:aw):Prop where
 c:OkC s.Config
 p:chkP s.Program=0
 n:s.Events.length≤4000
 e:∀ x∈s.Events,OkE x
def intP (l:List UInt8):Int ⊕ (Int×List UInt8):=two (zag (rdN l 0).2.1,(rdN l 0).1,(rdN l 0).2.2)
def Dm (l:List UInt8):Int ⊕ (List UInt8×List UInt8):=two ((rdT l 0).2.1,(rdT l 0).1,(rdT l 0).2.2)
def evP:List UInt8→Int ⊕ (av×List UInt8)
 | []=> .inl 3
 | b::t=>cond (iEq (b.toNat:Int) 1) (sb (intP t) fun a=>sb (intP a.2) fun c=> .inr (⟨1,a.1,c.1⟩,c.2)) (cond (iEq (b.toNat:Int) 2) (sb (intP t) fun a=> .inr (⟨2,a.1,0⟩,a.2)) (.inl 6))
def BR (l:List UInt8):Int ⊕ ((aM×List UInt8)×List UInt8):=sb (numP l) fun m=>sb (numP m.2) fun w=>sb (numP w.2) fun q=>sb (numP q.2) fun y=>sb (Dm y.2) fun t=> .inr ((⟨cap m.1,cap w.1,cap q.1,cap y.1⟩,t.1),t.2)
def gP (l:List UInt8):Int ⊕ ah:=cond (iEq (getP l).2 0) (.inr (getP l).1) (.inl (getP l).2)
def scP (l:List UInt8):Int ⊕ (aw×List UInt8):=sb (BR l) fun c=>sb (gP c.1.2) fun p=>sb (j3 4000 c.2) fun n=>sb (repP evP n.1 n.2 []) fun v=> .inr (⟨c.1.1,p,v.1⟩,v.2)
def noS:aw:=⟨⟨0,0,0,0⟩,noP,[]⟩
def clS (chk:aw→Int) (r:aw×List UInt8):Int ⊕ aw:=cond (iEq (r.2.length:Int) 0) (cond (iEq (chk r.1) 0) (.inr r.1) (.inl (chk r.1))) (.inl 2)
def outS:Int ⊕ aw→aw×Int
 | .inl e=>(noS,e)
 | .inr s=>(s,0)
def getS (chk:aw→Int) (l:List UInt8):aw×Int:=cond (sEq (bs (l.take 3)) (bs oq)) (outS (sb (scP (l.drop 3)) (clS chk))) (noS,2)
theorem zagR {n:Nat} (h:n<18446744073709551616): -9223372036854775808≤zag n∧zag n<9223372036854775808:=by
 unfold zag
 split <;> omega
theorem td {l:List UInt8} {x:Int} {t:List UInt8} (h:intP l= .inr (x,t)):l=numL (zig x)++t∧ -9223372036854775808≤x∧x<9223372036854775808:=by
 obtain ⟨h1,h2⟩:=e8 h
 cases h2
 dsimp only at h1
 obtain ⟨h3,h4⟩:=eI h1
 refine ⟨?_,zagR h4⟩
 rw [vA]
 exact h3
theorem AZ {l x t:List UInt8} (h:Dm l= .inr (x,t)):l=(numL x.length++x)++t:=by
 obtain ⟨h1,h2⟩:=e8 h
 cases h2
 dsimp only at h1 ⊢
 unfold rdT at h1 ⊢
 by_cases h0:(rdN l 0).1≠0
 ·rw [if_pos h0] at h1
  exact absurd h1 h0
 ·rw [if_neg h0] at h1 ⊢
  have h3:=(eI (Decidable.not_not.1 h0)).1
  by_cases h4:(rdN l 0).2.2.length<(rdN l 0).2.1
  ·rw [if_pos h4] at h1
   exact absurd h1 (by decide)
  ·rw [if_neg h4]
   dsimp only
   rw [List.length_take,Nat.min_eq_left (by omega),List.append_assoc,List.take_append_drop]
   exact h3
theorem A0 (l:List UInt8) (x:av) (t:List UInt8) (h:evP l= .inr (x,t)):l=putE x++t∧OkE x:=by
 cases l with
 | nil=>cases h
 | cons b l=>
  rw [evP] at h
  by_cases h1:(b.toNat:Int)=1
  ·rw [aQ h1,cond_true] at h
   obtain ⟨⟨a,l1⟩,ha,h⟩:=fI h
   obtain ⟨⟨c,l2⟩,hc,h⟩:=fI h
   cases h
   obtain ⟨ha1,ha2⟩:=td ha
   obtain ⟨hc1,hc2⟩:=td hc
   refine ⟨?_,⟨.inl rfl,ha2,hc2,fun e=>by cases e⟩⟩
   unfold putE
   dsimp only at*
   rw [aQ rfl,cond_true,List.cons_append,List.append_assoc,←hc1,←ha1]
   congr 1
   rw [show (1:Int).toNat=b.toNat by omega,fX]
  ·rw [aJ h1,cond_false] at h
   by_cases h2:(b.toNat:Int)=2
   ·rw [aQ h2,cond_true] at h
    obtain ⟨⟨a,l1⟩,ha,h⟩:=fI h
    cases h
    obtain ⟨ha1,ha2⟩:=td ha
    refine ⟨?_,⟨.inr rfl,ha2,⟨by show (-9223372036854775808:Int)≤0;decide,by show (0:Int)<9223372036854775808;decide⟩,fun _=>rfl⟩⟩
    unfold putE
    dsimp only at*
    rw [aJ (by decide),cond_false,List.append_nil,List.cons_append,←ha1]
    congr 1
    rw [show (2:Int).toNat=b.toNat by omega,fX]
   ·rw [aJ h2,cond_false] at h
    cases h
theorem xP:∀ (n:Nat) (l:List UInt8) (acc r:List av) (t:List UInt8),repP evP n l acc= .inr (r,t)→∃ L,r=acc++L∧L.length=n∧l=L.flatMap putE++t∧∀ x∈L,OkE x
 | 0,l,acc,r,t,h=>by
  rw [repP] at h
  cases h
  exact ⟨[],by simp,rfl,rfl,fun x hx=>by cases hx⟩
 | n+1,l,acc,r,t,h=>by
  rw [repP] at h
  obtain ⟨⟨x,l1⟩,h1,h⟩:=fI h
  obtain ⟨L,e1,e2,e3,e4⟩:=xP n l1 _ r t h
  obtain ⟨hx,ho⟩:=A0 _ _ _ h1
  refine ⟨x::L,by rw [e1];simp,by simp [e2],by rw [List.flatMap_cons,List.append_assoc,←e3];exact hx,fun y hy=>?_⟩
  rcases List.mem_cons.1 hy with rfl | hy
  ·exact ho
  ·exact e4 y hy
theorem Ee {l:List UInt8} {p:ah} (h:gP l= .inr p):chkP p=0∧l=putP p:=by
 unfold gP at h
 by_cases h0:(getP l).2=0
 ·rw [aQ h0,cond_true] at h
  cases h
  exact BG h0
 ·rw [aJ h0,cond_false] at h
  cases h
theorem tf {n:Nat} {m:Int} (hm:m≤100) (h:cap n=m):n=m.toNat:=by
 unfold cap at h
 omega
theorem Dn {l:List UInt8} {s:aw} {t:List UInt8} (h:scP l= .inr (s,t)) (hc:OkC s.Config):OkS s∧l=Dl s++t:=by
 unfold scP at h
 obtain ⟨⟨⟨c,x⟩,l1⟩,h1,h⟩:=fI h
 obtain ⟨p,h2,h⟩:=fI h
 obtain ⟨n,h3,h⟩:=fI h
 obtain ⟨⟨v,l4⟩,h4,h⟩:=fI h
 cases h
 dsimp only at*
 obtain ⟨k1,k2⟩:=Ee h2
 obtain ⟨L,e1,e2,e3,e4⟩:=xP _ _ _ _ _ h4
 rw [List.nil_append] at e1
 subst e1
 obtain ⟨n1,n2⟩:=ir h3
 refine ⟨⟨hc,k1,by show v.length≤4000;omega,e4⟩,?_⟩
 unfold BR at h1
 obtain ⟨m,m1,h1⟩:=fI h1
 obtain ⟨w,w1,h1⟩:=fI h1
 obtain ⟨q,q1,h1⟩:=fI h1
 obtain ⟨y,y1,h1⟩:=fI h1
 obtain ⟨⟨tx,l5⟩,t1,h1⟩:=fI h1
 cases h1
 have hm:=hc.m
 have hw:=hc.w
 have hq:=hc.q
 have hp:=hc.p
 dsimp only at hm hw hq hp
 have a1:=iu m1
 have a2:=iu w1
 have a3:=iu q1
 have a4:=iu y1
 have a5:=AZ t1
 have a6:=iu n2
 unfold Dl
 dsimp only
 rw [←tf (m:=cap m.1) (by omega) rfl,←tf (m:=cap w.1) (by omega) rfl,←tf (m:=cap q.1) (by omega) rfl,←tf (m:=cap y.1) (by omega) rfl,←k2,e2]
 dsimp only at a5 a6
 rw [a1,a2,a3,a4,a5,a6,e3]
 simp only [List.append_assoc]
theorem Cv (l:List UInt8):NZ (evP l):=by
 cases l with
 | nil=>intro e h;cases h;decide
 | cons b t=>
  rw [evP]
  cases iEq (b.toNat:Int) 1 with
  | true=>exact NZ.sb (NZ.two _) fun _=>NZ.sb (NZ.two _) fun _=>NZ.inr _
  | false=>
   cases iEq (b.toNat:Int) 2 with
   | true=>exact NZ.sb (NZ.two _) fun _=>NZ.inr _
   | false=>intro e h;cases h;decide
theorem EH (l:List UInt8):NZ (gP l):=fun e h=>by
 unfold gP at h
 by_cases h0:(getP l).2=0
 ·rw [aQ h0,cond_true] at h;cases h
 ·rw [aJ h0,cond_false] at h;cases h;exact h0
theorem Eg (l:List UInt8):NZ (scP l):=NZ.sb (NZ.sb (NZ.two _) fun _=>NZ.sb (NZ.two _) fun _=>NZ.sb (NZ.two _) fun _=>NZ.sb (NZ.two _) fun _=>NZ.sb (NZ.two _) fun _=>NZ.inr _) fun _=>NZ.sb (EH _) fun _=>NZ.sb (NZ.many _ _) fun _=>NZ.sb (NZ.rep Cv _ _ _) fun _=>NZ.inr _
theorem BS {chk:aw→Int} (hk:∀ s,chk s=0→OkC s.Config) {l:List UInt8} (h:(getS chk l).2=0):chk (getS chk l).1=0∧OkS (getS chk l).1∧l=putS (getS chk l).1:=by
 unfold getS at h ⊢
 cases hc:sEq (bs (l.take 3)) (bs oq) with
 | false=>rw [hc] at h;exact absurd h (by decide:(2:Int)≠0)
 | true=>
  rw [hc,cond_true] at h
  rw [cond_true]
  have hh:l.take 3=oq:=by
   have:=congrArg bl (zR.1 hc)
   rwa [iB,iB] at this
  cases hp:scP (l.drop 3) with
  | inl e=>
   rw [hp] at h
   exact absurd h (Eg _ _ hp)
  | inr r=>
   rw [hp,bK] at h
   rw [bK]
   unfold clS at h ⊢
   cases h0:iEq (r.2.length:Int) 0 with
   | false=>rw [h0] at h;exact absurd h (by decide:(2:Int)≠0)
   | true=>
    rw [h0,cond_true] at h
    rw [cond_true]
    by_cases hz:chk r.1=0
    ·rw [aQ hz,cond_true]
     obtain ⟨h3,h4⟩:=Dn (s:=r.1) (t:=r.2) hp (hk _ hz)
     rw [cy] at h0
     rw [List.length_eq_zero_iff.1 (show r.2.length=0 by omega),List.append_nil] at h4
     refine ⟨hz,h3,?_⟩
     show l=putS r.1
     unfold putS
     rw [←h4,←hh,List.take_append_drop]
    ·rw [aJ hz] at h
     exact absurd h hz
end LJ
end
section
namespace LJ
open Go Go.RowKit
set_option linter.unusedVariables false
set_option linter.unusedSimpArgs false
theorem xQ {l l':List Int} (h:l.length=l'.length) (hh:∀ i,i<l.length→l.getD i default=l'.getD i default):l=l':=by
 apply List.ext_getElem h
 intro i h1 h2
 have:=hh i h1
 rw [List.getD_eq_getElem?_getD,List.getD_eq_getElem?_getD,List.getElem?_eq_getElem h1,List.getElem?_eq_getElem h2] at this
 exact this
def ldP (n:Nat) (D:List Int) (t d:Int):Int×List Int:=cond (iLe (n:Int) t) (3,D) (cond (iLt (D.getD t.toNat default) 0) (0,D.set t.toNat d) (cond (iNe (D.getD t.toNat default) d) (2,D) (0,D)))
def lksP (n:Nat) (d:Int):List Int→List Int→Int×List Int
 | D,[]=>(0,D)
 | D,t::ts=>cond (iNe (ldP n D t d).1 0) (ldP n D t d) (lksP n d (ldP n D t d).2 ts)
theorem tg (n:Nat) (D:List Int) (t d:Int):(ldP n D t d).2.length=D.length:=by
 unfold ldP
 cases iLe (n:Int) t with
 | true=>rfl
 | false=>
  cases iLt (D.getD t.toNat default) 0 with
  | true=>exact List.length_set
  | false=>cases iNe (D.getD t.toNat default) d <;> rfl
theorem A2 {n:Nat} {D:List Int} {t d:Int} (hD:D.length=n) (ht:0≤t) (j:Nat):(ldP n D t d).2.getD j default=D.getD j default∨D.getD j default<0∧(ldP n D t d).2.getD j default=d:=by
 unfold ldP
 by_cases h1:(n:Int)≤t
 ·rw [l0 h1];exact .inl rfl
 ·rw [kA (by omega),cond_false]
  by_cases h2:D.getD t.toNat default<0
  ·rw [aR h2,cond_true]
   dsimp only
   rw [iv D t.toNat d (by omega)]
   by_cases c:j=t.toNat
   ·rw [if_pos c,c];exact .inr ⟨h2,rfl⟩
   ·rw [if_neg c];exact .inl rfl
  ·rw [aU (by omega),cond_false]
   cases iNe (D.getD t.toNat default) d <;> exact .inl rfl
theorem xR (n:Nat) (d:Int):∀ (ws D:List Int),(lksP n d D ws).2.length=D.length
 | [],D=>rfl
 | t::ts,D=>by
  rw [lksP]
  cases iNe (ldP n D t d).1 0 with
  | true=>exact tg n D t d
  | false=>exact (xR n d ts _).trans (tg n D t d)
theorem xS {n:Nat} {d:Int} (hd:0≤d):∀ (ws D:List Int),D.length=n→(∀ t∈ws,0≤t)→∀ j,(lksP n d D ws).2.getD j default=D.getD j default∨D.getD j default<0∧(lksP n d D ws).2.getD j default=d
 | [],D,hD,hw,j=> .inl rfl
 | t::ts,D,hD,hw,j=>by
  have h1:=A2 (d:=d) hD (hw t (List.mem_cons_self ..)) j
  rw [lksP]
  cases iNe (ldP n D t d).1 0 with
  | true=>exact h1
  | false=>
   rw [cond_false]
   have h2:=xS hd ts (ldP n D t d).2 ((tg n D t d).trans hD) (fun u hu=>hw u (List.mem_cons_of_mem _ hu)) j
   rcases h1 with h1 | ⟨h1,h3⟩
   ·rw [h1] at h2;exact h2
   ·rcases h2 with h2 | ⟨h2,h4⟩
    ·exact .inr ⟨h1,h2.trans h3⟩
    ·omega
theorem BT {D:List Int} {t:Nat} {d:Int} (ht:t<D.length) (h:D.getD t default=d):D.set t d=D:=by
 refine xQ List.length_set fun i hi=>?_
 rw [iv D t d ht]
 by_cases c:i=t
 ·rw [if_pos c,c,h]
 ·rw [if_neg c]
theorem wy (code:List ar) (hc:code.length≤200) (d:Int) (ws:List Int) (hw:∀ t∈ws,0≤t) (hl:ws.length≤2):∀ (n i f:Nat) (D:List Int),i+n=ws.length→n<f→D.length=code.length→cK code d ws f ((i:Int),D)=some (lksP code.length d D (ws.drop i))
 | n,i,0,D,hi,hf,hD=>by omega
 | 0,i,f+1,D,hi,hf,hD=>by
  rw [cK]
  dsimp only
  rw [aU (by omega),cond_false,List.drop_of_length_le (by omega)]
  rfl
 | n+1,i,f+1,D,hi,hf,hD=>by
  have hlt:i<ws.length:=by omega
  have hdr:ws.drop i=ws.getD i default::ws.drop (i+1):=by
   rw [List.drop_eq_getElem_cons hlt,List.getD_eq_getElem?_getD,List.getElem?_eq_getElem hlt];rfl
  have ht:0≤ws.getD i default:=hw _ (by
   rw [List.getD_eq_getElem?_getD,List.getElem?_eq_getElem hlt]
   exact List.getElem_mem _)
  have hN:nIn (i:Int) (ws.length:Int)=true:=aN ⟨by omega,by omega⟩
  rw [cK,hdr,lksP]
  dsimp only
  rw [aR (by omega),cond_true,hN,aB rfl,Int.toNat_natCast]
  by_cases h3:(code.length:Int)≤ws.getD i default
  ·have e:ldP code.length D (ws.getD i default) d=(3,D):=by unfold ldP;rw [l0 h3];rfl
   rw [l0 h3,cond_true,e]
   rfl
  ·have hT:nIn (ws.getD i default) (D.length:Int)=true:=aN ⟨ht,by omega⟩
   rw [kA (by omega),cond_false,aB rfl,hT,aB rfl]
   by_cases h4:0≤D.getD (ws.getD i default).toNat default
   ·rw [l0 h4,cond_true,aB rfl,aB rfl]
    by_cases h5:D.getD (ws.getD i default).toNat default=d
    ·have e:ldP code.length D (ws.getD i default) d=(0,D):=by
      unfold ldP
      rw [kA (by omega),cond_false,aU h4,cond_false,bd h5];rfl
     rw [bd h5,cond_false,aB rfl,aB rfl,e,bd rfl,cond_false,BT (by omega) h5,w64 (by omega),show (i:Int)+1=((i+1:Nat):Int) by omega]
     exact wy code hc d ws hw hl n (i+1) f D (by omega) (by omega) hD
    ·have e:ldP code.length D (ws.getD i default) d=(2,D):=by
      unfold ldP
      rw [kA (by omega),cond_false,aU h4,cond_false,bn h5];rfl
     rw [bn h5,cond_true,e]
     rfl
   ·have e:ldP code.length D (ws.getD i default) d=(0,D.set (ws.getD i default).toNat d):=by
     unfold ldP
     rw [kA (by omega),cond_false,aR (by omega)];rfl
    rw [kA (by omega),cond_false,aB rfl,aB rfl,e,bd rfl,cond_false,w64 (by omega),show (i:Int)+1=((i+1:Nat):Int) by omega]
    exact wy code hc d ws hw hl n (i+1) f _ (by omega) (by omega) (by rw [List.length_set];exact hD)
def iJ (p:ah) (code:List ar) (D:List Int) (i:Nat):Int×List Int:=cond (iLt (D.getD i default - kg (code.getD i default) (ki p (code.getD i default))) 0) (2,D) (cond (iLt 16 (behR p (code.getD i default) (D.getD i default))) (4,D) (lksP code.length (behR p (code.getD i default) (D.getD i default)) D (nD (code.getD i default) (i:Int))))
theorem A3 (p:ah) (code:List ar) (D:List Int) (i:Nat):(iJ p code D i).2.length=D.length:=by
 unfold iJ
 cases iLt (D.getD i default - kg (code.getD i default) (ki p (code.getD i default))) 0 with
 | true=>rfl
 | false=>
  cases iLt 16 (behR p (code.getD i default) (D.getD i default)) with
  | true=>rfl
  | false=>exact xR _ _ _ _
theorem A4 {p:ah} (hp:OkP p) {code:List ar} {D:List Int} (hD:D.length=code.length) {i:Nat} (hx:OkI (code.getD i default)) (j:Nat):(iJ p code D i).2.getD j default=D.getD j default∨D.getD j default<0∧0≤(iJ p code D i).2.getD j default∧(iJ p code D i).2.getD j default≤16:=by
 have hu:=kh hx.op
 unfold iJ
 by_cases h1:D.getD i default - kg (code.getD i default) (ki p (code.getD i default))<0
 ·rw [aR h1];exact .inl rfl
 ·rw [aU (b:=(0:Int)) (by omega),cond_false]
  by_cases h2:16<behR p (code.getD i default) (D.getD i default)
  ·rw [aR h2];exact .inl rfl
  ·have hb:0≤behR p (code.getD i default) (D.getD i default):=by unfold behR;omega
   rw [aU (by omega),cond_false]
   rcases xS hb (nD (code.getD i default) (i:Int)) D hD (wt hx (by omega)) j with h | ⟨h,h3⟩
   ·exact .inl h
   ·exact .inr ⟨h,by omega,by omega⟩
theorem Eh {p:ah} (hp:OkP p) {code:List ar} (hc:code.length≤200) {D:List Int} (hD:D.length=code.length) {i:Nat} (hi:i<code.length) (hx:OkI (code.getD i default)) (h0:0≤D.getD i default∧D.getD i default≤16):iE p code D (i:Int)=some (iJ p code D i):=by
 have ha:=nC hp hx
 have hv:=nB hx ha
 have hu:=kh hx.op
 unfold iE iJ
 rw [aB (aN ⟨by omega,by omega⟩),aB (aN ⟨by omega,by omega⟩),Int.toNat_natCast,si hp hx h0,aj]
 by_cases h1:D.getD i default - kg (code.getD i default) (ki p (code.getD i default))<0
 ·rw [aR h1,cond_true,aR (by decide),cond_true,cond_true]
 ·have hb:0≤behR p (code.getD i default) (D.getD i default):=by unfold behR;omega
  rw [aU (a:=D.getD i default - kg (code.getD i default) (ki p (code.getD i default))) (by omega),cond_false,aU hb,cond_false,cond_false]
  by_cases h2:16<behR p (code.getD i default) (D.getD i default)
  ·rw [aR h2,cond_true,cond_true]
  ·rw [aU (by omega),cond_false,cond_false,aB (aN ⟨by omega,by omega⟩),xM _ (by omega),aj]
   have:=wy code hc (behR p (code.getD i default) (D.getD i default)) (nD (code.getD i default) (i:Int)) (wt hx (by omega)) (nF _ _) (nD (code.getD i default) (i:Int)).length 0 fuel D (by omega) (by have:=nF (code.getD i default) (i:Int);have:=aL;omega) hD
   rw [List.drop_zero] at this
   exact this
structure Lk (w w':W) (e:Int) (D':List Int) (a:Int):Prop where
 p:w'.p=w.p
 code:w'.code=w.code
 depth:w'.depth=D'
 nl:w'.next.length=w.next.length
 nx:∀ j,w'.next.getD j default=(w.next.getD j default||(decide (w.depth.getD j default<0)&&decide (0≤D'.getD j default)))
 ae:(w'.at_,w'.err)=cond (iNe e 0&&(iEq w.err 0||iLt a w.at_)) (a,e) (w.at_,w.err)
theorem qJ (b:Bool) (d:Int):b=(b||(decide (d<0)&&decide (0≤d))):=by
 by_cases h:d<0
 ·rw [decide_eq_false (show ¬ 0≤d by omega),Bool.and_false,Bool.or_false]
 ·rw [decide_eq_false h,Bool.false_and,Bool.or_false]
theorem pS (w:W) (a e:Int) (he:e≠0):∃ w',bc w a e=some w'∧Lk w w' e w.depth a:=by
 unfold bc
 cases hc:(iEq w.err 0||iLt a w.at_) with
 | true=>exact ⟨_,rfl,rfl,rfl,rfl,rfl,fun j=>qJ _ _,by rw [hc,bn he];rfl⟩
 | false=>exact ⟨_,rfl,rfl,rfl,rfl,rfl,fun j=>qJ _ _,by rw [hc,bn he];rfl⟩
theorem pT (w:W) (hw:Lens w) (a t d:Int) (ht:0≤t) (hd:0≤d):∃ w',aV w a t d=some (iEq (ldP w.code.length w.depth t d).1 0,w')∧Lk w w' (ldP w.code.length w.depth t d).1 (ldP w.code.length w.depth t d).2 a:=by
 have hwd:=hw.d
 have hwn:=hw.n
 unfold aV ldP
 by_cases h1:(w.code.length:Int)≤t
 ·obtain ⟨w',e1,e2⟩:=pS w a 3 (by decide)
  rw [l0 h1,cond_true,cond_true,e1,aj]
  exact ⟨w',rfl,e2⟩
 ·have hdn:nIn t (w.depth.length:Int)=true:=aN ⟨ht,by omega⟩
  have hnn:nIn t (w.next.length:Int)=true:=aN ⟨ht,by omega⟩
  rw [kA (by omega),cond_false,cond_false,aB hdn,aB hdn,aB hnn,aB hdn]
  by_cases h2:w.depth.getD t.toNat default<0
  ·rw [aR h2,cond_true,cond_true]
   refine ⟨_,rfl,rfl,rfl,rfl,List.length_set,fun j=>?_,by rw [bd rfl];rfl⟩
   dsimp only
   rw [iv w.depth t.toNat d (by omega),uQ w.next t.toNat true (by omega)]
   by_cases c:j=t.toNat
   ·rw [if_pos c,if_pos c,c,decide_eq_true h2,decide_eq_true hd,Bool.and_self,Bool.or_true]
   ·rw [if_neg c,if_neg c];exact qJ _ _
  ·rw [aU (by omega),cond_false,cond_false]
   by_cases h3:w.depth.getD t.toNat default=d
   ·rw [bd h3,cond_false,cond_false]
    exact ⟨w,rfl,rfl,rfl,rfl,rfl,fun j=>qJ _ _,by rw [bd rfl];rfl⟩
   ·obtain ⟨w',e1,e2⟩:=pS w a 2 (by decide)
    rw [bn h3,cond_true,cond_true,e1,aj]
    exact ⟨w',rfl,e2⟩
theorem Lk.trans {w w1 w2:W} {D1 D2:List Int} {e a:Int} (h:Lk w w1 0 D1 a) (k:Lk w1 w2 e D2 a) (m1:∀ j,0≤w.depth.getD j default→0≤D1.getD j default) (m2:∀ j,0≤D1.getD j default→0≤D2.getD j default):Lk w w2 e D2 a:=by
 have hae:=h.ae
 rw [bd rfl,Bool.false_and,cond_false] at hae
 obtain ⟨ha,he⟩:=Prod.mk.inj hae
 refine ⟨k.p.trans h.p,k.code.trans h.code,k.depth,k.nl.trans h.nl,fun j=>?_,?_⟩
 ·rw [k.nx,h.nx,h.depth,Bool.or_assoc]
  congr 1
  by_cases c:w.depth.getD j default<0
  ·rw [decide_eq_true c,Bool.true_and,Bool.true_and]
   by_cases c1:0≤D1.getD j default
   ·rw [decide_eq_true c1,decide_eq_true (m2 j c1),Bool.true_or]
   ·rw [decide_eq_false c1,decide_eq_true (show D1.getD j default<0 by omega),Bool.false_or,Bool.true_and]
  ·have c1:=m1 j (by omega)
   rw [decide_eq_false c,Bool.false_and,Bool.false_and,decide_eq_false (show ¬D1.getD j default<0 by omega)]
   rfl
 ·rw [k.ae,ha,he]
theorem xT {n:Nat} {D:List Int} {t d:Int} (hD:D.length=n) (ht:0≤t) (j:Nat) (h:0≤D.getD j default):0≤(ldP n D t d).2.getD j default:=by
 rcases A2 (d:=d) hD ht j with h1 | ⟨h1,_⟩
 ·rw [h1];exact h
 ·omega
theorem Lk.lens {w w':W} {e a:Int} {D':List Int} (h:Lk w w' e D' a) (hw:Lens w) (hl:D'.length=w.depth.length):Lens w':=⟨by rw [h.depth,hl,hw.d,h.code],by rw [h.nl,hw.n,h.code]⟩
theorem uT {p:ah} {code:List ar} {w:W} (hp:w.p=p) (hc:w.code=code) (hw:Lens w) {i:Nat} (hi:i<code.length) (hlen:code.length≤200) (hx:OkI (code.getD i default)) (hP:OkP p) (h0:0≤w.depth.getD i default∧w.depth.getD i default≤16) {v u:Int} (hv:v=kg (code.getD i default) (ki p (code.getD i default))) (hu:cY (code.getD i default).Op=some u) (hu2:u=yF (code.getD i default).Op):
  ∃ w',(cond (iLt (IntKind.i64.wrap ((w.depth.getD i default) - v)) 0) ((bc w (i:Int) 2).bind fun (x5:aH)=>some x5) ((cY ((code.getD i default).Op)).bind fun (x6:Int)=>cond (iLt 16 (IntKind.i64.wrap ((IntKind.i64.wrap ((w.depth.getD i default) - v))+x6))) ((bc w (i:Int) 4).bind fun (x8:aH)=>some x8) ((ll ((code.getD i default).Op)).bind fun (x9:Bool)=>cond x9 ((aV w (i:Int) (IntKind.i64.wrap ((i:Int)+1)) (IntKind.i64.wrap ((IntKind.i64.wrap ((w.depth.getD i default) - v))+x6))).bind fun (x11:Bool×aH)=>cond (!x11.1) (some x11.2) (cond ((iEq ((code.getD i default).Op) 18)||(iEq ((code.getD i default).Op) 19)) ((aV x11.2 (i:Int) ((code.getD i default).A) (IntKind.i64.wrap ((IntKind.i64.wrap ((w.depth.getD i default) - v))+x6))).bind fun (x14:Bool×aH)=>some x14.2) (some x11.2))) (cond ((iEq ((code.getD i default).Op) 18)||(iEq ((code.getD i default).Op) 19)) ((aV w (i:Int) ((code.getD i default).A) (IntKind.i64.wrap ((IntKind.i64.wrap ((w.depth.getD i default) - v))+x6))).bind fun (x14:Bool×aH)=>some x14.2) (some w)))))=some w'∧Lk w w' (iJ p code w.depth i).1 (iJ p code w.depth i).2 (i:Int):=by
 have hvr:=nB hx (nC hP hx)
 have hur:=kh hx.op
 have hwd:=hw.d
 unfold iJ behR
 rw [←hv,←hu2]
 rw [←hv] at hvr
 rw [←hu2] at hur
 rw [w64 (a:=w.depth.getD i default - v) (by omega)]
 by_cases h1:w.depth.getD i default - v<0
 ·obtain ⟨w',e1,e2⟩:=pS w (i:Int) 2 (by decide)
  rw [aR h1,cond_true,cond_true,e1]
  exact ⟨w',rfl,e2⟩
 ·rw [aU (b:=(0:Int)) (by omega),cond_false,cond_false,hu,aj,w64 (by omega)]
  by_cases h2:16<w.depth.getD i default - v+u
  ·obtain ⟨w',e1,e2⟩:=pS w (i:Int) 4 (by decide)
   rw [aR h2,cond_true,cond_true,e1]
   exact ⟨w',rfl,e2⟩
  ·have hb:0≤w.depth.getD i default - v+u:=by omega
   rw [aU (by omega),cond_false,cond_false,AU hx.op,aj,w64 (by omega)]
   generalize w.depth.getD i default - v+u=d at hb
   unfold nD
   cases hg:(iNe (code.getD i default).Op 18&&iNe (code.getD i default).Op 21) with
   | true=>
    obtain ⟨w1,e1,k1⟩:=pT w hw (i:Int) ((i:Int)+1) d (by omega) hb
    rw [hc] at e1 k1
    rw [cond_true,cond_true,e1,aj,List.singleton_append,lksP]
    dsimp only
    by_cases z:(ldP code.length w.depth ((i:Int)+1) d).1=0
    ·rw [aQ z,bd z,Bool.not_true,cond_false,cond_false]
     rw [z] at k1
     cases hj:(iEq (code.getD i default).Op 18||iEq (code.getD i default).Op 19) with
     | false=>
      rw [cond_false,cond_false,lksP]
      exact ⟨w1,rfl,k1⟩
     | true=>
      have hA:=sh hx (by rw [Bool.or_eq_true,cy,cy] at hj;omega)
      have hl1:(ldP code.length w.depth ((i:Int)+1) d).2.length=w.depth.length:=tg _ _ _ _
      obtain ⟨w2,e2,k2⟩:=pT w1 (k1.lens hw hl1) (i:Int) (code.getD i default).A d hA hb
      rw [k1.code,hc,k1.depth] at e2 k2
      have kk:=k1.trans k2 (fun j hj=>xT (by rw [hwd,hc]) (by omega) j hj) (fun j hj=>xT (by rw [hl1,hwd,hc]) hA j hj)
      rw [cond_true,cond_true,e2,aj,lksP,lksP]
      refine ⟨w2,rfl,?_⟩
      by_cases z2:(ldP code.length (ldP code.length w.depth ((i:Int)+1) d).2 (code.getD i default).A d).1=0
      ·rw [bd z2,cond_false]
       rw [z2] at kk
       exact kk
      ·rw [bn z2,cond_true];exact kk
    ·rw [aJ z,bn z,Bool.not_false,cond_true,cond_true]
     exact ⟨w1,rfl,k1⟩
   | false=>
    rw [cond_false,cond_false,List.nil_append]
    cases hj:(iEq (code.getD i default).Op 18||iEq (code.getD i default).Op 19) with
    | false=>
     rw [cond_false,cond_false,lksP]
     exact ⟨w,rfl,rfl,rfl,rfl,rfl,fun j=>qJ _ _,by rw [bd rfl];rfl⟩
    | true=>
     have hA:=sh hx (by rw [Bool.or_eq_true,cy,cy] at hj;omega)
     obtain ⟨w2,e2,k2⟩:=pT w hw (i:Int) (code.getD i default).A d hA hb
     rw [hc] at e2 k2
     rw [cond_true,cond_true,e2,aj,lksP,lksP]
     refine ⟨w2,rfl,?_⟩
     by_cases z2:(ldP code.length w.depth (code.getD i default).A d).1=0
     ·rw [bd z2,cond_false]
      rw [z2] at k2
      exact k2
     ·rw [bn z2,cond_true];exact k2
theorem Dp {p:ah} {code:List ar} {w:W} (hp:w.p=p) (hc:w.code=code) (hw:Lens w) {i:Nat} (hi:i<code.length) (hlen:code.length≤200) (hx:OkI (code.getD i default)) (hP:OkP p) (h0:0≤w.depth.getD i default∧w.depth.getD i default≤16):∃ w',cC w (i:Int)=some w'∧Lk w w' (iJ p code w.depth i).1 (iJ p code w.depth i).2 (i:Int):=by
 have hu:cY (code.getD i default).Op=some (yF (code.getD i default).Op):=by rw [AO];exact xL hx.op
 have hb:=okB hx
 have hv:∀ a,gb (code.getD i default) a=some (kg (code.getD i default) a):=fun a=>by rw [De a (by omega)];exact xK hx a
 have key:=uT hp hc hw hi hlen hx hP h0 rfl hu rfl
 unfold cC
 have hdn:nIn (i:Int) (w.depth.length:Int)=true:=aN ⟨by omega,by rw [hw.d,hc];omega⟩
 rw [hc,hp,aB (aN ⟨by omega,by omega⟩),Int.toNat_natCast]
 have ha:ki p (code.getD i default)=cond (iEq (code.getD i default).Op 20&&iLt (code.getD i default).A (p.Funcs.length:Int)) (p.Funcs.getD (code.getD i default).A.toNat default).Args 0:=rfl
 cases h:(iEq (code.getD i default).Op 20&&iLt (code.getD i default).A (p.Funcs.length:Int)) with
 | true=>
  rw [h,cond_true] at ha
  rw [ha] at key
  rw [Bool.and_eq_true,cy,cP] at h
  have h0:=sh hx (.inr (.inr h.1))
  rw [cond_true,aB (aN ⟨h0,h.2⟩),aB hdn,hv,aj]
  exact key
 | false=>
  rw [h,cond_false] at ha
  rw [ha] at key
  rw [cond_false,aB hdn,hv,aj]
  exact key
structure Rl (n:Nat) (w:W) (s:Int×Int×List Int×List Bool):Prop where
 dep:w.depth=s.2.2.1
 dl:s.2.2.1.length=n
 nl:s.2.2.2.length=n
 wl:w.next.length=n
 nx:∀ j,j<n→w.next.getD j default=(decide (0≤s.2.2.1.getD j default)&& !(s.2.2.2.getD j default))
 dn:∀ j,j<n→s.2.2.2.getD j default=true→0≤s.2.2.1.getD j default
 rng:∀ j,s.2.2.1.getD j default≤16
 err:w.err=s.2.1
 fa:s.2.1≠0→w.at_=s.1
 fb:s.2.1=0→s.1=n
theorem Cw (L:List Bool) (hL:L.length≤1000) (m:Nat) (h:∀ j,j<m→L.getD j default=false) (hm:m<L.length→L.getD m default=true) (hml:m≤L.length):∀ (n i f:Nat),i+n=L.length→n<f→i≤m→aW L true f (i:Int)=some (cond (decide (m<L.length)) (m:Int) (-1))
 | n,i,0,hi,hf,him=>by omega
 | 0,i,f+1,hi,hf,him=>by
  rw [aW,aU (by omega),cond_false,decide_eq_false (by omega)];rfl
 | n+1,i,f+1,hi,hf,him=>by
  rw [aW,aR (by omega),cond_true,aB (aN ⟨by omega,by omega⟩),Int.toNat_natCast,w64 (by omega),show (i:Int)+1=((i+1:Nat):Int) by omega]
  rcases Nat.eq_or_lt_of_le him with rfl | hlt
  ·rw [hm (by omega),decide_eq_true (show i<L.length by omega)];rfl
  ·rw [h i hlt]
   exact Cw L hL m h hm hml n (i+1) f (by omega) (by omega) (by omega)
theorem BU (w:W) (hL:w.next.length≤1000) (m:Nat) (h:∀ j,j<m→w.next.getD j default=false) (hm:m<w.next.length→w.next.getD m default=true) (hml:m≤w.next.length):bS w=some (cond (decide (m<w.next.length)) (m:Int) (-1)):=by
 unfold bS cq
 have:=Cw w.next hL m h hm hml w.next.length 0 fuel (by omega) (by have:=aL;omega) (Nat.zero_le _)
 rw [show (0:Int)=((0:Nat):Int) from rfl,this,aj]
theorem Cx {p:ah} {k:Int} {code:List ar} (hc:(p.Funcs.getD k.toNat default).Code=code) (hlen:code.length≤200) {s:Int×Int×List Int×List Bool} (hd:s.2.2.1.length=code.length) (hn:s.2.2.2.length=code.length) {K:Int→Option (List Int×Int×Int)} {P:Option (List Int×Int×Int)→Prop} (hK:∀ i:Nat,i≤code.length→(∀ j,j<i→s.2.2.2.getD j default=true∨s.2.2.1.getD j default<0)→(i<code.length→s.2.2.2.getD i default=false∧0≤s.2.2.1.getD i default)→P (K (i:Int))):∀ (n i f:Nat),i+n=code.length→n<f→(∀ j,j<i→s.2.2.2.getD j default=true∨s.2.2.1.getD j default<0)→P (cx p k s K f (i:Int))
 | n,i,0,hi,hf,hj=>by omega
 | 0,i,f+1,hi,hf,hj=>by
  rw [cx,hc,aU (by omega),cond_false]
  exact hK i (by omega) hj (fun h=>by omega)
 | n+1,i,f+1,hi,hf,hj=>by
  have next:(s.2.2.2.getD i default=true∨s.2.2.1.getD i default<0)→P (cx p k s K f (IntKind.i64.wrap ((i:Int)+1))):=fun h=>by
   rw [w64 (by omega),show (i:Int)+1=((i+1:Nat):Int) by omega]
   refine Cx hc hlen hd hn hK n (i+1) f (by omega) (by omega) fun j hj'=>?_
   rcases Nat.lt_or_ge j i with h1 | h1
   ·exact hj j h1
   ·rw [show j=i by omega];exact h
  rw [cx,hc,aR (by omega),cond_true,aB (aN ⟨by omega,by omega⟩),Int.toNat_natCast]
  cases hb:s.2.2.2.getD i default with
  | true=>exact next (.inl hb)
  | false=>
   rw [cond_false,aB (aN ⟨by omega,by omega⟩)]
   by_cases h0:s.2.2.1.getD i default<0
   ·rw [aR h0,cond_true];exact next (.inr h0)
   ·rw [aU (by omega),cond_false]
    exact hK i (by omega) hj (fun _=>⟨hb,by omega⟩)
theorem Rl.step {p:ah} (hP:OkP p) {code:List ar} {w w':W} {s:Int×Int×List Int×List Bool} (h:Rl code.length w s) {i:Nat} (hi:i<code.length) (hx:OkI (code.getD i default)) (hb:s.2.2.2.getD i default=false) (h0:0≤s.2.2.1.getD i default) (k:Lk (⟨w.p,w.code,w.depth,w.next.set i false,w.at_,w.err⟩:W) w' (iJ p code s.2.2.1 i).1 (iJ p code s.2.2.1 i).2 (i:Int)):
  Rl code.length w' (cond (iNe (iJ p code s.2.2.1 i).1 0&&iLt (i:Int) s.1) ((i:Int),(iJ p code s.2.2.1 i).1,(iJ p code s.2.2.1 i).2,s.2.2.2.set i true) (s.1,s.2.1,(iJ p code s.2.2.1 i).2,s.2.2.2.set i true)):=by
 have hnl:=h.nl
 have hwl:=h.wl
 have hg:=A4 hP h.dl hx
 have hset:=iv s.2.2.2 i true (by omega)
 have hset2:=iv w.next i false (by omega)
 have hmono:∀ j,0≤s.2.2.1.getD j default→(iJ p code s.2.2.1 i).2.getD j default=s.2.2.1.getD j default:=fun j hj=>by
  rcases hg j with h1 | ⟨h1,_⟩
  ·exact h1
  ·omega
 have hnx:∀ j,j<code.length→w'.next.getD j default=(decide (0≤(iJ p code s.2.2.1 i).2.getD j default)&& !((s.2.2.2.set i true).getD j default)):=fun j hj=>by
  have:=k.nx j
  dsimp only at this
  rw [hset2] at this
  rw [this,hset,h.dep]
  by_cases c:j=i
  ·rw [if_pos c,if_pos c,c,decide_eq_false (show ¬s.2.2.1.getD i default<0 by omega)]
   simp
  ·rw [if_neg c,if_neg c,h.nx j hj]
   by_cases z:s.2.2.1.getD j default<0
   ·have hdf:s.2.2.2.getD j default=false:=by
     cases hq:s.2.2.2.getD j default with
     | false=>rfl
     | true=>have:=h.dn j hj hq;omega
    rw [decide_eq_true z,decide_eq_false (show ¬ 0≤s.2.2.1.getD j default by omega),hdf]
    simp
   ·rw [hmono j (by omega),decide_eq_false z,Bool.false_and,Bool.or_false]
 have hdn:∀ j,j<code.length→(s.2.2.2.set i true).getD j default=true→0≤(iJ p code s.2.2.1 i).2.getD j default:=fun j hj hd=>by
  rw [hset] at hd
  by_cases c:j=i
  ·rw [c,hmono i h0];exact h0
  ·rw [if_neg c] at hd
   have:=h.dn j hj hd
   rw [hmono j this];exact this
 have hrng:∀ j,(iJ p code s.2.2.1 i).2.getD j default≤16:=fun j=>by
  have:=h.rng j
  rcases hg j with h1 | ⟨_,_,h1⟩
  ·rw [h1];exact this
  ·exact h1
 have hl1:(iJ p code s.2.2.1 i).2.length=code.length:=(A3 ..).trans h.dl
 have hl2:(s.2.2.2.set i true).length=code.length:=by rw [List.length_set];exact h.nl
 have hwl':w'.next.length=code.length:=by rw [k.nl];exact (List.length_set).trans h.wl
 have hae:=k.ae
 dsimp only at hae
 have he:=h.err
 by_cases e0:(iJ p code s.2.2.1 i).1=0
 ·rw [bd e0,Bool.false_and,cond_false] at hae
  rw [bd e0,Bool.false_and,cond_false]
  obtain ⟨ha,hb'⟩:=Prod.mk.inj hae
  exact ⟨k.depth,hl1,hl2,hwl',hnx,hdn,hrng,by rw [hb',he],fun hq=>by rw [ha];exact h.fa hq,h.fb⟩
 ·rw [bn e0,Bool.true_and] at hae
  rw [bn e0,Bool.true_and]
  by_cases b0:s.2.1=0
  ·have hf:=h.fb b0
   rw [aQ (by rw [he,b0]),Bool.true_or,cond_true] at hae
   rw [aR (by rw [hf];omega),cond_true]
   obtain ⟨ha,hb'⟩:=Prod.mk.inj hae
   exact ⟨k.depth,hl1,hl2,hwl',hnx,hdn,hrng,hb',fun _=>ha,fun hq=>absurd hq e0⟩
  ·rw [aJ (by rw [he];exact b0),Bool.false_or,h.fa b0] at hae
   by_cases hlt:(i:Int)<s.1
   ·rw [aR hlt,cond_true] at hae
    rw [aR hlt,cond_true]
    obtain ⟨ha,hb'⟩:=Prod.mk.inj hae
    exact ⟨k.depth,hl1,hl2,hwl',hnx,hdn,hrng,hb',fun _=>ha,fun hq=>absurd hq e0⟩
   ·rw [aU (by omega),cond_false] at hae
    rw [aU (by omega),cond_false]
    obtain ⟨ha,hb'⟩:=Prod.mk.inj hae
    exact ⟨k.depth,hl1,hl2,hwl',hnx,hdn,hrng,by rw [hb',he],fun _=>ha,fun hq=>absurd hq b0⟩
theorem th {p:ah} (hP:OkP p) {k:Int} {code:List ar} (hc:(p.Funcs.getD k.toNat default).Code=code) (hlen:code.length≤200) (hI:∀ j,j<code.length→OkI (code.getD j default)) {K:Int×Int×List Int→Option (List Int×Int×Int)} (hK:∀ a b D,K (a,b,D)=cond (iNe b 0) (some ([],a,b)) (some (D,0,0))):∀ (m f g:Nat) (w:W) (s:Int×Int×List Int×List Bool) (x:Int),left s.2.2.2 code.length≤m→m<f→m<g→w.p=p→w.code=code→Rl code.length w s→bS w=some x→eh f (x,w.p.Decls,w.p.Waits,w.p.Funcs,w.code,w.at_,w.err,w.depth,w.next)=du p k K g s
 | m,0,g,w,s,x,hm,hf,hg,hwp,hwc,h,hx=>by omega
 | m,f+1,0,w,s,x,hm,hf,hg,hwp,hwc,h,hx=>by omega
 | m,f+1,g+1,w,s,x,hm,hf,hg,hwp,hwc,h,hx=>by
  rw [du,dR]
  refine Cx (P:=fun z=>eh (f+1) (x,w.p.Decls,w.p.Waits,w.p.Funcs,w.code,w.at_,w.err,w.depth,w.next)=z) hc hlen h.dl h.nl (fun i hi h1 h2=>?_) code.length 0 fuel (by omega) (by have:=aL;omega) fun j hj=>by omega
  rw [hc]
  have hwl:=h.wl
  have hnl:=h.nl
  have hle:=BU w (by omega) i (fun j hj=>by
   rw [h.nx j (by omega)]
   rcases h1 j hj with q | q
   ·rw [q];simp
   ·rw [decide_eq_false (show ¬ 0≤s.2.2.1.getD j default by omega)];rfl) (fun hlt=>by
   obtain ⟨q1,q2⟩:=h2 (by omega)
   rw [h.nx i (by omega),q1,decide_eq_true q2];rfl) (by omega)
  rw [hx,hwl] at hle
  have hxe:=Option.some.inj hle
  rw [eh]
  dsimp only
  by_cases hl:i=code.length
  ·rw [decide_eq_false (by omega),cond_false] at hxe
   rw [hxe,kA (by decide),cond_false,aQ (by omega),cond_true,hK,h.err,h.dep]
   by_cases b0:s.2.1=0
   ·rw [bd b0,cond_false,cond_false]
   ·rw [bn b0,cond_true,cond_true,h.fa b0]
  ·obtain ⟨hb,h0⟩:=h2 (by omega)
   have hlt:i<code.length:=by omega
   rw [decide_eq_true hlt,cond_true] at hxe
   subst hxe
   have hr:=h.rng i
   obtain ⟨w',g1,g2⟩:=Dp (p:=p) (code:=code) (w:=⟨w.p,w.code,w.depth,w.next.set i false,w.at_,w.err⟩) hwp hwc ⟨by show w.depth.length=w.code.length;rw [h.dep,hwc];exact h.dl,by show (w.next.set i false).length=w.code.length;rw [List.length_set,hwc];exact h.wl⟩ hlt hlen (hI i hlt) hP (by show 0≤w.depth.getD i default∧w.depth.getD i default≤16;rw [h.dep];exact ⟨h0,hr⟩)
   dsimp only at g2
   rw [h.dep] at g2
   have hst:=h.step hP hlt (hI i hlt) hb h0 (by rw [h.dep];exact g2)
   have hp':w'.p=p:=g2.p.trans hwp
   have hc':w'.code=code:=g2.code.trans hwc
   obtain ⟨y,y1,_⟩:=xJ w' (by rw [hst.wl];omega)
   have hset:=iv s.2.2.2 i true (by omega)
   have hm':left (s.2.2.2.set i true) code.length<left s.2.2.2 code.length:=by
    refine oo _ i (fun x _ hx=>?_) (List.mem_range.2 hlt) (by rw [hb];rfl) (by rw [hset,if_pos rfl];rfl)
    rw [hset] at hx
    by_cases c:x=i
    ·rw [if_pos c] at hx;cases hx
    ·rwa [if_neg c] at hx
   rw [l0 (by omega),cond_true,aB (aN ⟨by omega,by omega⟩),Int.toNat_natCast]
   rw [show (⟨(⟨w.p.Decls,w.p.Waits,w.p.Funcs⟩:ah),w.code,w.depth,w.next.set i false,w.at_,w.err⟩:aH)=⟨w.p,w.code,w.depth,w.next.set i false,w.at_,w.err⟩ from rfl,g1,aj,y1,aj]
   rw [aJ (by omega),cond_false,Eh hP hlen h.dl hlt (hI i hlt) ⟨h0,hr⟩,aj,aB (aN ⟨by omega,by omega⟩)]
   cases hcc:(iNe (iJ p code s.2.2.1 i).1 0&&iLt (i:Int) s.1) with
   | true=>
    rw [hcc,cond_true] at hst
    rw [cond_true]
    exact th hP hc hlen hI hK (m - 1) f g w' _ y (by show left (s.2.2.2.set i true) code.length≤m - 1;omega) (by omega) (by omega) hp' hc' hst y1
   | false=>
    rw [hcc,cond_false] at hst
    rw [cond_false]
    exact th hP hc hlen hI hK (m - 1) f g w' _ y (by show left (s.2.2.2.set i true) code.length≤m - 1;omega) (by omega) (by omega) hp' hc' hst y1
theorem Dq {p:ah} (hP:OkP p) {k:Nat} (hk:k<p.Funcs.length):nh p (k:Int)=jI p (k:Int):=by
 have ok:=hP.fns k hk
 have hm:=hP.most
 have hpos:=ok.pos
 have hlen:=ok.most
 unfold nh jI
 rw [aU (by omega),kA (by omega),Bool.or_self,cond_false,cond_false,aB (aN ⟨by omega,by omega⟩),aB (aN ⟨by omega,by omega⟩),Int.toNat_natCast]
 have hI:=ok.ins
 generalize hcd:(p.Funcs.getD k default).Code=code at hpos hlen hI
 have hcd':(p.Funcs.getD (k:Int).toNat default).Code=code:=by rw [Int.toNat_natCast];exact hcd
 have hm8:nMk (code.length:Int) 8=true:=xn ⟨by omega,by omega,by omega⟩
 have hm1:nMk (code.length:Int) 1=true:=xn ⟨by omega,by omega,by omega⟩
 rw [aB hm8,aB hm8,aB hm1,aJ (show (code.length:Int)≠0 by omega),cond_false,Int.toNat_natCast]
 refine AX (P:=fun z=>z=eu p (k:Int) fuel (1,List.replicate code.length 0)) hcd' hlen (fun L hl hL=>?_) code.length 0 fuel _ (by omega) (by have:=aL;omega) (List.length_replicate ..) (fun j hj=>by omega)
 rw [aJ (show (code.length:Int)≠0 by omega),cond_false,aB hm1,Int.toNat_natCast]
 rw [show (1:Int)=((1:Nat):Int) from rfl]
 refine Dk (P:=fun z=>_=z) hcd' hlen (fun D hD h0 hj=>?_) (code.length - 1) 1 fuel _ (by omega) (by have:=aL;omega) (by omega) (by rw [List.length_replicate]) (by rw [pR _ _ _ (by omega)]) fun j h1 h2=>by omega
 rw [dR,hcd',Int.toNat_natCast]
 have hrep:∀ j,j<code.length→(List.replicate code.length (false:Bool)).getD j default=false:=fun j hj=>pR _ _ _ hj
 obtain ⟨w,e1,k1⟩:=pT (⟨p,code,L,List.replicate code.length false,0,0⟩:W) ⟨hl,List.length_replicate ..⟩ 0 0 0 (by decide) (by decide)
 have hLD:ldP code.length L 0 0=(0,D):=by
  unfold ldP
  rw [kA (by omega),cond_false,show ((0:Int).toNat)=0 from rfl,hL 0 (by omega),aR (by decide),cond_true]
  refine Prod.ext rfl (xQ (by rw [List.length_set,hl,hD]) fun i hi=>?_)
  rw [List.length_set,hl] at hi
  dsimp only
  rw [iv L 0 0 (by omega)]
  by_cases c:i=0
  ·rw [if_pos c,c,h0]
  ·rw [if_neg c,hL i hi,hj i (by omega) hi]
 dsimp only at e1 k1
 rw [hLD] at e1 k1
 rw [e1,aj]
 dsimp only
 have hae:=k1.ae
 rw [bd rfl,Bool.false_and,cond_false] at hae
 obtain ⟨ha,he⟩:=Prod.mk.inj hae
 dsimp only at ha he
 have hR:Rl code.length w ((code.length:Int),0,D,List.replicate code.length false):=by
  refine ⟨k1.depth,hD,List.length_replicate ..,k1.nl.trans (List.length_replicate ..),fun j hjl=>?_,fun j hjl hd=>?_,fun j=>?_,he,fun hq=>absurd rfl hq,fun _=>rfl⟩
  ·have:=k1.nx j
   dsimp only at this
   rw [this,hrep j hjl,hL j hjl]
   simp
  ·dsimp only at hd
   rw [hrep j hjl] at hd;cases hd
  ·dsimp only
   by_cases c:j=0
   ·rw [c,h0];decide
   ·by_cases c2:j<code.length
    ·rw [hj j (by omega) c2];decide
    ·rw [List.getD_eq_getElem?_getD,List.getElem?_eq_none (by omega)];decide
 obtain ⟨y,y1,_⟩:=xJ w (by rw [hR.wl];omega)
 rw [y1,aj]
 refine th hP hcd' hlen hI (fun a b D=>rfl) code.length fuel fuel w _ y ?_ (by have:=aL;omega) (by have:=aL;omega) k1.p k1.code hR y1
 exact Nat.le_trans List.countP_le_length (by rw [List.length_range];exact Nat.le_refl _)
def Rf (z:Option (Int×Int)) (z' Kv:Option (Int×Int×Int)):Prop:=∃ a e,z=some (a,e)∧(e≠0→∃ x y,z'=some (x,y,e))∧(e=0→z'=Kv)
theorem Cy {p:ah} {s t:Int} {F:aq} {x:ar} (hF:p.Funcs.getD s.toNat default=F) (hx0:F.Code.getD t.toNat default=x) (hx:OkI x) {K:Unit→Option (Int×Int)} {K':Unit→Option (Int×Int×Int)} {Kv:Option (Int×Int×Int)} (hK:Rf (K ()) (K' ()) Kv):∀ (n i f g:Nat),i+n=(dq x.Op).size→n<f→n<g→Rf (cw p s t K (dq x.Op) f (i:Int)) (cQ p s t (dq x.Op) K' g (i:Int)) Kv
 | n,i,0,g,hi,hf,hg=>by omega
 | n,i,f+1,0,hi,hf,hg=>by omega
 | 0,i,f+1,g+1,hi,hf,hg=>by
  rw [cw,cQ,j5,aU (by omega),cond_false,cond_false]
  exact hK
 | n+1,i,f+1,g+1,hi,hf,hg=>by
  have hf2:=fD x.Op
  have h2:nIn (i:Int) (([x.A,x.B]:List Int).length:Int)=true:=aN ⟨by omega,by simp only [List.length_cons,List.length_nil];omega⟩
  have h3:nIn (i:Int) ((dq x.Op).size:Int)=true:=aN ⟨by omega,by omega⟩
  rw [cw,cQ,hF,hx0,j5,aR (by omega),cond_true,cond_true,h3,aB rfl,aB rfl,aB (aN ⟨by omega,by show (i:Int)<2;omega⟩),aB h2,Int.toNat_natCast,AY _ _ (by omega),wv _ _ _ _ _ (uS hx (by omega)),wx _ _ _ _ _ (uS hx (by omega)),aj,aj,w64 (by omega),show (i:Int)+1=((i+1:Nat):Int) by omega]
  by_cases h0:opV p F x (bf (dq x.Op) i) (([x.A,x.B]:List Int).getD i default)=0
  ·rw [bd h0,cond_false,cond_false]
   exact Cy hF hx0 hx hK n (i+1) f g (by omega) (by omega) (by omega)
  ·rw [bn h0,cond_true,cond_true]
   exact ⟨_,_,rfl,fun _=>⟨_,_,rfl⟩,fun h=>absurd h h0⟩
theorem Ei {p:ah} (hp:OkP p) {k:Nat} (hk:k<p.Funcs.length) {K:Unit→Option (Int×Int×Int)} :∀ (n i f g:Nat),i+n=(p.Funcs.getD k default).Code.length→n<f→n<g→Rf (cD p (k:Int) f (i:Int)) (cR p (k:Int) K g (i:Int)) (K ())
 | n,i,0,g,hi,hf,hg=>by omega
 | n,i,f+1,0,hi,hf,hg=>by omega
 | 0,i,f+1,g+1,hi,hf,hg=>by
  rw [cD,cR,Int.toNat_natCast,aU (by omega),cond_false,cond_false,Dq hp hk]
  obtain ⟨l,a,e,h1,_⟩:=Eb hp (k:Int)
  rw [h1,aj,aj]
  dsimp only
  by_cases h0:e=0
  ·rw [bd h0,cond_false]
   exact ⟨a,e,rfl,fun h=>absurd h0 h,fun _=>rfl⟩
  ·rw [bn h0,cond_true]
   exact ⟨a,e,rfl,fun _=>⟨_,_,rfl⟩,fun h=>absurd h h0⟩
 | n+1,i,f+1,g+1,hi,hf,hg=>by
  have hF:=hp.fns k hk
  have hm:=hF.most
  have hn:nIn (i:Int) ((p.Funcs.getD k default).Code.length:Int)=true:=aN ⟨by omega,by omega⟩
  rw [cD,cR,Int.toNat_natCast,aR (by omega),cond_true,cond_true,dR,dR,hn,aB rfl,aB rfl,Int.toNat_natCast,yH,kN,aj,aj,w64 (by omega),show (i:Int)+1=((i+1:Nat):Int) by omega]
  refine Cy (F:=p.Funcs.getD k default) (x:=(p.Funcs.getD k default).Code.getD i default) rfl rfl (hF.ins i (by omega)) ?_ (dq ((p.Funcs.getD k default).Code.getD i default).Op).size 0 fuel fuel (by omega) (by have:=fD ((p.Funcs.getD k default).Code.getD i default).Op;have:=aL;omega) (by have:=fD ((p.Funcs.getD k default).Code.getD i default).Op;have:=aL;omega)
  exact Ei hp hk n (i+1) f g (by omega) (by omega) (by omega)
def Rp (z:Option (cT×Int)) (z':Option (Int×Int×Int)):Prop:=∃ w x y e,z=some (w,e)∧z'=some (x,y,e)
theorem Ej {p:ah} (hp:OkP p):∀ (n i f g:Nat),i+n=p.Funcs.length→n<f→n<g→Rp (cS p f (i:Int)) (cL p g (i:Int))
 | n,i,0,g,hi,hf,hg=>by omega
 | n,i,f+1,0,hi,hf,hg=>by omega
 | 0,i,f+1,g+1,hi,hf,hg=>by
  rw [cS,cL,aU (by omega),cond_false,cond_false]
  exact ⟨_,_,_,_,rfl,rfl⟩
 | n+1,i,f+1,g+1,hi,hf,hg=>by
  have hm:=hp.most
  have hc:=(hp.fns i (by omega)).most
  have ih:=Ej hp n (i+1) f g (by omega) (by omega) (by omega)
  have hn:nIn (i:Int) (p.Funcs.length:Int)=true:=aN ⟨by omega,by omega⟩
  rw [cS,cL,aR (by omega),cond_true,cond_true,dR,hn,aB rfl,w64 (by omega),show (i:Int)+1=((i+1:Nat):Int) by omega]
  unfold gB
  rw [hn,aB rfl]
  obtain ⟨a,e,h1,h2,h3⟩:=Ei hp (k:=i) (by omega) (K:=fun (_:Unit)=>cL p g ((i+1:Nat):Int)) (p.Funcs.getD i default).Code.length 0 fuel fuel (by omega) (by have:=aL;omega) (by have:=aL;omega)
  rw [show ((0:Nat):Int)=0 from rfl] at h1 h2 h3
  rw [h1,aj]
  dsimp only
  by_cases h0:e=0
  ·rw [bd h0,cond_false,h3 h0]
   exact ih
  ·obtain ⟨x,y,h4⟩:=h2 h0
   rw [bn h0,cond_true,h4]
   exact ⟨_,_,_,_,rfl,rfl⟩
theorem BV (p:ah):∃ w x y e,dW p=some (w,e)∧ew p=some (x,y,e)∧(e=0→chkP p=0):=by
 unfold ew dW
 rw [j0,nw,aj,aj]
 by_cases h0:chkP p=0
 ·have hp:=Ed h0
  have hl:=hp.pos
  have hm:=hp.most
  have hN:nIn (0:Int) (p.Funcs.length:Int)=true:=aN ⟨by decide,by omega⟩
  have hA:=(hp.fns 0 (by omega)).args
  rw [bd h0,cond_false,cond_false,hN,aB rfl,aB rfl,show (0:Int).toNat=0 from rfl]
  by_cases ha:(p.Funcs.getD 0 default).Args=0
  ·rw [bd ha,cond_false,aU (by omega),cond_false]
   obtain ⟨w,x,y,e,h1,h2⟩:=Ej hp p.Funcs.length 0 fuel fuel (by omega) (by have:=aL;omega) (by have:=aL;omega)
   exact ⟨w,x,y,e,h1,h2,fun _=>h0⟩
  ·rw [bn ha,cond_true,aR (by omega),cond_true]
   exact ⟨_,_,_,_,rfl,rfl,fun _=>h0⟩
 ·rw [bn h0,cond_true,cond_true]
  exact ⟨_,_,_,_,rfl,rfl,fun h=>h⟩
end LJ
end
