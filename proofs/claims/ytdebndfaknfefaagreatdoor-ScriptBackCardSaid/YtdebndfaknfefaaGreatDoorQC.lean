/- Several texts of plain Lean, one behind the other. No condition. -/
import Derived.Test.YtdebndfaknfefaaGreatDoorQB
section
namespace LJ
open Go Go.RowKit
set_option linter.unusedVariables false
set_option linter.unusedSimpArgs false
theorem xC {k:Int} (h:opK k=false):jf k=some 0:=by
 have hk:=xt.1 h
 unfold jf
 rw [j5,h]
 have e:∀ c:Int,0≤c→c<52→iEq k c=false:=fun c h0 h1=>aK (by omega)
 rw [e 2 (by decide) (by decide),e 17 (by decide) (by decide),e 19 (by decide) (by decide),e 21 (by decide) (by decide),e 18 (by decide) (by decide),e 25 (by decide) (by decide),e 16 (by decide) (by decide),e 45 (by decide) (by decide),e 40 (by decide) (by decide),e 43 (by decide) (by decide),e 8 (by decide) (by decide),e 24 (by decide) (by decide),e 27 (by decide) (by decide),e 28 (by decide) (by decide),e 30 (by decide) (by decide),e 31 (by decide) (by decide),e 33 (by decide) (by decide),e 39 (by decide) (by decide),e 44 (by decide) (by decide),e 46 (by decide) (by decide),e 49 (by decide) (by decide)]
 have:(iLe 3 k&&iLe k 15)=false:=by simp only [Bool.and_eq_false_iff,ik];omega
 rw [this]
 rfl
theorem yq:∀ k:Fin 52,cP k=dg k:=by decide+kernel
theorem AQ (k:Int):cP k=dg k:=by
 cases h:opK k with
 | true=>
  have hk:=iW.1 h
  have:=yq ⟨k.toNat,by omega⟩
  dsimp only at this
  rwa [Int.toNat_of_nonneg hk.1] at this
 | false=>
  unfold cP dg
  rw [xC h,gL,h]
  rfl
theorem BX:∀ k:Fin 52,(k:Nat)≠20→(k:Nat)≠41→(k:Nat)≠42→fI ⟨k,0,0⟩ 0=dm ⟨k,0,0⟩ 0:=by decide+kernel
theorem Dx {x:aq} (a:Int) (hb: -1099511627776≤x.B∧x.B≤1099511627776):fI x a=dm x a:=by
 obtain ⟨k,A,B⟩:=x
 dsimp only at hb
 cases h:opK k with
 | false=>
  have hk:=xt.1 h
  unfold fI dm
  dsimp only
  rw [aK (show k≠20 by omega),aK (show k≠42 by omega),aK (show k≠41 by omega),xC h,gL,h]
  rfl
 | true=>
  have hk:=iW.1 h
  by_cases h20:k=20
  ·subst h20;rfl
  ·by_cases h42:k=42
   ·subst h42
    show some (IntKind.i64.wrap (IntKind.i64.wrap ((0:Int)+1)+B))=some (IntKind.i64.wrap ((1:Int)+B))
    rw [w64 (a:=(0:Int)+1) (by decide)]
    rfl
   ·by_cases h41:k=41
    ·subst h41;rfl
    ·have h1:fI ⟨k,A,B⟩ a=fI ⟨k,0,0⟩ 0:=by
      unfold fI
      dsimp only
      rw [aK h20,aK h42,aK h41]
      rfl
     have h2:dm ⟨k,A,B⟩ a=dm ⟨k,0,0⟩ 0:=by
      unfold dm
      dsimp only
      rw [aK h20,aK h42,aK h41]
      rfl
     have:=BX ⟨k.toNat,by omega⟩ (by dsimp only;omega) (by dsimp only;omega) (by dsimp only;omega)
     dsimp only at this
     rw [Int.toNat_of_nonneg hk.1] at this
     rw [h1,h2,this]
end LJ
end
section
namespace LJ
open Go Go.RowKit
set_option linter.unusedVariables false
set_option linter.unusedSimpArgs false
def Tot (P:Prop) (z:Option Int):Prop:=∃ e,z=some e∧(e=0→P)
theorem Tot.ok {P:Prop} (h:P) (e:Int):Tot P (some e):=⟨e,rfl,fun _=>h⟩
theorem Tot.bad {P:Prop} {e:Int} (h:e≠0):Tot P (some e):=⟨e,rfl,fun h'=>absurd h' h⟩
theorem Tot.br {P:Prop} {b:Bool} {z z':Option Int} (h:b=true→Tot P z) (h':b=false→Tot P z'):Tot P (cond b z z'):=by
 cases b with
 | true=>exact h rfl
 | false=>exact h' rfl
theorem Tot.nd {P:Prop} {b:Bool} {z:Option Int} (hb:b=true) (h:Tot P z):Tot P (need b z):=by subst hb;exact h
theorem Tot.next {P Q:Prop} {z r:Option Int} (h:Tot Q z) (k:Q→Tot P r):Tot P (z.bind fun x=>cond (iNe x 0) (some x) r):=by
 obtain ⟨e,rfl,he⟩:=h
 show Tot P (cond (iNe e 0) (some e) r)
 by_cases h0:e=0
 ·rw [bG h0];exact k (he h0)
 ·rw [cm h0];exact .bad h0
theorem Tot.mono {P Q:Prop} {z:Option Int} (h:Tot P z) (k:P→Q):Tot Q z:=by
 obtain ⟨e,h1,h2⟩:=h
 exact ⟨e,h1,fun h=>k (h2 h)⟩
theorem Dy (x:aq):Tot (OkI x) (gy x):=⟨_,lB x,lR⟩
theorem Ei (F:aw) (hF:F.Code.length≤200):∀ (n i f:Nat),i+n=F.Code.length→n<f→Tot (∀ j,i≤j→j<F.Code.length→OkI (F.Code.getD j default)) (bF F f (i:Int))
 | n,i,0,hi,hf=>by omega
 | 0,i,f+1,hi,hf=>by
  rw [bF,aW (by omega),cond_false]
  exact .ok (fun j h1 h2=>by omega) _
 | n+1,i,f+1,hi,hf=>by
  rw [bF,aV (by omega),cond_true,au (aI ⟨by omega,by omega⟩),Int.toNat_natCast,w64 (by omega),show (i:Int)+1=((i+1:Nat):Int) by omega]
  refine .next (Dy _) fun h=>(Ei F hF n (i+1) f (by omega) (by omega)).mono fun h' j h1 h2=>?_
  rcases Nat.eq_or_lt_of_le h1 with rfl | h1
  ·exact h
  ·exact h' j h1 h2
structure OkFn (F:aw):Prop where
 args:0≤F.Args∧F.Args≤8
 pos:1≤F.Code.length
 most:F.Code.length≤200
 ins:∀ j,j<F.Code.length→OkI (F.Code.getD j default)
theorem Ej (F:aw):Tot (OkFn F) (dR F):=by
 unfold dR
 refine .br (fun _=> .bad (by decide)) fun h1=> .br (fun _=> .bad (by decide)) fun h2=> .br (fun _=> .bad (by decide)) fun h3=>?_
 simp only [Bool.or_eq_false_iff,bd] at h1 h3
 have h2':(F.Code.length:Int)≠0:=fun h=>by rw [aO h] at h2;cases h2
 exact (Ei F (by omega) F.Code.length 0 fuel (by omega) (by have:=aJ;omega)).mono fun h=>⟨by omega,by omega,by omega,fun j hj=>h j (Nat.zero_le _) hj⟩
theorem AR (p:aa) (hF:p.Funcs.length≤16):∀ (n i f:Nat),i+n=p.Funcs.length→n<f→Tot (∀ j,i≤j→j<p.Funcs.length→OkFn (p.Funcs.getD j default)) (cb p f (i:Int))
 | n,i,0,hi,hf=>by omega
 | 0,i,f+1,hi,hf=>by
  rw [cb,aW (by omega),cond_false]
  exact .ok (fun j h1 h2=>by omega) _
 | n+1,i,f+1,hi,hf=>by
  rw [cb,aV (by omega),cond_true,au (aI ⟨by omega,by omega⟩),Int.toNat_natCast,w64 (by omega),show (i:Int)+1=((i+1:Nat):Int) by omega]
  refine .next (Ej _) fun h=>(AR p hF n (i+1) f (by omega) (by omega)).mono fun h' j h1 h2=>?_
  rcases Nat.eq_or_lt_of_le h1 with rfl | h1
  ·exact h
  ·exact h' j h1 h2
theorem BZ (L:List ai) (x:af):Tot True (iM L x):=by
 unfold iM
 refine .br (fun _=> .ok trivial _) fun h1=>?_
 simp only [Bool.or_eq_false_iff,bd] at h1
 by_cases ho:0≤x.Obj∧x.Obj<L.length
 ·have hn:nIn x.Obj (L.length:Int)=true:=aI ho
  have hk:nIn x.Kind (([0,1,2,2,3,6]:List Int).length:Int)=true:=aI ⟨by omega,by simp only [List.length_cons,List.length_nil];omega⟩
  refine .nd (by rw [hn,Bool.or_true]) (.nd (by rw [hk,Bool.or_true]) ?_)
  simp only [hn,au,aZ]
  exact .ok trivial _
 ·have hc:(iLt x.Obj 0||iLe (L.length:Int) x.Obj)=true:=by
   rw [Bool.or_eq_true,cG,dB];omega
  refine .nd (by rw [hc];rfl) (.nd (by rw [hc];rfl) ?_)
  rw [hc,Bool.true_or,cond_true]
  exact .ok trivial _
theorem Ek {W:List (List af)} {s:Int} {j:Nat} {K:Unit→Option Int} (hK:Tot True (K ())) (hj:j<(W.getD s.toNat default).length) (h4:(W.getD s.toNat default).length≤4):∀ (n i f:Nat),i+n=j→n<f→Tot True (b8 W s (j:Int) K f (i:Int))
 | n,i,0,hi,hf=>by omega
 | 0,i,f+1,hi,hf=>by
  rw [b8,aW (by omega),cond_false]
  exact hK
 | n+1,i,f+1,hi,hf=>by
  have e1:nIn (i:Int) ((W.getD s.toNat default).length:Int)=true:=aI ⟨by omega,by omega⟩
  have e2:nIn (j:Int) ((W.getD s.toNat default).length:Int)=true:=aI ⟨by omega,by omega⟩
  rw [b8,aV (by omega),cond_true,e1,e2,Bool.or_true,Bool.or_true,w64 (by omega),show (i:Int)+1=((i+1:Nat):Int) by omega]
  exact .nd rfl (.nd rfl (.nd rfl (.nd rfl (.br (fun _=> .ok trivial _) fun _=>Ek hK hj h4 n (i+1) f (by omega) (by omega)))))
theorem El {W:List (List af)} {s:Int} {K:Unit→Option Int} (hK:Tot True (K ())) (h4:(W.getD s.toNat default).length≤4):∀ (n i f:Nat),i+n=(W.getD s.toNat default).length→n<f→Tot True (bK W s K f (i:Int))
 | n,i,0,hi,hf=>by omega
 | 0,i,f+1,hi,hf=>by
  rw [bK,aW (by omega),cond_false]
  exact hK
 | n+1,i,f+1,hi,hf=>by
  rw [bK,aV (by omega),cond_true,dN,w64 (by omega),show (i:Int)+1=((i+1:Nat):Int) by omega]
  have ih:=El hK h4 n (i+1) f (by omega) (by omega)
  exact Ek (K:=fun _=>bK W s K f ((i+1:Nat):Int)) ih (by omega) h4 i 0 fuel (by omega) (by have:=aJ;omega)
theorem Em {L:List ai} {W:List (List af)} {s:Int} {K:Unit→Option Int} (hK:Tot True (K ())) (h4:(W.getD s.toNat default).length≤4):∀ (n i f:Nat),i+n=(W.getD s.toNat default).length→n<f→Tot True (b9 L W s K f (i:Int))
 | n,i,0,hi,hf=>by omega
 | 0,i,f+1,hi,hf=>by
  rw [b9,aW (by omega),cond_false]
  exact El hK h4 (W.getD s.toNat default).length 0 fuel (by omega) (by have:=aJ;omega)
 | n+1,i,f+1,hi,hf=>by
  rw [b9,aV (by omega),cond_true,au (aI ⟨by omega,by omega⟩),w64 (by omega),show (i:Int)+1=((i+1:Nat):Int) by omega]
  exact .next (BZ _ _) fun _=>Em hK h4 n (i+1) f (by omega) (by omega)
theorem n_l4 {L:List ai} {W:List (List af)} (hW:W.length≤4):∀ (n i f:Nat),i+n=W.length→n<f→Tot True (bS L W f (i:Int))
 | n,i,0,hi,hf=>by omega
 | 0,i,f+1,hi,hf=>by
  rw [bS,aW (by omega),cond_false]
  exact .ok trivial _
 | n+1,i,f+1,hi,hf=>by
  rw [bS,aV (by omega),cond_true,dN,w64 (by omega),show (i:Int)+1=((i+1:Nat):Int) by omega]
  refine .nd (aI ⟨by omega,by omega⟩) (.br (fun _=> .ok trivial _) fun _=> .br (fun _=> .ok trivial _) fun h=>?_)
  rw [bd] at h
  have ih:=n_l4 (L:=L) hW n (i+1) f (by omega) (by omega)
  exact Em (K:=fun _=>bS L W f ((i+1:Nat):Int)) ih (by omega) (W.getD (i:Int).toNat default).length 0 fuel (by omega) (by have:=aJ;omega)
theorem B2 (L:List ai) (W:List (List af)):Tot True (fF L W):=by
 unfold fF
 refine .br (fun _=> .ok trivial _) fun _=> .br (fun _=> .ok trivial _) fun h=>?_
 rw [bd] at h
 exact n_l4 (by omega) W.length 0 fuel (by omega) (by have:=aJ;omega)
theorem B3:gu 117=some [1,2]:=by decide+kernel
theorem xD (L:List ai) (o:Int):∀ (n i f:Nat),i+n=2→n<f→∃ b,cx L o [1,2] f (i:Int)=some b
 | n,i,0,hi,hf=>by omega
 | 0,i,f+1,hi,hf=>by
  rw [cx,aW (by simp only [List.length_cons,List.length_nil];omega)]
  exact ⟨_,rfl⟩
 | n+1,i,f+1,hi,hf=>by
  rw [cx]
  cases h:((iLt (i:Int) (([1,2]:List Int).length:Int)&&iLe 0 o)&&iLt o (L.length:Int)) with
  | false=>exact ⟨_,rfl⟩
  | true=>
   simp only [Bool.and_eq_true,cG,dB] at h
   rw [cond_true,au (aI ⟨h.1.2,h.2⟩),au (aI ⟨by omega,h.1.1⟩),w64 (by omega),show (i:Int)+1=((i+1:Nat):Int) by omega]
   obtain ⟨b,hb⟩:=xD L o n (i+1) f (by omega) (by omega)
   rw [hb,aZ]
   exact ⟨_,rfl⟩
theorem Dz (L:List ai) (o:Int):∃ b,fO L 117 o=some b:=by
 unfold fO
 rw [B3,ae]
 exact xD L o 2 0 fuel (by omega) (by have:=aJ;omega)
theorem B4 (L:List ai) (x:ai):Tot True (iL L x):=by
 unfold iL
 refine .br (fun _=> .ok trivial _) fun _=> .br (fun _=> .ok trivial _) fun _=> .br (fun _=> .ok trivial _) fun _=>?_
 obtain ⟨b,hb⟩:=Dz L x.B
 have:∃ c,cond (iEq x.Kind 7) (iz x.A) (some default)=some c:=by cases iEq x.Kind 7 <;> exact ⟨_,rfl⟩
 obtain ⟨c,hc⟩:=this
 rw [hc,ae,hb,aZ,ae]
 exact .br (fun _=> .ok trivial _) fun _=> .br (fun _=> .ok trivial _) fun _=> .ok trivial _
theorem xE (L:List ai) (hL:L.length≤32):∀ (n i f:Nat),i+n=L.length→n<f→∃ p,cu L f (i:Int)=some p
 | n,i,0,hi,hf=>by omega
 | 0,i,f+1,hi,hf=>by
  rw [cu,aW (by omega),cond_false]
  exact ⟨_,rfl⟩
 | n+1,i,f+1,hi,hf=>by
  rw [cu,aV (by omega),cond_true,au (aI ⟨by omega,by omega⟩),Int.toNat_natCast,w64 (by omega),show (i:Int)+1=((i+1:Nat):Int) by omega]
  obtain ⟨e,he,_⟩:=B4 L (L.getD i default)
  obtain ⟨p,hp⟩:=xE L hL n (i+1) f (by omega) (by omega)
  rw [he,ae,hp,aZ]
  exact ⟨_,rfl⟩
theorem AU (L:List ai):∃ p,fE L=some p:=by
 unfold fE
 cases h:iLt 32 (L.length:Int) with
 | true=>exact ⟨_,rfl⟩
 | false=>
  rw [bd] at h
  rw [cond_false]
  exact xE L (by omega) L.length 0 fuel (by omega) (by have:=aJ;omega)
structure OkP (p:aa):Prop where
 most:p.Funcs.length≤16
 fns:∀ j,j<p.Funcs.length→OkFn (p.Funcs.getD j default)
 pos:0<p.Funcs.length
theorem xF (p:aa) (hW:p.Waits.length≤32):∀ (n i f:Nat),i+n=p.Waits.length→n<f→Tot (OkP p) (cv p f (i:Int))
 | n,i,0,hi,hf=>by omega
 | 0,i,f+1,hi,hf=>by
  rw [cv,aW (by omega),cond_false]
  refine .br (fun _=> .bad (by decide)) fun h1=> .br (fun _=> .bad (by decide)) fun h=>?_
  rw [bd] at h
  rw [ij] at h1
  exact (AR p (by omega) p.Funcs.length 0 fuel (by omega) (by have:=aJ;omega)).mono fun h'=>⟨by omega,fun j hj=>h' j (Nat.zero_le _) hj,by omega⟩
 | n+1,i,f+1,hi,hf=>by
  rw [cv,aV (by omega),cond_true,au (aI ⟨by omega,by omega⟩),Int.toNat_natCast,w64 (by omega),show (i:Int)+1=((i+1:Nat):Int) by omega]
  exact .next (B2 _ _) fun _=>xF p hW n (i+1) f (by omega) (by omega)
theorem B5 (p:aa):Tot (OkP p) (fG p):=by
 unfold fG
 obtain ⟨q,hq⟩:=AU p.Decls
 rw [hq,ae]
 refine .br (fun h=>⟨_,rfl,fun h0=>?_⟩) fun _=> .br (fun _=> .bad (by decide)) fun h=>?_
 ·rw [bG h0] at h;cases h
 ·rw [bd] at h
  exact xF p (by omega) p.Waits.length 0 fuel (by omega) (by have:=aJ;omega)
def Same (p:aa) (z:Option aa):Prop:=∃ d w,z=some ⟨d,w,p.Funcs⟩
end LJ
end
section
namespace LJ
open Go Go.RowKit
set_option linter.unusedVariables false
set_option linter.unusedSimpArgs false
theorem qe:∀ k:Fin 52,(jf k).isSome=true∧(cP k).isSome=true∧(match cP k with | some v=>decide (0≤v)&&decide (v≤2) | none=>false)=true:=by decide+kernel
theorem wm {k:Int} (h:0≤k∧k<52):∃ v,cP k=some v∧0≤v∧v≤2:=by
 have:=(qe ⟨k.toNat,by omega⟩).2.2
 dsimp only at this
 rw [Int.toNat_of_nonneg h.1] at this
 cases hp:cP k with
 | none=>rw [hp] at this;cases this
 | some v=>
  rw [hp] at this
  simp only [Bool.and_eq_true,decide_eq_true_eq] at this
  exact ⟨v,rfl,this.1,this.2⟩
theorem yr {k:Int} (h:0≤k∧k<52):∃ v,jf k=some v:=by
 have:=(qe ⟨k.toNat,by omega⟩).1
 dsimp only at this
 rw [Int.toNat_of_nonneg h.1] at this
 exact Option.isSome_iff_exists.1 this
theorem AW {x:aq} {a:Int} (h:0≤x.Op∧x.Op<52) (ha:0≤a∧a≤8) (hb: -2147483648≤x.B∧x.B<2147483648):∃ v,fI x a=some v∧ -2147483648≤v∧v≤2147483650:=by
 obtain ⟨s,hs⟩:=yr h
 unfold fI
 rw [dN,hs]
 simp only [ae,dN]
 have w1:IntKind.i64.wrap ((0:Int)+1)=1:=by decide
 have w2:IntKind.i64.wrap ((1:Int)+1)=2:=by decide
 rw [w1,w2,w64 (a:=1+x.B) (by omega),w64 (a:=0+x.B) (by omega)]
 simp only [aZ]
 refine ⟨_,rfl,?_⟩
 cases iEq x.Op 20 with
 | true=>rw [cond_true];omega
 | false=>
  rw [cond_false]
  cases iEq x.Op 42 with
  | true=>rw [cond_true];omega
  | false=>
   rw [cond_false]
   cases iEq x.Op 41 with
   | true=>rw [cond_true];omega
   | false=>
    rw [cond_false]
    cases iEq s 4 <;> cases iEq s 2 <;> cases iEq s 3 <;> cases iEq s 5 <;> simp only [cond_true,cond_false] <;> omega
theorem EX {x:aq} (h:OkI x): -2147483648≤x.B∧x.B<2147483648:=by
 by_cases h0:(ct x.Op).size≤1
 ·rw [h.b0 h0];omega
 ·have:=jw (h.b1 (by omega));omega
theorem nb {x:aq} (h:OkI x) (hx:x.Op=18∨x.Op=19∨x.Op=20):0≤x.A:=by
 have key:0<(ct x.Op).size∧bc (ct x.Op) 0≠110:=by rcases hx with h | h | h <;> rw [h] <;> decide+kernel
 exact (jw (h.a1 key.1)).2.2 key.2
abbrev W:=aF
def dAt (w:W) (i:Nat):Int:=w.depth.getD i default
def nAt (w:W) (i:Nat):Bool:=w.next.getD i default
structure Ext (w w':W):Prop where
 p:w'.p=w.p
 code:w'.code=w.code
 dl:w'.depth.length=w.depth.length
 nl:w'.next.length=w.next.length
 old:∀ i,0≤dAt w i→dAt w' i=dAt w i∧nAt w' i=nAt w i
 new:∀ i,dAt w i<0→(dAt w' i=dAt w i∧nAt w' i=nAt w i)∨(0≤dAt w' i∧dAt w' i≤16∧nAt w' i=true)
 err:w.err≠0→w'.err≠0
theorem Ext.refl (w:W):Ext w w:=⟨rfl,rfl,rfl,rfl,fun _ _=>⟨rfl,rfl⟩,fun _ _=> .inl ⟨rfl,rfl⟩,id⟩
theorem Ext.trans {a b c:W} (h:Ext a b) (h':Ext b c):Ext a c where
 p:=h'.p.trans h.p
 code:=h'.code.trans h.code
 dl:=h'.dl.trans h.dl
 nl:=h'.nl.trans h.nl
 old i hi:=by
  obtain ⟨h1,h2⟩:=h.old i hi
  obtain ⟨h3,h4⟩:=h'.old i (by omega)
  exact ⟨h3.trans h1,h4.trans h2⟩
 new i hi:=by
  rcases h.new i hi with ⟨h1,h2⟩ | ⟨h1,h2,h3⟩
  ·rcases h'.new i (by omega) with ⟨h4,h5⟩ | h4
   ·exact .inl ⟨h4.trans h1,h5.trans h2⟩
   ·exact .inr h4
  ·obtain ⟨h4,h5⟩:=h'.old i h1
   exact .inr ⟨by omega,by omega,h5.trans h3⟩
 err he:=h'.err (h.err he)
theorem o9 (w:W) (a e:Int) (he:e≠0):∃ w',bh w a e=some w'∧Ext w w'∧w'.err≠0:=by
 unfold bh
 cases h:(iEq w.err 0||iLt a w.at_) with
 | true=>exact ⟨_,rfl,⟨rfl,rfl,rfl,rfl,fun _ _=>⟨rfl,rfl⟩,fun _ _=> .inl ⟨rfl,rfl⟩,fun _=>he⟩,he⟩
 | false=>
  rw [Bool.or_eq_false_iff,ij] at h
  exact ⟨_,rfl, .refl w,h.1⟩
theorem uN {α:Type} [Inhabited α] (L:List α) (k:Nat) (v:α) (hk:k<L.length) (i:Nat):(L.set k v).getD i default=if i=k then v else L.getD i default:=by
 rw [List.getD_eq_getElem?_getD,List.getD_eq_getElem?_getD,List.getElem?_set]
 by_cases h:i=k
 ·subst h;simp [hk]
 ·rw [if_neg (fun h'=>h h'.symm),if_neg h]
structure Lens (w:W):Prop where
 d:w.depth.length=w.code.length
 n:w.next.length=w.code.length
theorem Ext.lens {w w':W} (h:Ext w w') (hl:Lens w):Lens w':=⟨by rw [h.dl,h.code,hl.d],by rw [h.nl,h.code,hl.n]⟩
theorem nc (w:W) (hw:Lens w) (a to b:Int) (h0:0≤to) (hb:0≤b∧b≤16):∃ k w',aN w a to b=some (k,w')∧Ext w w'∧(k=false→w'.err≠0)∧(k=true→to<w.code.length∧dAt w' to.toNat=b):=by
 unfold aN
 by_cases h:to<w.code.length
 ·have hd:nIn to (w.depth.length:Int)=true:=aI ⟨h0,by rw [hw.d];exact h⟩
  have hn:nIn to (w.next.length:Int)=true:=aI ⟨h0,by rw [hw.n];exact h⟩
  have hd':to.toNat<w.depth.length:=by rw [hw.d];omega
  have hn':to.toNat<w.next.length:=by rw [hw.n];omega
  rw [mM (by omega),cond_false,au hd,au hd,au hn,au hd]
  by_cases hneg:w.depth.getD to.toNat default<0
  ·rw [aV hneg,cond_true]
   have hD:∀ i,dAt (⟨w.p,w.code,w.depth.set to.toNat b,w.next.set to.toNat true,w.at_,w.err⟩:W) i=if i=to.toNat then b else dAt w i:=fun i=>uN _ _ _ hd' i
   have hN:∀ i,nAt (⟨w.p,w.code,w.depth.set to.toNat b,w.next.set to.toNat true,w.at_,w.err⟩:W) i=if i=to.toNat then true else nAt w i:=fun i=>uN _ _ _ hn' i
   refine ⟨_,_,rfl,⟨rfl,rfl,List.length_set,List.length_set,fun i hi=>?_,fun i hi=>?_,id⟩,fun h=>(by cases h),fun _=>⟨h,?_⟩⟩
   ·have:i≠to.toNat:=fun h=>by subst h;exact absurd hneg (Int.not_lt.2 hi)
    rw [hD,hN,if_neg this,if_neg this]
    exact ⟨rfl,rfl⟩
   ·rw [hD,hN]
    by_cases h:i=to.toNat
    ·rw [if_pos h,if_pos h];exact .inr ⟨hb.1,hb.2,rfl⟩
    ·rw [if_neg h,if_neg h];exact .inl ⟨rfl,rfl⟩
   ·rw [hD,if_pos rfl]
  ·rw [aW (by omega),cond_false]
   by_cases he:w.depth.getD to.toNat default=b
   ·rw [bG he,cond_false]
    exact ⟨_,_,rfl, .refl w,fun h=>(by cases h),fun _=>⟨h,he⟩⟩
   ·obtain ⟨w',h1,h2,h3⟩:=o9 w a 2 (by decide)
    rw [cm he,cond_true,h1,ae]
    exact ⟨_,_,rfl,h2,fun _=>h3,fun h=>(by cases h)⟩
 ·obtain ⟨w',h1,h2,h3⟩:=o9 w a 3 (by decide)
  rw [py (by omega),cond_true,h1,ae]
  exact ⟨_,_,rfl,h2,fun _=>h3,fun h=>(by cases h)⟩
def yt (p:aa) (x:aq):Int:=cond (iEq x.Op 20&&iLt x.A (p.Funcs.length:Int)) (p.Funcs.getD x.A.toNat default).Args 0
structure Good (p:aa) (code:List aq) (dep:Nat→Int) (i:Nat):Prop where
 h:∃ v u:Int,fI (code.getD i default) (yt p (code.getD i default))=some v∧cP (code.getD i default).Op=some u∧ -2147483648≤v∧v≤2147483650∧0≤u∧u≤2∧0≤dep i - v∧dep i - v+u≤16∧
  ((code.getD i default).Op≠18→(code.getD i default).Op≠21→i+1<code.length∧dep (i+1)=dep i - v+u)∧
  ((code.getD i default).Op=18∨(code.getD i default).Op=19→0≤(code.getD i default).A∧(code.getD i default).A<code.length∧dep (code.getD i default).A.toNat=dep i - v+u)
theorem AX {k:Int} (h:0≤k∧k<52):kB k=some (iNe k 18&&iNe k 21):=by
 unfold kB
 rw [j5,iW.2 h,ae,Bool.true_and]
theorem AY {p:aa} {code:List aq} {w:W} (hp:w.p=p) (hc:w.code=code) (hw:Lens w) {i:Nat} (hi:i<code.length) (hlen:code.length≤200) (hx:OkI (code.getD i default)) (hd:0≤dAt w i∧dAt w i≤16) {v u:Int} (hv:fI (code.getD i default) (yt p (code.getD i default))=some v) (hv1: -2147483648≤v∧v≤2147483650) (hu:cP (code.getD i default).Op=some u) (hu1:0≤u∧u≤2):
  ∃ w',(cond (iLt (IntKind.i64.wrap ((w.depth.getD i default) - v)) 0) ((bh w (i:Int) 2).bind fun (x5:aF)=>some x5) ((cP ((code.getD i default).Op)).bind fun (x6:Int)=>cond (iLt 16 (IntKind.i64.wrap ((IntKind.i64.wrap ((w.depth.getD i default) - v))+x6))) ((bh w (i:Int) 4).bind fun (x8:aF)=>some x8) ((kB ((code.getD i default).Op)).bind fun (x9:Bool)=>cond x9 ((aN w (i:Int) (IntKind.i64.wrap ((i:Int)+1)) (IntKind.i64.wrap ((IntKind.i64.wrap ((w.depth.getD i default) - v))+x6))).bind fun (x11:Bool×aF)=>cond (!x11.1) (some x11.2) (cond ((iEq ((code.getD i default).Op) 18)||(iEq ((code.getD i default).Op) 19)) ((aN x11.2 (i:Int) ((code.getD i default).A) (IntKind.i64.wrap ((IntKind.i64.wrap ((w.depth.getD i default) - v))+x6))).bind fun (x14:Bool×aF)=>some x14.2) (some x11.2))) (cond ((iEq ((code.getD i default).Op) 18)||(iEq ((code.getD i default).Op) 19)) ((aN w (i:Int) ((code.getD i default).A) (IntKind.i64.wrap ((IntKind.i64.wrap ((w.depth.getD i default) - v))+x6))).bind fun (x16:Bool×aF)=>some x16.2) (some w)))))=some w'∧Ext w w'∧(w'.err≠0∨Good p code (dAt w') i):=by
 have hd0:w.depth.getD i default=dAt w i:=rfl
 rw [hd0,w64 (a:=dAt w i - v) (by omega)]
 by_cases h1:dAt w i - v<0
 ·obtain ⟨w',e1,e2,e3⟩:=o9 w (i:Int) 2 (by decide)
  rw [aV h1,cond_true,e1]
  exact ⟨_,rfl,e2, .inl e3⟩
 rw [aW (by omega),cond_false,hu,ae,w64 (by omega)]
 by_cases h2:16<dAt w i - v+u
 ·obtain ⟨w',e1,e2,e3⟩:=o9 w (i:Int) 4 (by decide)
  rw [aV h2,cond_true,e1]
  exact ⟨_,rfl,e2, .inl e3⟩
 rw [aW (by omega),cond_false,AX hx.op,ae,w64 (by omega)]
 have hb:0≤dAt w i - v+u∧dAt w i - v+u≤16:=by omega
 have mk:∀ w':W,Ext w w'→((code.getD i default).Op≠18→(code.getD i default).Op≠21→i+1<code.length∧dAt w' (i+1)=dAt w i - v+u)→((code.getD i default).Op=18∨(code.getD i default).Op=19→(code.getD i default).A<code.length∧dAt w' (code.getD i default).A.toNat=dAt w i - v+u)→Good p code (dAt w') i:=fun w' he g1 g2=>by
  have:=(he.old i hd.1).1
  rw [←this] at g1 g2 h1 h2
  exact ⟨v,u,hv,hu,hv1.1,hv1.2,hu1.1,hu1.2,by omega,by omega,g1,fun h=>⟨nb hx (by omega),g2 h⟩⟩
 generalize hz:dAt w i - v+u=z at*
 cases hg:(iNe (code.getD i default).Op 18&&iNe (code.getD i default).Op 21) with
 | true=>
  rw [Bool.and_eq_true,zO,zO] at hg
  obtain ⟨k,w1,e1,e2,e3,e4⟩:=nc w hw (i:Int) ((i:Int)+1) z (by omega) hb
  rw [cond_true,e1,ae]
  dsimp only
  cases k with
  | false=>exact ⟨_,rfl,e2, .inl (e3 rfl)⟩
  | true=>
   obtain ⟨e4,e5⟩:=e4 rfl
   rw [hc] at e4
   have e6:dAt w1 (i+1)=z:=by rw [←e5];congr 1
   rw [Bool.not_true,cond_false]
   cases hj:(iEq (code.getD i default).Op 18||iEq (code.getD i default).Op 19) with
   | false=>
    rw [Bool.or_eq_false_iff,ij,ij] at hj
    exact ⟨_,rfl,e2, .inr (mk w1 e2 (fun _ _=>⟨by omega,e6⟩) (fun h=>(h.elim hj.1 hj.2).elim))⟩
   | true=>
    rw [Bool.or_eq_true,cn,cn] at hj
    obtain ⟨k2,w2,f1,f2,f3,f4⟩:=nc w1 (e2.lens hw) (i:Int) (code.getD i default).A z (nb hx (by omega)) hb
    rw [cond_true,f1,ae]
    cases k2 with
    | false=>exact ⟨_,rfl,e2.trans f2, .inl (f3 rfl)⟩
    | true=>
     obtain ⟨f4,f5⟩:=f4 rfl
     rw [e2.code,hc] at f4
     exact ⟨_,rfl,e2.trans f2, .inr (mk w2 (e2.trans f2) (fun _ _=>⟨by omega,by rw [(f2.old (i+1) (by omega)).1,e6]⟩) (fun _=>⟨f4,f5⟩))⟩
 | false=>
  rw [cond_false]
  have hg':(code.getD i default).Op=18∨(code.getD i default).Op=21:=by
   rcases Bool.and_eq_false_iff.1 hg with h | h
   ·exact .inl (xg.1 h)
   ·exact .inr (xg.1 h)
  cases hj:(iEq (code.getD i default).Op 18||iEq (code.getD i default).Op 19) with
  | false=>
   rw [Bool.or_eq_false_iff,ij,ij] at hj
   exact ⟨_,rfl, .refl w, .inr (mk w (.refl w) (fun h h'=>(hg'.elim h h').elim) (fun h=>(h.elim hj.1 hj.2).elim))⟩
  | true=>
   rw [Bool.or_eq_true,cn,cn] at hj
   obtain ⟨k2,w2,f1,f2,f3,f4⟩:=nc w hw (i:Int) (code.getD i default).A z (nb hx (by omega)) hb
   rw [cond_true,f1,ae]
   cases k2 with
   | false=>exact ⟨_,rfl,f2, .inl (f3 rfl)⟩
   | true=>
    obtain ⟨f4,f5⟩:=f4 rfl
    rw [hc] at f4
    exact ⟨_,rfl,f2, .inr (mk w2 f2 (fun h h'=>(hg'.elim h h').elim) (fun _=>⟨f4,f5⟩))⟩
theorem DA {p:aa} {code:List aq} {w:W} (hp:w.p=p) (hc:w.code=code) (hF:∀ j,j<p.Funcs.length→OkFn (p.Funcs.getD j default)) (hw:Lens w) {i:Nat} (hi:i<code.length) (hlen:code.length≤200) (hx:OkI (code.getD i default)) (hd:0≤dAt w i∧dAt w i≤16):
  ∃ w',cy w (i:Int)=some w'∧Ext w w'∧(w'.err≠0∨Good p code (dAt w') i):=by
 obtain ⟨u,hu,hu1⟩:=wm hx.op
 have hargs:0≤yt p (code.getD i default)∧yt p (code.getD i default)≤8:=by
  unfold yt
  cases h:(iEq (code.getD i default).Op 20&&iLt (code.getD i default).A (p.Funcs.length:Int)) with
  | false=>rw [cond_false];omega
  | true=>
   rw [Bool.and_eq_true,cn,cG] at h
   have h0:=nb hx (.inr (.inr h.1))
   have:=(hF (code.getD i default).A.toNat (by omega)).args
   rw [cond_true];exact this
 obtain ⟨v,hv,hv1⟩:=AW hx.op hargs (EX hx)
 have key:=AY hp hc hw hi hlen hx hd hv hv1 hu hu1
 unfold cy
 have hdn:nIn (i:Int) (w.depth.length:Int)=true:=aI ⟨by omega,by rw [hw.d,hc];omega⟩
 rw [hc,hp,au (aI ⟨by omega,by omega⟩),Int.toNat_natCast]
 unfold yt at hv
 cases h:(iEq (code.getD i default).Op 20&&iLt (code.getD i default).A (p.Funcs.length:Int)) with
 | true=>
  rw [h,cond_true] at hv
  rw [Bool.and_eq_true,cn,cG] at h
  have h0:=nb hx (.inr (.inr h.1))
  rw [cond_true,au (aI ⟨h0,h.2⟩),au hdn,hv,ae]
  exact key
 | false=>
  rw [h,cond_false] at hv
  rw [cond_false,au hdn,hv,ae]
  exact key
end LJ
end
section
namespace LJ
open Go Go.RowKit
set_option linter.unusedVariables false
set_option linter.unusedSimpArgs false
theorem Good.ext {p:aa} {code:List aq} {w w':W} {i:Nat} (h:Good p code (dAt w) i) (he:Ext w w') (hd:0≤dAt w i):Good p code (dAt w') i:=by
 obtain ⟨v,u,h1,h2,h3,h4,h5,h6,h7,h8,h9,h10⟩:=h.h
 have e:=(he.old i hd).1
 refine ⟨v,u,h1,h2,h3,h4,h5,h6,by omega,by omega,fun a b=>?_,fun a=>?_⟩
 ·obtain ⟨g1,g2⟩:=h9 a b
  exact ⟨g1,by rw [(he.old (i+1) (by omega)).1];omega⟩
 ·obtain ⟨g0,g1,g2⟩:=h10 a
  exact ⟨g0,g1,by rw [(he.old _ (by omega)).1];omega⟩
structure Inv (p:aa) (code:List aq) (w:W):Prop where
 ep:w.p=p
 ec:w.code=code
 lens:Lens w
 d0:dAt w 0=0
 rng:∀ i,i<code.length→dAt w i≤16
 nx:∀ i,i<code.length→nAt w i=true→0≤dAt w i
 good:∀ i,i<code.length→0≤dAt w i→nAt w i=false→w.err≠0∨Good p code (dAt w) i
def pend (w:W) (i:Nat):Bool:=decide (dAt w i<0)||nAt w i
def cnt (w:W) (n:Nat):Nat:=(List.range n).countP (pend w)
theorem uO {α:Type} {p q:α→Bool} :∀ (l:List α) (a:α),(∀ x∈l,q x=true→p x=true)→a∈l→p a=true→q a=false→l.countP q<l.countP p
 | [],a,h,ha,_,_=>by cases ha
 | x::l,a,h,ha,hp,hq=>by
  rw [List.countP_cons,List.countP_cons]
  have hm:l.countP q≤l.countP p:=List.countP_mono_left fun y hy=>h y (List.mem_cons_of_mem _ hy)
  by_cases e:a=x
  ·subst e
   rw [hp,hq]
   simp
   omega
  ·have hin:a∈l:=by
    rcases List.mem_cons.1 ha with h' | h'
    ·exact absurd h' e
    ·exact h'
   have ih:=uO l a (fun y hy=>h y (List.mem_cons_of_mem _ hy)) hin hp hq
   have hx:=h x (List.mem_cons_self ..)
   cases hqx:q x with
   | false=>simp;split <;> omega
   | true=>rw [hx hqx];omega
theorem B6 {p:aa} {code:List aq} {w:W} (hF:∀ j,j<p.Funcs.length→OkFn (p.Funcs.getD j default)) (hlen:code.length≤200) (hI:∀ j,j<code.length→OkI (code.getD j default)) (h:Inv p code w) {k:Nat} (hk:k<code.length) (hn:nAt w k=true):
  ∃ w',cy ⟨w.p,w.code,w.depth,w.next.set k false,w.at_,w.err⟩ (k:Int)=some w'∧Inv p code w'∧cnt w' code.length<cnt w code.length:=by
 have hkn:k<w.next.length:=by rw [h.lens.n,h.ec];exact hk
 have hN:∀ i,nAt (⟨w.p,w.code,w.depth,w.next.set k false,w.at_,w.err⟩:W) i=if i=k then false else nAt w i:=fun i=>uN _ _ _ hkn i
 have hD:∀ i,dAt (⟨w.p,w.code,w.depth,w.next.set k false,w.at_,w.err⟩:W) i=dAt w i:=fun i=>rfl
 have hE:(⟨w.p,w.code,w.depth,w.next.set k false,w.at_,w.err⟩:W).err=w.err:=rfl
 have hL:Lens (⟨w.p,w.code,w.depth,w.next.set k false,w.at_,w.err⟩:W):=⟨h.lens.d,by rw [List.length_set];exact h.lens.n⟩
 have hdk:=h.nx k hk hn
 have hdk2:=h.rng k hk
 obtain ⟨w',e1,e2,e3⟩:=DA (w:=⟨w.p,w.code,w.depth,w.next.set k false,w.at_,w.err⟩) h.ep h.ec hF hL hk hlen (hI k hk) ⟨hdk,hdk2⟩
 generalize hw0:(⟨w.p,w.code,w.depth,w.next.set k false,w.at_,w.err⟩:W)=w0 at*
 have hp0:w0.p=w.p:=by rw [←hw0]
 have hc0:w0.code=w.code:=by rw [←hw0]
 refine ⟨w',e1,⟨e2.p.trans (hp0.trans h.ep),e2.code.trans (hc0.trans h.ec),e2.lens hL,?_,fun i hi=>?_,fun i hi hni=>?_,fun i hi hdi hni=>?_⟩,?_⟩
 ·rw [(e2.old 0 (by rw [hD,h.d0];exact Int.le_refl _)).1,hD,h.d0]
 ·by_cases hd:0≤dAt w0 i
  ·rw [(e2.old i hd).1,hD];exact h.rng i hi
  ·rcases e2.new i (by omega) with ⟨a,_⟩ | ⟨_,a,_⟩
   ·omega
   ·exact a
 ·by_cases hd:0≤dAt w0 i
  ·rw [(e2.old i hd).1];exact hd
  ·rcases e2.new i (by omega) with ⟨_,b⟩ | ⟨a,_⟩
   ·rw [b,hN] at hni
    by_cases hik:i=k
    ·rw [if_pos hik] at hni;cases hni
    ·rw [if_neg hik] at hni
     have:=h.nx i hi hni
     rw [hD] at hd
     exact absurd this hd
   ·exact a
 ·by_cases hik:i=k
  ·rw [hik];exact e3
  ·by_cases hd:0≤dAt w0 i
   ·have hh:=(e2.old i hd).2
    rw [hni,hN,if_neg hik] at hh
    rcases h.good i hi (by rw [←hD];exact hd) hh.symm with a | a
    ·exact .inl (e2.err (by rw [hE];exact a))
    ·refine .inr (Good.ext (w:=w0) ?_ e2 hd)
     have:dAt w0=dAt w:=funext hD
     rw [this];exact a
   ·rcases e2.new i (by omega) with ⟨a,_⟩ | ⟨_,_,a⟩
    ·omega
    ·rw [a] at hni;cases hni
 ·refine uO (List.range code.length) k (fun i hi hpi=>?_) (List.mem_range.2 hk) ?_ ?_
  ·unfold pend at hpi ⊢
   by_cases hd:0≤dAt w0 i
   ·obtain ⟨a,b⟩:=e2.old i hd
    rw [a,b,hN] at hpi
    by_cases hik:i=k
    ·rw [hik,hn,Bool.or_true]
    ·rwa [if_neg hik,hD] at hpi
   ·rw [hD] at hd
    rw [decide_eq_true (by omega:dAt w i<0)];rfl
  ·unfold pend;rw [hn,Bool.or_true]
  ·unfold pend
   obtain ⟨a,b⟩:=e2.old k (by rw [hD];exact hdk)
   rw [a,b,hN,if_pos rfl,hD,decide_eq_false (by omega)];rfl
theorem xG (L:List Bool) (hL:L.length≤1000):∀ (n i f:Nat),i+n=L.length→n<f→∃ r,bm L true f (i:Int)=some r∧((r= -1∧∀ j,i≤j→j<L.length→L.getD j default=false)∨∃ k:Nat,k<L.length∧r=(k:Int)∧L.getD k default=true)
 | n,i,0,hi,hf=>by omega
 | 0,i,f+1,hi,hf=>by
  rw [bm,aW (by omega),cond_false]
  exact ⟨_,rfl, .inl ⟨rfl,fun j h1 h2=>by omega⟩⟩
 | n+1,i,f+1,hi,hf=>by
  rw [bm,aV (by omega),cond_true,au (aI ⟨by omega,by omega⟩),Int.toNat_natCast,w64 (by omega),show (i:Int)+1=((i+1:Nat):Int) by omega]
  cases hb:L.getD i default with
  | true=>exact ⟨_,rfl, .inr ⟨i,by omega,rfl,hb⟩⟩
  | false=>
   obtain ⟨r,h1,h2⟩:=xG L hL n (i+1) f (by omega) (by omega)
   refine ⟨r,h1,?_⟩
   rcases h2 with ⟨h3,h4⟩ | h3
   ·refine .inl ⟨h3,fun j h5 h6=>?_⟩
    rcases Nat.eq_or_lt_of_le h5 with rfl | h5
    ·exact hb
    ·exact h4 j h5 h6
   ·exact .inr h3
theorem ld (w:W) (hL:w.next.length≤1000):∃ r,bT w=some r∧((r= -1∧∀ j,j<w.next.length→nAt w j=false)∨∃ k:Nat,k<w.next.length∧r=(k:Int)∧nAt w k=true):=by
 obtain ⟨r,h1,h2⟩:=xG w.next hL w.next.length 0 fuel (by omega) (by have:=aJ;omega)
 refine ⟨r,?_,h2.imp (fun h=>⟨h.1,fun j hj=>h.2 j (Nat.zero_le _) hj⟩) id⟩
 unfold bT cN
 rw [show (0:Int)=((0:Nat):Int) from rfl,h1,ae]
structure OkL (p:aa) (code:List aq) (l:List Int):Prop where
 len:l.length=code.length
 d0:l.getD 0 default=0
 rng:∀ i,i<code.length→l.getD i default≤16
 good:∀ i,i<code.length→0≤l.getD i default→Good p code (fun j=>l.getD j default) i
def Res (p:aa) (code:List aq) (z:Option (List Int×Int×Int)):Prop:=∃ l a e,z=some (l,a,e)∧(e=0→OkL p code l)
theorem CQ {p:aa} {code:List aq} (hF:∀ j,j<p.Funcs.length→OkFn (p.Funcs.getD j default)) (hlen:code.length≤200) (hI:∀ j,j<code.length→OkI (code.getD j default)):∀ (m f:Nat) (w:W) (x:Int),cnt w code.length≤m→m<f→Inv p code w→bT w=some x→Res p code (dK f (x,w.p.Decls,w.p.Waits,w.p.Funcs,w.code,w.at_,w.err,w.depth,w.next))
 | m,0,w,x,hm,hf,hv,hx=>by omega
 | m,f+1,w,x,hm,hf,hv,hx=>by
  have hnl:w.next.length=code.length:=by rw [hv.lens.n,hv.ec]
  obtain ⟨r,h1,h2⟩:=ld w (by omega)
  obtain rfl:r=x:=Option.some.inj (h1.symm.trans hx)
  rw [dK]
  dsimp only
  rcases h2 with ⟨h3,h4⟩ | ⟨k,h3,h4,h5⟩
  ·rw [mM (by omega),cond_false]
   by_cases he:w.err=0
   ·rw [bG he,cond_false]
    refine ⟨_,_,_,rfl,fun _=>⟨by rw [hv.lens.d,hv.ec],hv.d0,hv.rng,fun i hi hd=>?_⟩⟩
    exact (hv.good i hi hd (h4 i (by omega))).resolve_left (fun h=>h he)
   ·rw [cm he,cond_true]
    exact ⟨_,_,_,rfl,fun h=>absurd h he⟩
  ·subst h4
   obtain ⟨w',g1,g2,g3⟩:=B6 hF hlen hI hv (by omega) h5
   obtain ⟨y,y1,_⟩:=ld w' (by rw [g2.lens.n,g2.ec];omega)
   rw [py (by omega),cond_true,au (aI ⟨by omega,by omega⟩),Int.toNat_natCast]
   rw [show (⟨(⟨w.p.Decls,w.p.Waits,w.p.Funcs⟩:aa),w.code,w.depth,w.next.set k false,w.at_,w.err⟩:aF)=⟨w.p,w.code,w.depth,w.next.set k false,w.at_,w.err⟩ from rfl,g1,ae,y1,ae]
   cases m with
   | zero=>omega
   | succ m=>exact CQ hF hlen hI m f w' y (by omega) (by omega) g2 y1
theorem wq {p:aa} {k:Int} {code:List aq} (hc:(p.Funcs.getD k.toNat default).Code=code) (hlen:code.length≤200) {P:Option (List Int×Int×Int)→Prop} (hK:∀ L:List Int,L.length=code.length→(∀ i,i<code.length→L.getD i default= -1)→P (cond (iEq (code.length:Int) 0) (some ([],0,3)) (need (nMk (code.length:Int) 1) ((aN (⟨p,code,L,List.replicate (code.length:Int).toNat (false:Bool),0,0⟩:aF) 0 0 0).bind fun (x10:Bool×aF)=>(bT x10.2).bind fun (x11:Int)=>dK fuel (x11,x10.2.p.Decls,x10.2.p.Waits,x10.2.p.Funcs,x10.2.code,x10.2.at_,x10.2.err,x10.2.depth,x10.2.next))))):∀ (n i f:Nat) (L:List Int),i+n=code.length→n<f→L.length=code.length→(∀ j,j<i→L.getD j default= -1)→P (eX p k f ((i:Int),L))
 | n,i,0,L,hi,hf,hl,hL=>by omega
 | 0,i,f+1,L,hi,hf,hl,hL=>by
  rw [eX,hc]
  dsimp only
  rw [List.length_map,List.length_replicate,Int.toNat_natCast,aW (by omega),cond_false]
  exact hK L hl fun j hj=>hL j (by omega)
 | n+1,i,f+1,L,hi,hf,hl,hL=>by
  rw [eX,hc]
  dsimp only
  rw [List.length_map,List.length_replicate,Int.toNat_natCast,aV (by omega),cond_true,au (aI ⟨by omega,by omega⟩),Int.toNat_natCast,w64 (by omega),show (i:Int)+1=((i+1:Nat):Int) by omega]
  refine wq hc hlen hK n (i+1) f _ (by omega) (by omega) (by rw [List.length_set];exact hl) fun j hj=>?_
  rw [uN _ _ _ (by omega)]
  by_cases h:j=i
  ·rw [if_pos h]
  ·rw [if_neg h];exact hL j (by omega)
theorem wt {p:aa} (hm:p.Funcs.length≤16) (hF:∀ j,j<p.Funcs.length→OkFn (p.Funcs.getD j default)) (k:Int):∃ l a e,jg p k=some (l,a,e)∧(e=0→0≤k∧k<p.Funcs.length∧OkL p (p.Funcs.getD k.toNat default).Code l):=by
 unfold jg
 by_cases hk:0≤k∧k<p.Funcs.length
 ·obtain ⟨h0,h1⟩:=hk
  have ok:=hF k.toNat (by omega)
  generalize hc:(p.Funcs.getD k.toNat default).Code=code
  have hlen:code.length≤200:=by rw [←hc];exact ok.most
  have hpos:1≤code.length:=by rw [←hc];exact ok.pos
  have hI:∀ j,j<code.length→OkI (code.getD j default):=by rw [←hc];exact ok.ins
  rw [aW h0,mM h1,Bool.or_self,cond_false,au (aI ⟨h0,h1⟩),au (rF ⟨by omega,by omega,by rw [Int.toNat_natCast];omega⟩),Int.toNat_natCast]
  have hz:Res p code (eX p k fuel (((0:Nat):Int),List.replicate code.length 0)):=by
   refine wq (P:=Res p code) hc hlen (fun L hl hL=>?_) code.length 0 fuel _ (by omega) (by have:=aJ;omega) (List.length_replicate ..) (fun j hj=>by omega)
   rw [aK (by omega),cond_false,au (rF ⟨by omega,by omega,by rw [Int.toNat_natCast];omega⟩),Int.toNat_natCast]
   have hN:∀ i,(List.replicate code.length false).getD i default=false:=fun i=>by
    rw [List.getD_eq_getElem?_getD,List.getElem?_replicate]
    split <;> rfl
   obtain ⟨b,w,e1,e2,e3,e4⟩:=nc (⟨p,code,L,List.replicate code.length false,0,0⟩:W) ⟨hl,List.length_replicate ..⟩ 0 0 0 (by decide) (by decide)
   generalize hw0:(⟨p,code,L,List.replicate code.length false,0,0⟩:W)=w0 at*
   have hD:∀ i,i<code.length→dAt w0 i= -1:=fun i hi=>by rw [←hw0];exact hL i hi
   have hN':∀ i,nAt w0 i=false:=fun i=>by rw [←hw0];exact hN i
   have hp0:w0.p=p:=by rw [←hw0]
   have hc0:w0.code=code:=by rw [←hw0]
   have hl0:Lens w0:=by rw [←hw0];exact ⟨hl,List.length_replicate ..⟩
   rw [e1,ae]
   dsimp only
   have hb:b=true:=by
    cases b with
    | true=>rfl
    | false=>
     exfalso
     have:=e3 rfl
     unfold aN at e1
     rw [hc0,mM (by omega),cond_false,au (aI ⟨by omega,by rw [hl0.d,hc0];omega⟩),show w0.depth.getD (0:Int).toNat default= -1 from hD 0 (by omega),aV (by decide),cond_true,au (aI ⟨by omega,by rw [hl0.d,hc0];omega⟩),au (aI ⟨by omega,by rw [hl0.n,hc0];omega⟩)] at e1
     cases e1
   have e5:=(e4 hb).2
   have hinv:Inv p code w:=by
    refine ⟨e2.p.trans hp0,e2.code.trans hc0,e2.lens hl0,e5,fun i hi=>?_,fun i hi hn=>?_,fun i hi hd hn=>?_⟩
    ·rcases e2.new i (by rw [hD i hi];decide) with ⟨a,_⟩ | ⟨_,a,_⟩
     ·rw [a,hD i hi];decide
     ·exact a
    ·rcases e2.new i (by rw [hD i hi];decide) with ⟨_,b⟩ | ⟨a,_⟩
     ·rw [b,hN'] at hn;cases hn
     ·exact a
    ·rcases e2.new i (by rw [hD i hi];decide) with ⟨a,_⟩ | ⟨_,_,a⟩
     ·rw [a,hD i hi] at hd;exact absurd hd (by decide)
     ·rw [a] at hn;cases hn
   obtain ⟨y,y1,_⟩:=ld w (by rw [hinv.lens.n,hinv.ec];omega)
   rw [y1,ae]
   refine CQ hF hlen hI (cnt w code.length) fuel w y (Nat.le_refl _) ?_ hinv y1
   have:cnt w code.length≤(List.range code.length).length:=List.countP_le_length
   rw [List.length_range] at this
   have:=aJ
   omega
  obtain ⟨l,a,e,h2,h3⟩:=hz
  exact ⟨l,a,e,h2,fun h=>⟨h0,h1,h3 h⟩⟩
 ·have:(iLt k 0||iLe (p.Funcs.length:Int) k)=true:=by rw [Bool.or_eq_true,cG,dB];omega
  rw [this,cond_true]
  exact ⟨_,_,_,rfl,fun h=>absurd h (by decide)⟩
end LJ
end
section
namespace LJ
open Go Go.RowKit
set_option linter.unusedVariables false
set_option linter.unusedSimpArgs false
def jM:List Int:=[0,0,1,2,2,2,2,2,1,2,2,2,2,2,2,2,1,1,0,1,0,1,0,0,1,0,0,1,1,0,1,1,0,1,0,0,0,0,0,1,2,0,1,2,1,0,1,0,0,1,0,0]
def B7:List Int:=[1,1,0,1,1,1,1,1,1,1,1,1,1,1,1,1,2,0,0,0,1,0,1,1,1,0,1,1,1,1,1,1,1,1,1,1,1,1,1,1,1,1,1,1,1,2,1,1,1,1,1,1]
def lX (x:aq) (a:Int):Int:=cond (iEq x.Op 20) a (cond (iEq x.Op 41||iEq x.Op 42) (jM.getD x.Op.toNat default+x.B) (jM.getD x.Op.toNat default))
def yu (k:Int):Int:=B7.getD k.toNat default
theorem okB {x:aq} (h:OkI x): -2147483648≤x.B∧x.B<2147483648:=by
 by_cases h0:(ct x.Op).size≤1
 ·rw [h.b0 h0];omega
 ·have:=jw (h.b1 (by omega));omega
theorem rU {x:aq} (h:OkI x) (hx:x.Op=18∨x.Op=19∨x.Op=20):0≤x.A:=by
 have key:0<(ct x.Op).size∧bc (ct x.Op) 0≠110:=by rcases hx with h | h | h <;> rw [h] <;> decide+kernel
 exact (jw (h.a1 key.1)).2.2 key.2
theorem En {x:aq} (h:OkI x) (hx:x.Op=41∨x.Op=42):1≤x.B∧x.B≤4:=by
 have key:1<(ct x.Op).size∧bc (ct x.Op) 1=106:=by rcases hx with h | h <;> rw [h] <;> decide+kernel
 have:=h.b1 key.1
 rw [key.2] at this
 unfold inL at this
 rw [aK (show (106:Int)≠110 by decide),aK (show (106:Int)≠107 by decide),aK (show (106:Int)≠116 by decide),aK (show (106:Int)≠102 by decide),aO rfl] at this
 simpa only [cond_true,cond_false,Bool.and_eq_true,dB] using this
theorem B8:iO=some jM:=rfl
theorem DB:kX=some B7:=rfl
theorem xH {x:aq} (h:OkI x) (a:Int):dm x a=some (lX x a):=by
 have hk:(iLe 0 x.Op&&iLe x.Op 51)=true:=by rw [Bool.and_eq_true,dB,dB];have:=h.op;omega
 have ho:=h.op
 have hb:=okB h
 have hin:nIn x.Op ((52:Nat):Int)=true:=aI ⟨by omega,by omega⟩
 have hT:0≤jM.getD x.Op.toNat default∧jM.getD x.Op.toNat default≤2:=by
  have key:∀ k:Fin 52,0≤jM.getD k default∧jM.getD k default≤2:=by decide+kernel
  exact key ⟨x.Op.toNat,by omega⟩
 unfold dm dQ lX
 rw [ae,hk,Bool.not_true,cond_false,B8]
 simp only [ae]
 rw [show (jM.length:Int)=((52:Nat):Int) from rfl,hin,au rfl,au rfl,w64 (by omega)]
 cases iEq x.Op 20 <;> cases (iEq x.Op 41||iEq x.Op 42) <;> rfl
theorem xI {k:Int} (h:0≤k∧k<52):dg k=some (yu k):=by
 unfold dg dQ
 rw [ae,show (iLe 0 k&&iLe k 51)=true by rw [Bool.and_eq_true,dB,dB];omega,Bool.not_true,cond_false,DB,ae,au (aI ⟨by omega,by show k<52;omega⟩)]
 rfl
theorem nf {k:Int} (h:0≤k∧k<52):0≤yu k∧yu k≤2:=by
 have key:∀ j:Fin 52,0≤B7.getD j default∧B7.getD j default≤2:=by decide+kernel
 exact key ⟨k.toNat,by omega⟩
theorem qf {x:aq} (h:OkI x) {a:Int} (ha:0≤a∧a≤8):0≤lX x a∧lX x a≤8∧(x.Op≠20→lX x a≤5):=by
 have ho:=h.op
 have hT:0≤jM.getD x.Op.toNat default∧jM.getD x.Op.toNat default≤2:=by
  have key:∀ k:Fin 52,0≤jM.getD k default∧jM.getD k default≤2:=by decide+kernel
  exact key ⟨x.Op.toNat,by omega⟩
 unfold lX
 by_cases h20:x.Op=20
 ·rw [aO h20,cond_true];omega
 ·rw [aK h20,cond_false]
  by_cases h4:x.Op=41∨x.Op=42
  ·have:=En h h4
   rw [show (iEq x.Op 41||iEq x.Op 42)=true by rw [Bool.or_eq_true,cn,cn];exact h4,cond_true]
   have h1:jM.getD x.Op.toNat default≤1:=by rcases h4 with e | e <;> rw [e] <;> decide
   omega
  ·rw [show (iEq x.Op 41||iEq x.Op 42)=false by rw [Bool.or_eq_false_iff,ij,ij];omega,cond_false]
   omega
def lY (p:aa) (x:aq):Int:=cond (iEq x.Op 20&&iLt x.A (p.Funcs.length:Int)) (p.Funcs.getD x.A.toNat default).Args 0
def behR (p:aa) (x:aq) (d:Int):Int:=d - lX x (lY p x)+yu x.Op
theorem qg {p:aa} (hp:OkP p) {x:aq} (hx:OkI x):0≤lY p x∧lY p x≤8:=by
 unfold lY
 cases h:(iEq x.Op 20&&iLt x.A (p.Funcs.length:Int)) with
 | true=>
  rw [Bool.and_eq_true,cn,cG] at h
  have h0:=rU hx (.inr (.inr h.1))
  exact (hp.fns x.A.toNat (by omega)).args
 | false=>rw [cond_false];omega
theorem yw {p:aa} (hp:OkP p) {x:aq} (hx:OkI x) {d:Int} (hd:0≤d∧d≤16):gS p x d=some (cond (iLt (d - lX x (lY p x)) 0) (-1) (behR p x d)):=by
 have ha:=qg hp hx
 have hv:=qf hx ha
 have hu:=nf hx.op
 have fin:∀ a,lY p x=a→(dm x a).bind (fun (x3:Int)=>cond (iLt (IntKind.i64.wrap (d - x3)) 0) (some (-1)) ((dg x.Op).bind fun (x5:Int)=>some (IntKind.i64.wrap ((IntKind.i64.wrap (d - x3))+x5))))=some (cond (iLt (d - lX x (lY p x)) 0) (-1) (behR p x d)):=fun a e=>by
  subst e
  rw [xH hx,ae,xI hx.op,ae,w64 (a:=d - lX x (lY p x)) (by omega),w64 (by omega),←aZ]
  rfl
 unfold gS
 cases h:(iEq x.Op 20&&iLt x.A (p.Funcs.length:Int)) with
 | true=>
  have h':=h
  rw [Bool.and_eq_true,cn,cG] at h
  have h0:=rU hx (.inr (.inr h.1))
  rw [cond_true,au (aI ⟨h0,h.2⟩)]
  exact fin _ (by unfold lY;rw [h',cond_true])
 | false=>
  rw [cond_false]
  exact fin _ (by unfold lY;rw [h,cond_false])
def qW (x:aq) (i:Int):List Int:=cond (iNe x.Op 18&&iNe x.Op 21) [i+1] []++cond (iEq x.Op 18||iEq x.Op 19) [x.A] []
theorem uP (x:aq) (i:Int):(qW x i).length≤2:=by
 unfold qW
 cases (iNe x.Op 18&&iNe x.Op 21) <;> cases (iEq x.Op 18||iEq x.Op 19) <;> simp
theorem B9 (x:aq) {i:Int} (h:0≤i∧i≤1000):jE x i=some (qW x i):=by
 unfold jE qW
 rw [w64 (by omega)]
 cases (iNe x.Op 18&&iNe x.Op 21) <;> cases (iEq x.Op 18||iEq x.Op 19) <;> rfl
theorem DC {x:aq} (hx:OkI x) {i:Int} (h:0≤i):∀ t∈qW x i,0≤t:=fun t ht=>by
 unfold qW at ht
 rcases List.mem_append.1 ht with h1 | h1
 ·cases hc:(iNe x.Op 18&&iNe x.Op 21) with
  | true=>rw [hc,cond_true,List.mem_singleton] at h1;omega
  | false=>rw [hc] at h1;cases h1
 ·cases hc:(iEq x.Op 18||iEq x.Op 19) with
  | true=>
   rw [hc,cond_true,List.mem_singleton] at h1
   rw [Bool.or_eq_true,cn,cn] at hc
   have:=rU hx (by omega)
   omega
  | false=>rw [hc] at h1;cases h1
theorem sS {α:Type} [Inhabited α] (L:List α) (k:Nat) (v:α) (hk:k<L.length) (i:Nat):(L.set k v).getD i default=if i=k then v else L.getD i default:=by
 by_cases h:i=k
 ·subst h
  rw [if_pos rfl,List.getD_eq_getElem?_getD,List.getElem?_set_self hk];rfl
 ·rw [if_neg h,List.getD_eq_getElem?_getD,List.getElem?_set_ne (fun e=>h e.symm),List.getD_eq_getElem?_getD]
theorem CR (code:List aq) (hc:code.length≤200) (d:Int) (hd:0≤d) (ws:List Int) (hw:∀ t∈ws,0≤t) (hl:ws.length≤2):∀ (n i f:Nat) (D:List Int),i+n=ws.length→n<f→D.length=code.length→
  ∃ e D',dH code d ws f ((i:Int),D)=some (e,D')∧D'.length=code.length∧(∀ j,0≤D.getD j default→D'.getD j default=D.getD j default)∧(∀ j,D'.getD j default=D.getD j default∨D'.getD j default=d)∧
   (e=0→∀ k,i≤k→k<ws.length→ws.getD k default<code.length∧D'.getD (ws.getD k default).toNat default=d)
 | n,i,0,D,hi,hf,hD=>by omega
 | 0,i,f+1,D,hi,hf,hD=>by
  rw [dH]
  dsimp only
  rw [aW (by omega),cond_false]
  exact ⟨0,D,rfl,hD,fun j _=>rfl,fun j=> .inl rfl,fun _ k h1 h2=>by omega⟩
 | n+1,i,f+1,D,hi,hf,hD=>by
  have ht:0≤ws.getD i default:=hw _ (by
   rw [List.getD_eq_getElem?_getD,List.getElem?_eq_getElem (by omega)]
   exact List.getElem_mem _)
  have hN:nIn (i:Int) (ws.length:Int)=true:=aI ⟨by omega,by omega⟩
  rw [dH]
  dsimp only
  rw [aV (by omega),cond_true,hN,au rfl,Int.toNat_natCast]
  by_cases h3:(code.length:Int)≤ws.getD i default
  ·rw [py h3,cond_true]
   exact ⟨3,D,rfl,hD,fun j _=>rfl,fun j=> .inl rfl,fun h=>by cases h⟩
  ·have hT:nIn (ws.getD i default) (D.length:Int)=true:=aI ⟨ht,by omega⟩
   rw [mM (by omega),cond_false,au rfl,hT,au rfl]
   have key:(0≤D.getD (ws.getD i default).toNat default→D.getD (ws.getD i default).toNat default=d)→∃ e D',dH code d ws f (IntKind.i64.wrap ((i:Int)+1),D.set (ws.getD i default).toNat d)=some (e,D')∧D'.length=code.length∧(∀ j,0≤D.getD j default→D'.getD j default=D.getD j default)∧(∀ j,D'.getD j default=D.getD j default∨D'.getD j default=d)∧
     (e=0→∀ k,i≤k→k<ws.length→ws.getD k default<code.length∧D'.getD (ws.getD k default).toNat default=d):=fun hq=>by
    have hset:=sS D (ws.getD i default).toNat d (by omega)
    obtain ⟨e,D',h1,h2,h4,h5,h6⟩:=CR code hc d hd ws hw hl n (i+1) f (D.set (ws.getD i default).toNat d) (by omega) (by omega) (by rw [List.length_set];exact hD)
    rw [w64 (by omega),show (i:Int)+1=((i+1:Nat):Int) by omega]
    refine ⟨e,D',h1,h2,fun j hj=>?_,fun j=>?_,fun h0 k hk hk'=>?_⟩
    ·have a:=h4 j
     rw [hset] at a
     by_cases c:j=(ws.getD i default).toNat
     ·rw [if_pos c] at a
      rw [a hd,c,hq (by rw [←c];exact hj)]
     ·rw [if_neg c] at a
      exact a hj
    ·have a:=h5 j
     rw [hset] at a
     by_cases c:j=(ws.getD i default).toNat
     ·rw [if_pos c] at a
      exact .inr (a.elim id id)
     ·rw [if_neg c] at a
      exact a
    ·rcases Nat.eq_or_lt_of_le hk with rfl | hk
     ·refine ⟨by omega,?_⟩
      have a:=h4 (ws.getD i default).toNat
      rw [hset,if_pos rfl] at a
      exact a hd
     ·exact h6 h0 k hk hk'
   by_cases h4:0≤D.getD (ws.getD i default).toNat default
   ·rw [py h4,cond_true,au rfl,au rfl]
    by_cases h5:D.getD (ws.getD i default).toNat default=d
    ·rw [bG h5,cond_false,au rfl,au rfl]
     exact key fun _=>h5
    ·rw [cm h5,cond_true]
     exact ⟨2,D,rfl,hD,fun j _=>rfl,fun j=> .inl rfl,fun h=>by cases h⟩
   ·rw [mM (by omega),cond_false,au rfl,au rfl]
    exact key fun h=>absurd h h4
structure uQ (p:aa) (code:List aq) (D:List Int) (i:Nat):Prop where
 takes:0≤D.getD i default - lX (code.getD i default) (lY p (code.getD i default))
 most:behR p (code.getD i default) (D.getD i default)≤16
 ways:∀ t∈qW (code.getD i default) (i:Int),t<code.length∧D.getD t.toNat default=behR p (code.getD i default) (D.getD i default)
theorem Ca {l:List Int} {t:Int} (h:t∈l):∃ k,k<l.length∧l.getD k default=t:=by
 obtain ⟨k,hk,e⟩:=List.getElem_of_mem h
 exact ⟨k,hk,by rw [List.getD_eq_getElem?_getD,List.getElem?_eq_getElem hk];exact e⟩
theorem DD {p:aa} (hp:OkP p) {code:List aq} (hc:code.length≤200) (hI:∀ j,j<code.length→OkI (code.getD j default)) {D:List Int} (hD:D.length=code.length) {i:Nat} (hi:i<code.length) (h0:0≤D.getD i default∧D.getD i default≤16):
  ∃ e D',jF p code D (i:Int)=some (e,D')∧D'.length=code.length∧(∀ j,0≤D.getD j default→D'.getD j default=D.getD j default)∧(∀ j,D'.getD j default=D.getD j default∨0≤D'.getD j default∧D'.getD j default≤16)∧(e=0→uQ p code D' i):=by
 have hx:=hI i hi
 have ha:=qg hp hx
 have hv:=qf hx ha
 have hu:=nf hx.op
 unfold jF
 rw [au (aI ⟨by omega,by omega⟩),au (aI ⟨by omega,by omega⟩),Int.toNat_natCast,yw hp hx h0,ae]
 by_cases h1:D.getD i default - lX (code.getD i default) (lY p (code.getD i default))<0
 ·rw [aV h1,cond_true,aV (by decide),cond_true]
  exact ⟨2,D,rfl,hD,fun j _=>rfl,fun j=> .inl rfl,fun h=>by cases h⟩
 ·have hb:0≤behR p (code.getD i default) (D.getD i default):=by unfold behR;omega
  rw [aW (a:=D.getD i default - lX (code.getD i default) (lY p (code.getD i default))) (by omega),cond_false,aW hb,cond_false]
  by_cases h2:16<behR p (code.getD i default) (D.getD i default)
  ·rw [aV h2,cond_true]
   exact ⟨4,D,rfl,hD,fun j _=>rfl,fun j=> .inl rfl,fun h=>by cases h⟩
  ·rw [aW (by omega),cond_false,au (aI ⟨by omega,by omega⟩),B9 _ (by omega),ae]
   obtain ⟨e,D',q1,q2,q3,q4,q5⟩:=CR code hc _ hb (qW (code.getD i default) (i:Int)) (DC hx (by omega)) (uP _ _) (qW (code.getD i default) (i:Int)).length 0 fuel D (by omega) (by have:=uP (code.getD i default) (i:Int);have:=aJ;omega) hD
   refine ⟨e,D',q1,q2,q3,fun j=>(q4 j).imp id fun h=>by omega,fun h=>⟨by rw [q3 i h0.1];omega,by rw [q3 i h0.1];omega,fun t ht=>?_⟩⟩
   obtain ⟨k,hk,e⟩:=Ca ht
   have:=q5 h k (Nat.zero_le _) hk
   rw [e] at this
   rw [q3 i h0.1]
   exact this
theorem uQ.ext {p:aa} {code:List aq} {D D':List Int} {i:Nat} (h:uQ p code D i) (hI:OkI (code.getD i default)) (hp:OkP p) (h0:0≤D.getD i default) (he:∀ j,0≤D.getD j default→D'.getD j default=D.getD j default):uQ p code D' i:=by
 have hb:0≤behR p (code.getD i default) (D.getD i default):=by
  have:=nf hI.op
  have:=h.takes
  unfold behR;omega
 refine ⟨by rw [he i h0];exact h.takes,by rw [he i h0];exact h.most,fun t ht=>?_⟩
 obtain ⟨h1,h2⟩:=h.ways t ht
 exact ⟨h1,by rw [he i h0,he t.toNat (by omega)];exact h2⟩
structure InvR (p:aa) (code:List aq) (s:Int×Int×List Int×List Bool):Prop where
 dl:s.2.2.1.length=code.length
 nl:s.2.2.2.length=code.length
 d0:s.2.2.1.getD 0 default=0
 rng:∀ j,s.2.2.1.getD j default≤16
 dn:∀ j,j<code.length→s.2.2.2.getD j default=true→0≤s.2.2.1.getD j default
 fb:s.2.1=0→s.1=code.length
 good:s.2.1=0→∀ j,j<code.length→s.2.2.2.getD j default=true→uQ p code s.2.2.1 j
structure OkR (p:aa) (code:List aq) (D:List Int):Prop where
 len:D.length=code.length
 d0:D.getD 0 default=0
 rng:∀ i,D.getD i default≤16
 good:∀ i,i<code.length→0≤D.getD i default→uQ p code D i
theorem CS {p:aa} {k:Int} {code:List aq} (hc:(p.Funcs.getD k.toNat default).Code=code) (hlen:code.length≤200) {s:Int×Int×List Int×List Bool} (hs:InvR p code s) {K:Int→Option (List Int×Int×Int)} {P:Option (List Int×Int×Int)→Prop} (hK:∀ i:Nat,i≤code.length→(i<code.length→s.2.2.2.getD i default=false∧0≤s.2.2.1.getD i default)→(i=code.length→∀ j,j<code.length→s.2.2.2.getD j default=true∨s.2.2.1.getD j default<0)→P (K (i:Int))):∀ (n i f:Nat),i+n=code.length→n<f→(∀ j,j<i→s.2.2.2.getD j default=true∨s.2.2.1.getD j default<0)→P (dI p k s K f (i:Int))
 | n,i,0,hi,hf,hj=>by omega
 | 0,i,f+1,hi,hf,hj=>by
  rw [dI,hc,aW (by omega),cond_false]
  exact hK i (by omega) (fun h=>by omega) fun h j hj'=>hj j (by omega)
 | n+1,i,f+1,hi,hf,hj=>by
  have hd:=hs.dl
  have hn:=hs.nl
  have next:(s.2.2.2.getD i default=true∨s.2.2.1.getD i default<0)→P (dI p k s K f (IntKind.i64.wrap ((i:Int)+1))):=fun h=>by
   rw [w64 (by omega),show (i:Int)+1=((i+1:Nat):Int) by omega]
   refine CS hc hlen hs hK n (i+1) f (by omega) (by omega) fun j hj'=>?_
   rcases Nat.lt_or_ge j i with h1 | h1
   ·exact hj j h1
   ·rw [show j=i by omega];exact h
  rw [dI,hc,aV (by omega),cond_true,au (aI ⟨by omega,by omega⟩),Int.toNat_natCast]
  cases hb:s.2.2.2.getD i default with
  | true=>exact next (.inl hb)
  | false=>
   rw [cond_false,au (aI ⟨by omega,by omega⟩)]
   by_cases h0:s.2.2.1.getD i default<0
   ·rw [aV h0,cond_true];exact next (.inr h0)
   ·rw [aW (by omega),cond_false]
    exact hK i (by omega) (fun _=>⟨hb,by omega⟩) fun h=>by omega
def left (L:List Bool) (n:Nat):Nat:=(List.range n).countP fun i=> !(L.getD i default)
theorem rV {p q:Nat→Bool} :∀ (l:List Nat) (a:Nat),(∀ x∈l,q x=true→p x=true)→a∈l→p a=true→q a=false→l.countP q<l.countP p
 | [],a,h,ha,hp,hq=>by cases ha
 | x::l,a,h,ha,hp,hq=>by
  have hx:=h x (List.mem_cons_self ..)
  have hle:l.countP q≤l.countP p:=List.countP_mono_left fun y hy=>h y (List.mem_cons_of_mem _ hy)
  rw [List.countP_cons,List.countP_cons]
  rcases List.mem_cons.1 ha with rfl | ha
  ·rw [if_pos hp,if_neg (by rw [hq];decide)];omega
  ·have ih:=rV l a (fun y hy=>h y (List.mem_cons_of_mem _ hy)) ha hp hq
   cases hqx:q x with
   | true=>rw [if_pos rfl,if_pos (hx hqx)];omega
   | false=>rw [if_neg (by decide)];split <;> omega
def ResR (p:aa) (code:List aq) (z:Option (List Int×Int×Int)):Prop:=∃ l a e,z=some (l,a,e)∧(e=0→OkR p code l)
theorem xJ {p:aa} (hp:OkP p) {k:Int} {code:List aq} (hc:(p.Funcs.getD k.toNat default).Code=code) (hlen:code.length≤200) (hI:∀ j,j<code.length→OkI (code.getD j default)) {K:Int×Int×List Int→Option (List Int×Int×Int)} (hK:∀ a b D,K (a,b,D)=cond (iNe b 0) (some ([],a,b)) (some (D,0,0))):∀ (m f:Nat) (s:Int×Int×List Int×List Bool),left s.2.2.2 code.length≤m→m<f→InvR p code s→ResR p code (ed p k K f s)
 | m,0,s,hm,hf,hs=>by omega
 | m,f+1,s,hm,hf,hs=>by
  rw [ed,dN]
  refine CS (P:=ResR p code) hc hlen hs (fun i hi h1 h2=>?_) code.length 0 fuel (by omega) (by have:=aJ;omega) fun j hj=>by omega
  rw [hc]
  have hd:=hs.dl
  have hn:=hs.nl
  by_cases hl:i=code.length
  ·rw [aO (by omega),cond_true,hK]
   by_cases hb:s.2.1=0
   ·rw [bG hb,cond_false]
    refine ⟨_,_,_,rfl,fun _=>⟨hs.dl,hs.d0,hs.rng,fun j hj h0=>?_⟩⟩
    rcases h2 hl j hj with h | h
    ·exact hs.good hb j hj h
    ·omega
   ·rw [cm hb,cond_true]
    exact ⟨_,_,_,rfl,fun h=>absurd h hb⟩
  ·obtain ⟨hb,h0⟩:=h1 (by omega)
   have hlt:i<code.length:=by omega
   rw [aK (by omega),cond_false]
   obtain ⟨e,D',q1,q2,q3,q4,q5⟩:=DD hp hlen hI hs.dl hlt ⟨h0,hs.rng i⟩
   rw [q1,ae,au (aI ⟨by omega,by omega⟩),Int.toNat_natCast]
   have hset:=sS s.2.2.2 i true (by omega)
   have hm':left (s.2.2.2.set i true) code.length≤m - 1∧0<m:=by
    have:left (s.2.2.2.set i true) code.length<left s.2.2.2 code.length:=by
     refine rV _ i (fun x _ hx=>?_) (List.mem_range.2 hlt) (by rw [hb];rfl) (by rw [hset,if_pos rfl];rfl)
     rw [hset] at hx
     by_cases c:x=i
     ·rw [if_pos c] at hx;cases hx
     ·rwa [if_neg c] at hx
    omega
   have inv:∀ a b,(b=0→a=(code.length:Int)∧s.2.1=0∧e=0)→InvR p code (a,b,D',s.2.2.2.set i true):=fun a b hab=>by
    refine ⟨q2,by rw [List.length_set];exact hn,by dsimp only;rw [q3 0 (by rw [hs.d0];decide),hs.d0],fun j=>?_,fun j hj hd'=>?_,fun h=>(hab h).1,fun h j hj hd'=>?_⟩
    ·have:=hs.rng j
     dsimp only
     rcases q4 j with h | h <;> omega
    ·dsimp only at hd' ⊢
     rw [hset] at hd'
     by_cases c:j=i
     ·rw [c,q3 i h0];exact h0
     ·rw [if_neg c] at hd'
      have:=hs.dn j hj hd'
      rw [q3 j this];exact this
    ·dsimp only at hd' ⊢
     rw [hset] at hd'
     by_cases c:j=i
     ·rw [c];exact q5 (hab h).2.2
     ·rw [if_neg c] at hd'
      have h3:=hs.dn j hj hd'
      exact (hs.good (hab h).2.1 j hj hd').ext (hI j hj) hp h3 q3
   by_cases he:e=0
   ·rw [bG he,Bool.false_and,cond_false]
    exact xJ hp hc hlen hI hK (m - 1) f _ hm'.1 (by omega) (inv _ _ fun h=>⟨hs.fb h,h,he⟩)
   ·rw [cm he,Bool.true_and]
    by_cases hfi:(i:Int)<s.1
    ·rw [aV hfi,cond_true]
     exact xJ hp hc hlen hI hK (m - 1) f _ hm'.1 (by omega) (inv _ _ fun h=>absurd h he)
    ·rw [aW (by omega),cond_false]
     exact xJ hp hc hlen hI hK (m - 1) f _ hm'.1 (by omega) (inv _ _ fun h=>by have:=hs.fb h;omega)
theorem Eo {p:aa} {k:Int} {code:List aq} (hc:(p.Funcs.getD k.toNat default).Code=code) (hlen:code.length≤200) {P:Option (List Int×Int×Int)→Prop} (hK:∀ D:List Int,D.length=code.length→D.getD 0 default=0→(∀ j,1≤j→j<code.length→D.getD j default= -1)→P (iJ (fun s9:Int×Int×(List Int)=>cond (iNe s9.2.1 0) (some ([],s9.1,s9.2.1)) (some (s9.2.2,0,0))) fun K8=>ed p k K8 fuel ((((p.Funcs.getD k.toNat default).Code).length:Int),0,D,List.replicate (((p.Funcs.getD k.toNat default).Code).length:Int).toNat (false:Bool)))):∀ (n i f:Nat) (D:List Int),i+n=code.length→n<f→1≤i→D.length=code.length→D.getD 0 default=0→(∀ j,1≤j→j<i→D.getD j default= -1)→P (eV p k f ((i:Int),D))
 | n,i,0,D,hi,hf,h1,hD,h0,hj=>by omega
 | 0,i,f+1,D,hi,hf,h1,hD,h0,hj=>by
  rw [eV]
  dsimp only
  rw [aW (by rw [hc];omega),cond_false]
  exact hK D hD h0 fun j h1 h2=>hj j h1 (by omega)
 | n+1,i,f+1,D,hi,hf,h1,hD,h0,hj=>by
  rw [eV]
  dsimp only
  rw [aV (by rw [hc];omega),cond_true,au (aI ⟨by omega,by omega⟩),w64 (by omega),show (i:Int)+1=((i+1:Nat):Int) by omega,Int.toNat_natCast]
  have hset:=sS D i (-1) (by omega)
  refine Eo hc hlen hK n (i+1) f _ (by omega) (by omega) (by omega) (by rw [List.length_set];exact hD) (by rw [hset,if_neg (by omega)];exact h0) fun j h2 h3=>?_
  rw [hset]
  by_cases c:j=i
  ·rw [if_pos c]
  ·rw [if_neg c];exact hj j h2 (by omega)
theorem xK {α:Type} [Inhabited α] (n:Nat) (a:α) (i:Nat) (h:i<n):(List.replicate n a).getD i default=a:=by
 rw [List.getD_eq_getElem?_getD,List.getElem?_replicate,if_pos h];rfl
theorem Ep {p:aa} (hp:OkP p) (k:Int):∃ l a e,kY p k=some (l,a,e)∧(e=0→0≤k∧k<p.Funcs.length∧OkR p (p.Funcs.getD k.toNat default).Code l):=by
 unfold kY
 by_cases hk:k<0∨(p.Funcs.length:Int)≤k
 ·rw [show (iLt k 0||iLe (p.Funcs.length:Int) k)=true by rw [Bool.or_eq_true,cG,dB];exact hk,cond_true]
  exact ⟨_,_,_,rfl,fun h=>by cases h⟩
 ·have hF:=hp.fns k.toNat (by omega)
  have hpos:=hF.pos
  have hmost:=hF.most
  rw [show (iLt k 0||iLe (p.Funcs.length:Int) k)=false by rw [Bool.or_eq_false_iff,bd,ik];omega,cond_false,au (aI ⟨by omega,by omega⟩),aK (by omega),cond_false]
  have hm8:nMk ((p.Funcs.getD k.toNat default).Code.length:Int) 8=true:=rF ⟨by omega,by omega,by omega⟩
  have hm1:nMk ((p.Funcs.getD k.toNat default).Code.length:Int) 1=true:=rF ⟨by omega,by omega,by omega⟩
  rw [au hm8,au hm1,Int.toNat_natCast]
  have main:ResR p (p.Funcs.getD k.toNat default).Code (eV p k fuel (((1:Nat):Int),List.replicate (p.Funcs.getD k.toNat default).Code.length (0:Int))):=by
   refine Eo (P:=ResR p _) rfl hmost (fun D hD h0 hj=>?_) ((p.Funcs.getD k.toNat default).Code.length - 1) 1 fuel _ (by omega) (by have:=aJ;omega) (by omega) (by rw [List.length_replicate]) (by rw [xK _ _ _ (by omega)]) fun j h1 h2=>by omega
   rw [dN,Int.toNat_natCast]
   have hfree:∀ j,j<(p.Funcs.getD k.toNat default).Code.length→(List.replicate (p.Funcs.getD k.toNat default).Code.length (false:Bool)).getD j default=false:=fun j hj=>xK _ _ _ hj
   refine xJ hp rfl hmost hF.ins (fun a b D=>rfl) (p.Funcs.getD k.toNat default).Code.length fuel _ ?_ (by have:=aJ;omega) ⟨hD,by rw [List.length_replicate],h0,fun j=>?_,fun j hj h=>?_,fun _=>rfl,fun _ j hj h=>?_⟩
   ·exact Nat.le_trans List.countP_le_length (by rw [List.length_range];exact Nat.le_refl _)
   ·dsimp only
    by_cases c:j=0
    ·rw [c,h0];decide
    ·by_cases c2:j<(p.Funcs.getD k.toNat default).Code.length
     ·rw [hj j (by omega) c2];decide
     ·rw [List.getD_eq_getElem?_getD,List.getElem?_eq_none (by omega)];decide
   ·dsimp only at h
    rw [hfree j hj] at h;cases h
   ·dsimp only at h
    rw [hfree j hj] at h;cases h
  obtain ⟨l,a,e,h1,h2⟩:=main
  exact ⟨l,a,e,h1,fun h=>⟨by omega,by omega,h2 h⟩⟩
end LJ
end
section
namespace LJ
open Go Go.RowKit
set_option linter.unusedVariables false
set_option linter.unusedSimpArgs false
def Tot3 (P:Prop) (z:Option (Int×Int×Int)):Prop:=∃ a b e,z=some (a,b,e)∧(e=0→P)
def Er (p:aa) (x:aq):Prop:=x.Op=20→x.A<p.Funcs.length
structure FnR (p:aa) (k:Nat):Prop where
 calls:∀ j,j<(p.Funcs.getD k default).Code.length→Er p ((p.Funcs.getD k default).Code.getD j default)
 depth:∃ D a,kY p (k:Int)=some (D,a,0)∧OkR p (p.Funcs.getD k default).Code D
structure Runs (p:aa):Prop where
 ok:OkP p
 fns:∀ j,j<p.Funcs.length→FnR p j
end LJ
end
section
namespace LJ
open Go Go.RowKit
set_option linter.unusedVariables false
set_option linter.unusedSimpArgs false
def Agr (w:W) (D:List Int):Prop:=∀ i,0≤dAt w i→dAt w i=D.getD i default
theorem lg {w:W} {D:List Int} (hw:Lens w) (a:Int) {to b:Int} (h0:0≤to) (h1:to<w.code.length) (hD:D.getD to.toNat default=b) (hb:0≤b) (ag:Agr w D):∃ w',aN w a to b=some (true,w')∧w'.err=w.err∧w'.p=w.p∧w'.code=w.code∧Lens w'∧Agr w' D∧(∀ i,0≤dAt w i→dAt w' i=dAt w i):=by
 unfold aN
 have hd:nIn to (w.depth.length:Int)=true:=aI ⟨h0,by rw [hw.d];exact h1⟩
 have hn:nIn to (w.next.length:Int)=true:=aI ⟨h0,by rw [hw.n];exact h1⟩
 have hd':to.toNat<w.depth.length:=by rw [hw.d];omega
 rw [mM (by omega),cond_false,au hd,au hd,au hn,au hd]
 by_cases hneg:w.depth.getD to.toNat default<0
 ·rw [aV hneg,cond_true]
  have hS:∀ i,dAt (⟨w.p,w.code,w.depth.set to.toNat b,w.next.set to.toNat true,w.at_,w.err⟩:W) i=if i=to.toNat then b else dAt w i:=fun i=>uN _ _ _ hd' i
  refine ⟨_,rfl,rfl,rfl,rfl,⟨by rw [List.length_set];exact hw.d,by rw [List.length_set];exact hw.n⟩,fun i hi=>?_,fun i hi=>?_⟩
  ·rw [hS] at hi ⊢
   by_cases c:i=to.toNat
   ·rw [if_pos c,c];exact hD.symm
   ·rw [if_neg c] at hi ⊢
    exact ag i hi
  ·rw [hS]
   by_cases c:i=to.toNat
   ·subst c
    exact absurd hneg (Int.not_lt.2 hi)
   ·rw [if_neg c]
 ·have:w.depth.getD to.toNat default=b:=(ag to.toNat (Int.not_lt.1 hneg)).trans hD
  rw [aW (Int.not_lt.1 hneg),cond_false,bG this,cond_false]
  exact ⟨_,rfl,rfl,rfl,rfl,hw,ag,fun i _=>rfl⟩
theorem qX {p:aa} {code:List aq} {w:W} {D:List Int} (hp:w.p=p) (hc:w.code=code) (hw:Lens w) {i:Nat} (hi:i<code.length) (hlen:code.length≤200) (hx:OkI (code.getD i default)) (hP:OkP p) (hd:dAt w i=D.getD i default) (h0:0≤dAt w i∧dAt w i≤16) (g:uQ p code D i) (ag:Agr w D) (he:w.err=0) {v u:Int} (hv:v=lX (code.getD i default) (lY p (code.getD i default))) (hu:cP (code.getD i default).Op=some u) (hu2:u=yu (code.getD i default).Op):
  ∃ w',(cond (iLt (IntKind.i64.wrap ((w.depth.getD i default) - v)) 0) ((bh w (i:Int) 2).bind fun (x5:aF)=>some x5) ((cP ((code.getD i default).Op)).bind fun (x6:Int)=>cond (iLt 16 (IntKind.i64.wrap ((IntKind.i64.wrap ((w.depth.getD i default) - v))+x6))) ((bh w (i:Int) 4).bind fun (x8:aF)=>some x8) ((kB ((code.getD i default).Op)).bind fun (x9:Bool)=>cond x9 ((aN w (i:Int) (IntKind.i64.wrap ((i:Int)+1)) (IntKind.i64.wrap ((IntKind.i64.wrap ((w.depth.getD i default) - v))+x6))).bind fun (x11:Bool×aF)=>cond (!x11.1) (some x11.2) (cond ((iEq ((code.getD i default).Op) 18)||(iEq ((code.getD i default).Op) 19)) ((aN x11.2 (i:Int) ((code.getD i default).A) (IntKind.i64.wrap ((IntKind.i64.wrap ((w.depth.getD i default) - v))+x6))).bind fun (x14:Bool×aF)=>some x14.2) (some x11.2))) (cond ((iEq ((code.getD i default).Op) 18)||(iEq ((code.getD i default).Op) 19)) ((aN w (i:Int) ((code.getD i default).A) (IntKind.i64.wrap ((IntKind.i64.wrap ((w.depth.getD i default) - v))+x6))).bind fun (x16:Bool×aF)=>some x16.2) (some w)))))=some w'∧w'.err=0∧Agr w' D:=by
 have hvr:=qf hx (qg hP hx)
 have hur:=nf hx.op
 rw [←hv] at hvr
 rw [←hu2] at hur
 have hd0:w.depth.getD i default=dAt w i:=rfl
 have gt:=g.takes
 have gm:=g.most
 have gw:=g.ways
 unfold behR at gm gw
 rw [←hv,←hd] at gt gm
 rw [←hv,←hu2,←hd] at gw
 rw [←hu2] at gm
 rw [hd0,w64 (a:=dAt w i - v) (by omega),aW (by omega),cond_false,hu,ae,w64 (by omega),aW (by omega),cond_false,AX hx.op,ae,w64 (by omega)]
 unfold qW at gw
 cases hg:(iNe (code.getD i default).Op 18&&iNe (code.getD i default).Op 21) with
 | true=>
  rw [hg,cond_true] at gw
  obtain ⟨q1,q2⟩:=gw ((i:Int)+1) (List.mem_append_left _ (List.mem_singleton.2 rfl))
  obtain ⟨w1,e1,e2,e3,e4,e5,e6,e7⟩:=lg hw (i:Int) (by omega) (by rw [hc];exact q1) q2 (by omega) ag
  rw [cond_true,e1,ae]
  dsimp only
  rw [Bool.not_true,cond_false]
  cases hj:(iEq (code.getD i default).Op 18||iEq (code.getD i default).Op 19) with
  | false=>exact ⟨_,rfl,by rw [e2,he],e6⟩
  | true=>
   rw [hj,cond_true] at gw
   obtain ⟨q3,q4⟩:=gw (code.getD i default).A (List.mem_append_right _ (List.mem_singleton.2 rfl))
   have hA:=rU hx (by rw [Bool.or_eq_true,cn,cn] at hj;omega)
   obtain ⟨w2,f1,f2,_,_,_,f6,_⟩:=lg e5 (i:Int) hA (by rw [e4,hc];exact q3) q4 (by omega) e6
   rw [cond_true,f1,ae]
   exact ⟨_,rfl,by rw [f2,e2,he],f6⟩
 | false=>
  rw [cond_false]
  cases hj:(iEq (code.getD i default).Op 18||iEq (code.getD i default).Op 19) with
  | false=>exact ⟨_,rfl,he,ag⟩
  | true=>
   rw [hj,cond_true] at gw
   obtain ⟨q3,q4⟩:=gw (code.getD i default).A (List.mem_append_right _ (List.mem_singleton.2 rfl))
   have hA:=rU hx (by rw [Bool.or_eq_true,cn,cn] at hj;omega)
   obtain ⟨w2,f1,f2,_,_,_,f6,_⟩:=lg hw (i:Int) hA (by rw [hc];exact q3) q4 (by omega) ag
   rw [cond_true,f1,ae]
   exact ⟨_,rfl,by rw [f2,he],f6⟩
theorem AZ {p:aa} {code:List aq} {w:W} {D:List Int} (hp:w.p=p) (hc:w.code=code) (hw:Lens w) {i:Nat} (hi:i<code.length) (hlen:code.length≤200) (hx:OkI (code.getD i default)) (hP:OkP p) (hd:dAt w i=D.getD i default) (h0:0≤dAt w i∧dAt w i≤16) (g:uQ p code D i) (ag:Agr w D) (he:w.err=0):∃ w',cy w (i:Int)=some w'∧w'.err=0∧Agr w' D:=by
 have hu:cP (code.getD i default).Op=some (yu (code.getD i default).Op):=by rw [AQ];exact xI hx.op
 have hb:=okB hx
 have hv:∀ a,fI (code.getD i default) a=some (lX (code.getD i default) a):=fun a=>by rw [Dx a (by omega)];exact xH hx a
 have key:=qX hp hc hw hi hlen hx hP hd h0 g ag he rfl hu rfl
 unfold cy
 have hdn:nIn (i:Int) (w.depth.length:Int)=true:=aI ⟨by omega,by rw [hw.d,hc];omega⟩
 rw [hc,hp,au (aI ⟨by omega,by omega⟩),Int.toNat_natCast]
 unfold lY at key
 cases h:(iEq (code.getD i default).Op 20&&iLt (code.getD i default).A (p.Funcs.length:Int)) with
 | true=>
  rw [h,cond_true] at key
  rw [Bool.and_eq_true,cn,cG] at h
  have h0:=rU hx (.inr (.inr h.1))
  rw [cond_true,au (aI ⟨h0,h.2⟩),au hdn,hv,ae]
  exact key
 | false=>
  rw [h,cond_false] at key
  rw [cond_false,au hdn,hv,ae]
  exact key
theorem A0 {p:aa} {code:List aq} {D:List Int} (hP:OkP p) (hlen:code.length≤200) (hI:∀ j,j<code.length→OkI (code.getD j default)) (hD:OkR p code D):∀ (m f:Nat) (w:W) (x:Int),cnt w code.length≤m→m<f→Inv p code w→Agr w D→w.err=0→bT w=some x→∃ l,dK f (x,w.p.Decls,w.p.Waits,w.p.Funcs,w.code,w.at_,w.err,w.depth,w.next)=some (l,0,0)
 | m,0,w,x,hm,hf,hv,ag,he,hx=>by omega
 | m,f+1,w,x,hm,hf,hv,ag,he,hx=>by
  have hnl:w.next.length=code.length:=by rw [hv.lens.n,hv.ec]
  obtain ⟨r,h1,h2⟩:=ld w (by omega)
  obtain rfl:r=x:=Option.some.inj (h1.symm.trans hx)
  rw [dK]
  dsimp only
  rcases h2 with ⟨h3,h4⟩ | ⟨k,h3,h4,h5⟩
  ·rw [mM (by omega),cond_false,bG he,cond_false]
   exact ⟨_,rfl⟩
  ·subst h4
   have hk:k<code.length:=by omega
   have h0:=hv.nx k hk h5
   have hr:=hv.rng k hk
   have e:=ag k h0
   obtain ⟨w',g1,g2,g3⟩:=B6 hP.fns hlen hI hv hk h5
   have hkn:k<w.next.length:=by omega
   obtain ⟨w2,q1,q2,q3⟩:=AZ (w:=⟨w.p,w.code,w.depth,w.next.set k false,w.at_,w.err⟩) (D:=D) hv.ep hv.ec ⟨hv.lens.d,by rw [List.length_set];exact hv.lens.n⟩ hk hlen (hI k hk) hP e ⟨h0,hr⟩ (hD.good k hk (by rw [←e];exact h0)) (fun i hi=>ag i hi) he
   obtain rfl:w'=w2:=Option.some.inj (g1.symm.trans q1)
   obtain ⟨y,y1,_⟩:=ld w' (by rw [g2.lens.n,g2.ec];omega)
   rw [py (by omega),cond_true,au (aI ⟨by omega,by omega⟩),Int.toNat_natCast]
   rw [show (⟨(⟨w.p.Decls,w.p.Waits,w.p.Funcs⟩:aa),w.code,w.depth,w.next.set k false,w.at_,w.err⟩:aF)=⟨w.p,w.code,w.depth,w.next.set k false,w.at_,w.err⟩ from rfl,g1,ae,y1,ae]
   cases m with
   | zero=>omega
   | succ m=>exact A0 hP hlen hI hD m f w' y (by omega) (by omega) g2 q3 q2 y1
theorem yx {p:aa} (hP:OkP p) {k:Nat} (hk:k<p.Funcs.length) {D:List Int} (hD:OkR p (p.Funcs.getD k default).Code D):∃ l,jg p (k:Int)=some (l,0,0):=by
 unfold jg
 have ok:=hP.fns k hk
 have hm:=hP.most
 generalize hc:(p.Funcs.getD k default).Code=code at hD
 have hlen:code.length≤200:=by rw [←hc];exact ok.most
 have hpos:1≤code.length:=by rw [←hc];exact ok.pos
 have hI:∀ j,j<code.length→OkI (code.getD j default):=by rw [←hc];exact ok.ins
 rw [aW (by omega),mM (by omega),Bool.or_self,cond_false,au (aI ⟨by omega,by omega⟩),Int.toNat_natCast,hc,au (rF ⟨by omega,by omega,by rw [Int.toNat_natCast];omega⟩),Int.toNat_natCast]
 refine wq (P:=fun z=>∃ l,z=some (l,0,0)) (k:=(k:Int)) (by rw [Int.toNat_natCast];exact hc) hlen (fun L hl hL=>?_) code.length 0 fuel _ (by omega) (by have:=aJ;omega) (List.length_replicate ..) (fun j hj=>by omega)
 rw [aK (by omega),cond_false,au (rF ⟨by omega,by omega,by rw [Int.toNat_natCast];omega⟩),Int.toNat_natCast]
 have hN:∀ i,(List.replicate code.length false).getD i default=false:=fun i=>by
  rw [List.getD_eq_getElem?_getD,List.getElem?_replicate]
  split <;> rfl
 obtain ⟨b,w,e1,e2,e3,e4⟩:=nc (⟨p,code,L,List.replicate code.length false,0,0⟩:W) ⟨hl,List.length_replicate ..⟩ 0 0 0 (by decide) (by decide)
 obtain ⟨w2,f1,f2,_,_,_,f6,_⟩:=lg (w:=(⟨p,code,L,List.replicate code.length false,0,0⟩:W)) (D:=D) ⟨hl,List.length_replicate ..⟩ 0 (to:=0) (b:=0) (by decide) (by show (0:Int)<code.length;omega) hD.d0 (by decide) (fun i hi=>by
  by_cases c:i<code.length
  ·have:dAt (⟨p,code,L,List.replicate code.length false,0,0⟩:W) i= -1:=hL i c
   rw [this] at hi
   exact absurd hi (by decide)
  ·show L.getD i default=D.getD i default
   rw [List.getD_eq_getElem?_getD,List.getElem?_eq_none (by omega),List.getD_eq_getElem?_getD,List.getElem?_eq_none (by have:=hD.len;omega)])
 have hbw:(b,w)=(true,w2):=Option.some.inj (e1.symm.trans f1)
 obtain ⟨rfl,rfl⟩:=Prod.mk.inj hbw
 rw [e1,ae]
 dsimp only
 have e5:=(e4 rfl).2
 have hinv:Inv p code w:=by
  refine ⟨e2.p,e2.code,e2.lens ⟨hl,List.length_replicate ..⟩,e5,fun i hi=>?_,fun i hi hn=>?_,fun i hi hd hn=>?_⟩
  ·rcases e2.new i (by show L.getD i default<0;rw [hL i hi];decide) with ⟨a,_⟩ | ⟨_,a,_⟩
   ·rw [a];show L.getD i default≤16;rw [hL i hi];decide
   ·exact a
  ·rcases e2.new i (by show L.getD i default<0;rw [hL i hi];decide) with ⟨_,b⟩ | ⟨a,_⟩
   ·rw [b] at hn
    have:nAt (⟨p,code,L,List.replicate code.length false,0,0⟩:W) i=false:=hN i
    rw [this] at hn;cases hn
   ·exact a
  ·rcases e2.new i (by show L.getD i default<0;rw [hL i hi];decide) with ⟨a,_⟩ | ⟨_,_,a⟩
   ·rw [a] at hd
    have:dAt (⟨p,code,L,List.replicate code.length false,0,0⟩:W) i= -1:=hL i hi
    rw [this] at hd
    exact absurd hd (by decide)
   ·rw [a] at hn;cases hn
 obtain ⟨y,y1,_⟩:=ld w (by rw [hinv.lens.n,hinv.ec];omega)
 rw [y1,ae]
 refine A0 hP hlen hI hD (cnt w code.length) fuel w y (Nat.le_refl _) ?_ hinv f6 (by rw [f2]) y1
 have:cnt w code.length≤(List.range code.length).length:=List.countP_le_length
 rw [List.length_range] at this
 have:=aJ
 omega
end LJ
end
section
namespace LJ
open Go Go.RowKit
set_option linter.unusedVariables false
set_option linter.unusedSimpArgs false
def opV (p:aa) (F:aw) (x:aq) (c n:Int):Int:=
 cond (iEq c 110) 0 (cond (iEq c 106) 0 (cond (iEq c 107) (cond (iLt n F.Locals) 0 1) (cond (iEq c 116) (cond (iLt n (F.Code.length:Int)) 0 1) (cond (iEq c 102) (cond (iLt n (p.Funcs.length:Int)&&(iNe x.Op 40||iEq (p.Funcs.getD n.toNat default).Args 1)) 0 1) (cond (iEq c 119) (cond (iLt n (p.Waits.length:Int)) 0 1) (cond (fitD p.Decls c n) 0 6))))))
theorem xL (a b:Int):iLe a b= !iLt b a:=by
 cases h:iLt b a with
 | true=>rw [cG] at h;exact mM h
 | false=>rw [bd] at h;exact py (by omega)
theorem wv (p:aa) (F:aw) (x:aq) (c n:Int) (hn:c=102→0≤n):fu p F x c n=some (opV p F x c n):=by
 unfold fu opV
 cases h1:iEq c 110 with
 | true=>rfl
 | false=>
 cases h2:iEq c 106 with
 | true=>rfl
 | false=>
 cases h3:iEq c 107 with
 | true=>cases iLt n F.Locals <;> rfl
 | false=>
 cases h4:iEq c 116 with
 | true=>cases iLt n (F.Code.length:Int) <;> rfl
 | false=>
 cases h5:iEq c 102 with
 | true=>
  have h0:=hn (cn.1 h5)
  simp only [cond_true,cond_false]
  cases h:iLt n (p.Funcs.length:Int) with
  | false=>rfl
  | true=>
   rw [aI ⟨h0,cG.1 h⟩,Bool.or_true,au rfl,Bool.true_and]
   cases (iNe x.Op 40||iEq (p.Funcs.getD n.toNat default).Args 1) <;> rfl
 | false=>
 cases h6:iEq c 119 with
 | true=>cases iLt n (p.Waits.length:Int) <;> rfl
 | false=>
  simp only [cond_false]
  rw [kE,ae]
  cases fitD p.Decls c n <;> rfl
theorem wx (p:aa) (F:aw) (x:aq) (c n:Int) (hn:c=102→0≤n):fV p F x c n=some (opV p F x c n):=by
 unfold fV je opV
 rw [lQ c 110,lQ c 107,lQ c 116,lQ c 102,lQ c 119,lQ c 106]
 by_cases h1:c=110
 ·subst h1;rfl
 by_cases h2:c=106
 ·subst h2;rfl
 by_cases h3:c=107
 ·subst h3
  rw [xL]
  cases iLt n F.Locals <;> rfl
 by_cases h4:c=116
 ·subst h4
  rw [xL (F.Code.length:Int)]
  cases iLt n (F.Code.length:Int) <;> rfl
 by_cases h6:c=119
 ·subst h6
  rw [xL (p.Waits.length:Int)]
  cases iLt n (p.Waits.length:Int) <;> rfl
 by_cases h5:c=102
 ·have h0:=hn h5
  subst h5
  rw [xL (p.Funcs.length:Int)]
  cases h:iLt n (p.Funcs.length:Int) with
  | false=>rfl
  | true=>
   rw [aI ⟨h0,cG.1 h⟩,Bool.or_true,au rfl,lQ x.Op 40,lQ _ 1]
   cases iEq x.Op 40 <;> cases iEq (p.Funcs.getD n.toNat default).Args 1 <;> rfl
 rw [aK h1,aK h2,aK h3,aK h4,aK h5,aK h6]
 simp only [Bool.false_and,Bool.or_self,cond_false,Bool.not_false,Bool.true_or,Bool.and_self,ae,cond_true]
 rw [au rfl,m4,ae,Bool.true_and]
 cases fitD p.Decls c n <;> rfl
def KO (p:aa) (F:aw) (x:aq):Prop:=∀ q:Nat,q<(ct x.Op).size→opV p F x (bc (ct x.Op) q) (([x.A,x.B]:List Int).getD q default)=0
theorem uR {x:aq} (hx:OkI x) {i:Nat} (h:i<(ct x.Op).size):bc (ct x.Op) i=102→0≤([x.A,x.B]:List Int).getD i default:=fun hb=>by
 have hf2:=dY x.Op
 have:i=0∨i=1:=by omega
 rcases this with rfl | rfl
 ·exact (jw (hx.a1 (by omega))).2.2 (by rw [hb];decide)
 ·exact (jw (hx.b1 (by omega))).2.2 (by rw [hb];decide)
theorem A2 (s:ByteArray) (i:Nat) (h:i<s.size):(jd s).getD i default=bc s i:=by
 have h':i<s.data.toList.length:=by simpa using h
 unfold jd bc
 rw [List.getD_eq_getElem?_getD,List.getElem?_map,List.getElem?_eq_getElem h']
 have e:s.get! i=s.data[i]'(by simpa using h'):=by
  show s.data[i]! =_
  exact getElem!_pos s.data i (by simpa using h')
 rw [e]
 simp
theorem CT {p:aa} {s t:Int} {F:aw} {x:aq} (hF:p.Funcs.getD s.toNat default=F) (hx0:F.Code.getD t.toNat default=x) (hx:OkI x) {K:Unit→Option (Int×Int)} {Pr:Option (Int×Int)→Prop} (hb:¬KO p F x→∀ e:Int,e≠0→Pr (some (t,e))) (hK:KO p F x→Pr (K ())):∀ (n i f:Nat),i+n=(ct x.Op).size→n<f→(∀ q,q<i→opV p F x (bc (ct x.Op) q) (([x.A,x.B]:List Int).getD q default)=0)→Pr (cq p s t K (ct x.Op) f (i:Int))
 | n,i,0,hi,hf,hc=>by omega
 | 0,i,f+1,hi,hf,hc=>by
  rw [cq,jB,aW (by omega),cond_false]
  exact hK fun q hq=>hc q (by omega)
 | n+1,i,f+1,hi,hf,hc=>by
  have hf2:=dY x.Op
  rw [cq,hF,hx0,jB,aV (by omega),cond_true,au (aI ⟨by omega,by omega⟩),au (aI ⟨by omega,by show (i:Int)<2;omega⟩),Int.toNat_natCast,A2 _ _ (by omega),wv _ _ _ _ _ (uR hx (by omega)),ae,w64 (by omega),show (i:Int)+1=((i+1:Nat):Int) by omega]
  by_cases h0:opV p F x (bc (ct x.Op) i) (([x.A,x.B]:List Int).getD i default)=0
  ·rw [bG h0,cond_false]
   refine CT hF hx0 hx hb hK n (i+1) f (by omega) (by omega) fun q hq=>?_
   rcases Nat.lt_or_ge q i with h | h
   ·exact hc q h
   ·rw [show q=i by omega];exact h0
  ·rw [cm h0,cond_true]
   exact hb (fun hko=>h0 (hko i (by omega))) _ h0
theorem yy (k:Int):j0 k=some (ct k):=lb k
theorem DE {p:aa} (hp:OkP p) {k:Nat} (hk:k<p.Funcs.length) {Pr:Option (Int×Int)→Prop} (hb:∀ j,j<(p.Funcs.getD k default).Code.length→¬KO p (p.Funcs.getD k default) ((p.Funcs.getD k default).Code.getD j default)→∀ t e:Int,e≠0→Pr (some (t,e))) (hK:(∀ j,j<(p.Funcs.getD k default).Code.length→KO p (p.Funcs.getD k default) ((p.Funcs.getD k default).Code.getD j default))→Pr ((jg p (k:Int)).bind fun (x16:List Int×Int×Int)=>some (x16.2.1,x16.2.2))):∀ (n i f:Nat),i+n=(p.Funcs.getD k default).Code.length→n<f→(∀ j,j<i→KO p (p.Funcs.getD k default) ((p.Funcs.getD k default).Code.getD j default))→Pr (cz p (k:Int) f (i:Int))
 | n,i,0,hi,hf,hc=>by omega
 | 0,i,f+1,hi,hf,hc=>by
  rw [cz,Int.toNat_natCast,aW (by omega),cond_false]
  exact hK fun j hj=>hc j (by omega)
 | n+1,i,f+1,hi,hf,hc=>by
  have hF:=hp.fns k hk
  have hm:=hF.most
  rw [cz,Int.toNat_natCast,aV (by omega),cond_true,dN,au (aI ⟨by omega,by omega⟩),Int.toNat_natCast,yy,ae]
  refine CT (Pr:=Pr) (F:=p.Funcs.getD k default) (x:=(p.Funcs.getD k default).Code.getD i default) rfl rfl (hF.ins i (by omega)) (fun h e he=>hb i (by omega) h _ e he) (fun hko=>?_) (ct ((p.Funcs.getD k default).Code.getD i default).Op).size 0 fuel (by omega) (by have:=dY ((p.Funcs.getD k default).Code.getD i default).Op;have:=aJ;omega) (fun q hq=>by omega)
  rw [w64 (by omega),show (i:Int)+1=((i+1:Nat):Int) by omega]
  refine DE hp hk hb hK n (i+1) f (by omega) (by omega) fun j hj=>?_
  rcases Nat.lt_or_ge j i with h | h
  ·exact hc j h
  ·rw [show j=i by omega];exact hko
def FnV (p:aa) (k:Nat):Prop:=∀ j,j<(p.Funcs.getD k default).Code.length→KO p (p.Funcs.getD k default) ((p.Funcs.getD k default).Code.getD j default)
theorem yz {p:aa} (hp:OkP p) {k:Nat} (hk:k<p.Funcs.length):∃ a e,dq p (k:Int)=some (a,e)∧(e=0→FnV p k):=by
 unfold dq
 have hm:=(hp.fns k hk).most
 rw [au (aI ⟨by omega,by omega⟩)]
 refine DE (Pr:=fun z=>∃ a e,z=some (a,e)∧(e=0→FnV p k)) hp hk (fun j hj h t e he=>⟨t,e,rfl,fun h0=>absurd h0 he⟩) (fun h=>?_) (p.Funcs.getD k default).Code.length 0 fuel (by omega) (by have:=aJ;omega) (fun j hj=>by omega)
 obtain ⟨l,a,e,h1,_⟩:=wt hp.most hp.fns (k:Int)
 rw [h1,ae]
 exact ⟨_,_,rfl,fun _=>h⟩
theorem wy {p:aa} (hp:OkP p) {k:Nat} (hk:k<p.Funcs.length) (hv:FnV p k) {D:List Int} (hD:OkR p (p.Funcs.getD k default).Code D):∃ a,dq p (k:Int)=some (a,0):=by
 unfold dq
 have hm:=(hp.fns k hk).most
 rw [au (aI ⟨by omega,by omega⟩)]
 refine DE (Pr:=fun z=>∃ a,z=some (a,0)) hp hk (fun j hj h t e he=>absurd (hv j hj) h) (fun h=>?_) (p.Funcs.getD k default).Code.length 0 fuel (by omega) (by have:=aJ;omega) (fun j hj=>by omega)
 obtain ⟨l,h1⟩:=yx hp hk hD
 rw [h1,ae]
 exact ⟨_,rfl⟩
theorem rX {p:aa} (hp:OkP p):∀ (n i f:Nat),i+n=p.Funcs.length→n<f→(∀ j,j<i→FnV p j)→∃ w e,bO p f (i:Int)=some (w,e)∧(e=0→∀ j,j<p.Funcs.length→FnV p j)
 | n,i,0,hi,hf,hc=>by omega
 | 0,i,f+1,hi,hf,hc=>by
  rw [bO,aW (by omega),cond_false]
  exact ⟨_,_,rfl,fun _ j hj=>hc j (by omega)⟩
 | n+1,i,f+1,hi,hf,hc=>by
  have hm:=hp.most
  obtain ⟨a,e,h1,h2⟩:=yz hp (k:=i) (by omega)
  rw [bO,aV (by omega),cond_true,h1,ae]
  by_cases h0:e=0
  ·rw [bG h0,cond_false,w64 (by omega),show (i:Int)+1=((i+1:Nat):Int) by omega]
   refine rX hp n (i+1) f (by omega) (by omega) fun j hj=>?_
   rcases Nat.lt_or_ge j i with h | h
   ·exact hc j h
   ·rw [show j=i by omega];exact h2 h0
  ·rw [cm h0,cond_true]
   exact ⟨_,_,rfl,fun h=>absurd h h0⟩
theorem qh {p:aa} (hp:OkP p) (hv:∀ j,j<p.Funcs.length→FnV p j∧∃ D,OkR p (p.Funcs.getD j default).Code D):∀ (n i f:Nat),i+n=p.Funcs.length→n<f→bO p f (i:Int)=some (⟨0,0⟩,0)
 | n,i,0,hi,hf=>by omega
 | 0,i,f+1,hi,hf=>by
  rw [bO,aW (by omega),cond_false]
 | n+1,i,f+1,hi,hf=>by
  have hm:=hp.most
  obtain ⟨g1,D,g2⟩:=hv i (by omega)
  obtain ⟨a,h1⟩:=wy hp (k:=i) (by omega) g1 g2
  rw [bO,aV (by omega),cond_true,h1,ae,bG rfl,cond_false,w64 (by omega),show (i:Int)+1=((i+1:Nat):Int) by omega]
  exact qh hp hv n (i+1) f (by omega) (by omega)
theorem CU {p:aa} (h:chkP p=0):OkP p:=by
 obtain ⟨e,h1,h2⟩:=B5 p
 rw [lC] at h1
 exact h2 ((Option.some.inj h1).symm.trans h)
theorem DF (p:aa):∃ w e,cO p=some (w,e)∧(e=0→OkP p∧∀ j,j<p.Funcs.length→FnV p j):=by
 unfold cO
 rw [ir,ae]
 by_cases h0:chkP p=0
 ·have hp:=CU h0
  have hl:=hp.pos
  have hm:=hp.most
  rw [bG h0,cond_false,au (aI ⟨by decide,by omega⟩)]
  cases iLt 0 (p.Funcs.getD (0:Int).toNat default).Args with
  | true=>exact ⟨_,1,rfl,fun h=>by cases h⟩
  | false=>
   rw [cond_false]
   obtain ⟨w,e,h1,h2⟩:=rX hp p.Funcs.length 0 fuel (by omega) (by have:=aJ;omega) (fun j hj=>by omega)
   exact ⟨w,e,h1,fun h=>⟨hp,h2 h⟩⟩
 ·rw [cm h0,cond_true]
  exact ⟨_,_,rfl,fun h=>absurd h h0⟩
structure FnG (p:aa) (k:Nat):Prop where
 v:FnV p k
 d:∃ D,OkR p (p.Funcs.getD k default).Code D
theorem xM {p:aa} {s t:Int} {F:aw} {x:aq} (hF:p.Funcs.getD s.toNat default=F) (hx0:F.Code.getD t.toNat default=x) (hx:OkI x) {K:Unit→Option (Int×Int×Int)} {P:Prop} (hK:KO p F x→Tot3 P (K ())):∀ (n i f:Nat),i+n=(ct x.Op).size→n<f→(∀ q,q<i→opV p F x (bc (ct x.Op) q) (([x.A,x.B]:List Int).getD q default)=0)→Tot3 P (cJ p s t (ct x.Op) K f (i:Int))
 | n,i,0,hi,hf,hc=>by omega
 | 0,i,f+1,hi,hf,hc=>by
  rw [cJ,aW (by omega),cond_false]
  exact hK fun q hq=>hc q (by omega)
 | n+1,i,f+1,hi,hf,hc=>by
  have hf2:=dY x.Op
  have h2:nIn (i:Int) (([x.A,x.B]:List Int).length:Int)=true:=aI ⟨by omega,by simp only [List.length_cons,List.length_nil];omega⟩
  rw [cJ,hF,hx0,aV (by omega),cond_true,au (aI ⟨by omega,by omega⟩),au h2,Int.toNat_natCast,wx _ _ _ _ _ (uR hx (by omega)),ae,w64 (by omega),show (i:Int)+1=((i+1:Nat):Int) by omega]
  by_cases h0:opV p F x (bc (ct x.Op) i) (([x.A,x.B]:List Int).getD i default)=0
  ·rw [bG h0,cond_false]
   refine xM hF hx0 hx hK n (i+1) f (by omega) (by omega) fun q hq=>?_
   rcases Nat.lt_or_ge q i with h | h
   ·exact hc q h
   ·rw [show q=i by omega];exact h0
  ·rw [cm h0,cond_true]
   exact ⟨_,_,_,rfl,fun h=>absurd h h0⟩
theorem xN {p:aa} (hp:OkP p) {k:Nat} (hk:k<p.Funcs.length) {K:Unit→Option (Int×Int×Int)} {P:Prop} (hK:FnG p k→Tot3 P (K ())):∀ (n i f:Nat),i+n=(p.Funcs.getD k default).Code.length→n<f→(∀ j,j<i→KO p (p.Funcs.getD k default) ((p.Funcs.getD k default).Code.getD j default))→Tot3 P (cK p (k:Int) K f (i:Int))
 | n,i,0,hi,hf,hc=>by omega
 | 0,i,f+1,hi,hf,hc=>by
  rw [cK,Int.toNat_natCast,aW (by omega),cond_false]
  obtain ⟨l,a,e,h1,h2⟩:=Ep hp (k:Int)
  rw [h1,ae]
  by_cases h0:e=0
  ·rw [bG h0,cond_false]
   have:=(h2 h0).2.2
   rw [Int.toNat_natCast] at this
   exact hK ⟨fun j hj=>hc j (by omega),l,this⟩
  ·rw [cm h0,cond_true]
   exact ⟨_,_,_,rfl,fun h=>absurd h h0⟩
 | n+1,i,f+1,hi,hf,hc=>by
  have hF:=hp.fns k hk
  have hm:=hF.most
  rw [cK,Int.toNat_natCast,aV (by omega),cond_true,dN,au (aI ⟨by omega,by omega⟩),Int.toNat_natCast,m6,ae]
  refine xM (F:=p.Funcs.getD k default) (x:=(p.Funcs.getD k default).Code.getD i default) rfl rfl (hF.ins i (by omega)) (fun hko=>?_) (ct ((p.Funcs.getD k default).Code.getD i default).Op).size 0 fuel (by omega) (by have:=dY ((p.Funcs.getD k default).Code.getD i default).Op;have:=aJ;omega) (fun q hq=>by omega)
  rw [w64 (by omega),show (i:Int)+1=((i+1:Nat):Int) by omega]
  refine xN hp hk hK n (i+1) f (by omega) (by omega) fun j hj=>?_
  rcases Nat.lt_or_ge j i with h | h
  ·exact hc j h
  ·rw [show j=i by omega];exact hko
theorem A3 {p:aa} (hp:OkP p):∀ (n i f:Nat),i+n=p.Funcs.length→n<f→(∀ j,j<i→FnG p j)→Tot3 (∀ j,j<p.Funcs.length→FnG p j) (cZ p f (i:Int))
 | n,i,0,hi,hf,hc=>by omega
 | 0,i,f+1,hi,hf,hc=>by
  rw [cZ,aW (by omega),cond_false]
  exact ⟨_,_,_,rfl,fun _ j hj=>hc j (by omega)⟩
 | n+1,i,f+1,hi,hf,hc=>by
  have hm:=hp.most
  rw [cZ,aV (by omega),cond_true,dN,au (aI ⟨by omega,by omega⟩)]
  refine xN hp (k:=i) (by omega) (fun h=>?_) (p.Funcs.getD i default).Code.length 0 fuel (by omega) (by have:=(hp.fns i (by omega)).most;have:=aJ;omega) fun j hj=>by omega
  rw [w64 (by omega),show (i:Int)+1=((i+1:Nat):Int) by omega]
  refine A3 hp n (i+1) f (by omega) (by omega) fun j hj=>?_
  rcases Nat.lt_or_ge j i with h1 | h1
  ·exact hc j h1
  ·rw [show j=i by omega];exact h
end LJ
end
