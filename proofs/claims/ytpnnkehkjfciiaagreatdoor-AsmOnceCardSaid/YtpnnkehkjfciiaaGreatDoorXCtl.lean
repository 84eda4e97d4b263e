/- A logic for the walks: control, calls, contracts. -/
import Derived.Test.YtpnnkehkjfciiaaGreatDoorXCore
namespace LJ
open Go Go.RowKit
set_option linter.unusedVariables false
set_option linter.unusedSimpArgs false
def lift (c:Ctx) (Q:Exit→Env→Mem→Prop):Exit→Act→World→Prop:=fun e a w=>∃ E m,Q e E m∧Rel c E m a w
def WC (c:Ctx) (P:Program) (C:Code) (Q:Exit→Env→Mem→Prop) (E:Env) (m:Mem):Prop:=∀ a w,Rel c E m a w→C.wp P (lift c Q) a w
def WL (c:Ctx) (P:Program) (ops:Array Oper) (Q:Exit→Env→Mem→Prop) (l:List Oper) (E:Env) (m:Mem):Prop:=∀ a w,Rel c E m a w→wpList P ops (lift c Q) l a w
def kr (K:Env→Mem→Prop) (Q:Exit→Env→Mem→Prop):Exit→Env→Mem→Prop
 | .normal,E,m=>K E m
 | e,E,m=>Q e E m
def qH (id:Nat) (Q:Exit→Env→Mem→Prop):Exit→Env→Mem→Prop
 | .exit id',E,m=>cond (Nat.beq id' id) (Q .normal E m) (Q (.exit id') E m)
 | e,E,m=>Q e E m
section
variable {c:Ctx} {P:Program} {Q:Exit→Env→Mem→Prop} {E:Env} {m:Mem}
theorem WC.skip (h:Q .normal E m):WC c P .skip Q E m:=fun a w hr=>wp_skip ⟨E,m,h,hr⟩
theorem WC.ret (h:Q .ret E m):WC c P .ret Q E m:=fun a w hr=>wp_ret ⟨E,m,h,hr⟩
theorem WC.exit {id:Nat} (h:Q (.exit id) E m):WC c P (.exit id) Q E m:=fun a w hr=>wp_exit ⟨E,m,h,hr⟩
theorem WC.cut {x y:Code} (K:Env→Mem→Prop) (h:WC c P x (kr K Q) E m) (hk:∀ E m,K E m→WC c P y Q E m):WC c P (.seq x y) Q E m:=fun a w hr=>by
 refine wp_seq (wp_mono (h a w hr) ?_)
 rintro e a' w' ⟨E',m',hq,hr'⟩
 cases e with
 | normal=>exact hk E' m' hq a' w' hr'
 | exit id=>exact ⟨E',m',hq,hr'⟩
 | goto l=>exact ⟨E',m',hq,hr'⟩
 | ret=>exact ⟨E',m',hq,hr'⟩
 | panic ch=>exact ⟨E',m',hq,hr'⟩
 | outgrown=>exact ⟨E',m',hq,hr'⟩
theorem WC.seq {x y:Code} (h:WC c P x (kr (WC c P y Q) Q) E m):WC c P (.seq x y) Q E m:=WC.cut _ h (fun _ _ h=>h)
theorem WC.block {id:Nat} {x:Code} (h:WC c P x (qH id Q) E m):WC c P (.block id x) Q E m:=fun a w hr=>by
 refine wp_block (wp_mono (h a w hr) ?_)
 rintro e a' w' ⟨E',m',hq,hr'⟩
 cases e with
 | exit id'=>
  simp only [Exit.inBlock]
  by_cases hid:id'=id
  ·subst hid
   have hq':cond (Nat.beq id' id') (Q .normal E' m') (Q (.exit id') E' m'):=hq
   rw [Nat.beq_refl id'] at hq'
   rw [if_pos rfl]
   exact ⟨E',m',hq',hr'⟩
  ·have hq':cond (Nat.beq id' id) (Q .normal E' m') (Q (.exit id') E' m'):=hq
   have:Nat.beq id' id=false:=by
    cases h:Nat.beq id' id with
    | false=>rfl
    | true=>exact absurd (Nat.eq_of_beq_eq_true h) hid
   rw [this] at hq'
   rw [if_neg hid]
   exact ⟨E',m',hq',hr'⟩
 | normal=>exact ⟨E',m',hq,hr'⟩
 | goto l=>exact ⟨E',m',hq,hr'⟩
 | ret=>exact ⟨E',m',hq,hr'⟩
 | panic ch=>exact ⟨E',m',hq,hr'⟩
 | outgrown=>exact ⟨E',m',hq,hr'⟩
def Less (E:Env) (m:Mem) (E':Env) (m':Mem):Prop:=(∀ t,E'.get t= .und∨E'.get t=E.get t)∧∀ n o,m'.get n=some o→m.get n=some o
theorem Less.rel {E':Env} {m':Mem} (h:Less E m E' m') {a:Act} {w:World} (hr:Rel c E m a w):Rel c E' m' a w:=by
 obtain ⟨h1,h2,F,N,hm,he⟩:=hr
 refine ⟨h1,h2,F,N,⟨hm.F0,hm.Fnew,hm.Fin,hm.os,hm.tape,hm.output,hm.size,hm.kept,fun n o hn=>hm.obj n o (h.2 n o hn),fun n o b hn=>hm.free n o b (h.2 n o hn),fun n n' o o' b hn hn'=>hm.apart n n' o o' b (h.2 n o hn) (h.2 n' o' hn'),hm.named,hm.agree,fun n o b hn=>hm.knames n o b (h.2 n o hn),hm.ksize⟩,⟨fun t=>?_,he.glob⟩⟩
 rcases h.1 t with ht | ht
 ·rw [ht];exact .und
 ·rw [ht];exact he t
theorem WC.less {C:Code} {E':Env} {m':Mem} (hl:Less E m E' m') (h:WC c P C Q E' m'):WC c P C Q E m:=fun a w hr=>h a w (hl.rel hr)
theorem WC.cond {x:Nat} {C D:Code} {b:Bool} (hx:E.get x= .d (.bool b)) (ht:b=true→WC c P C Q E m) (hf:b=false→WC c P D Q E m):WC c P (.cond (.tmp x) C D) Q E m:=fun a w hr=>by
 have hv:a.eval (.tmp x)= .bool b:=by
  obtain ⟨_,_,F,N,_,he⟩:=hr
  have:=he x
  rw [hx] at this
  exact this.d_inv.bool_inv
 refine wp_cond_split hv (fun h=>ht h a w hr) (fun h=>hf h a w hr)
theorem sr (p:Nat→Prop) (h:∃ n,p n):∃ n,p n∧∀ k,p k→n≤k:=by
 classical
 obtain ⟨n,hn⟩:=h
 induction n using Nat.strongRecOn with
 | _ n ih=>
  by_cases h:∃ k,k<n∧p k
  ·obtain ⟨k,hk,hp⟩:=h
   exact ih k hk hp
  ·exact ⟨n,hn,fun k hk=>Nat.le_of_not_lt fun hlt=>h ⟨k,hlt,hk⟩⟩
theorem WC.loop {ι:Type} {C:Code} (EI:ι→Env) (mI:ι→Mem) (μ:ι→Nat) (x0:ι) (h0:Less E m (EI x0) (mI x0))
  (round:∀ x,WC c P C (kr (fun E' m'=>∃ y,μ y<μ x∧Less E' m' (EI y) (mI y)) Q) (EI x) (mI x)):WC c P (.loop C) Q E m:=fun a w hr=>by
 classical
 let I:Act→World→Prop:=fun a w=>∃ x,Rel c (EI x) (mI x) a w
 let R:Act→World→Nat→Prop:=fun a w k=>∃ x,μ x=k∧Rel c (EI x) (mI x) a w
 let M:Act→World→Nat:=fun a w=>if h:∃ k,R a w k then Classical.choose (sr _ h) else 0
 refine wp_loop I M ⟨x0,h0.rel hr⟩ ?_
 rintro a w ⟨x1,hx1⟩
 have hex:∃ k,R a w k:=⟨μ x1,x1,rfl,hx1⟩
 obtain ⟨x,hxk,hx⟩:=(Classical.choose_spec (sr _ hex)).1
 refine wp_mono (round x a w hx) ?_
 rintro e a' w' ⟨E',m',hq,hr'⟩
 cases e with
 | normal=>
  obtain ⟨y,hy,hl⟩:=hq
  have hr2:=hl.rel hr'
  refine ⟨⟨y,hr2⟩,?_⟩
  have hex':∃ k,R a' w' k:=⟨μ y,y,rfl,hr2⟩
  show (if h:∃ k,R a' w' k then Classical.choose (sr _ h) else 0)<(if h:∃ k,R a w k then Classical.choose (sr _ h) else 0)
  rw [dif_pos hex',dif_pos hex]
  exact Nat.lt_of_le_of_lt ((Classical.choose_spec (sr _ hex')).2 _ ⟨y,rfl,hr2⟩) (by rw [←hxk];exact hy)
 | exit id=>exact ⟨E',m',hq,hr'⟩
 | goto l=>exact ⟨E',m',hq,hr'⟩
 | ret=>exact ⟨E',m',hq,hr'⟩
 | panic ch=>exact ⟨E',m',hq,hr'⟩
 | outgrown=>exact ⟨E',m',hq,hr'⟩
theorem WC.region {id:Nat} {l:List Oper} (h:WL c P l.toArray Q l E m):WC c P (.region id l.toArray false) Q E m:=fun a w hr=>wp_region_lit (h a w hr)
theorem WL.nil {ops:Array Oper} (h:Q .normal E m):WL c P ops Q [] E m:=fun _ _ hr=>wpList_nil ⟨E,m,h,hr⟩
theorem WL.less {ops:Array Oper} {l:List Oper} {E':Env} {m':Mem} (hl:Less E m E' m') (h:WL c P ops Q l E' m'):WL c P ops Q l E m:=fun a w hr=>h a w (hl.rel hr)
end
def aF (P:Program) (o:Oper) (E:Env) (m:Mem) (p:AV):Prop:=
 ∀ (c:Ctx) (F:Nat→Prop) (N:aI) (w:World) (a:Act),bX c F N w m→cg F N w a E→
  ∃ v,Rep F N w v p∧∀ w',(∀ b,F b→w'.heap[b]? =w.heap[b]?)→(∀ n x b,m.get n=some x→blk N n x=some b→w'.heap[b]? =w.heap[b]?)→(execOp a.eval o).run P w'= .ok (.value v) w'
theorem kE (ts:Array Value) (d t:Nat) (v:Value):(ts.setIfInBounds d v).getD t undef=if d=t∧d<ts.size then v else ts.getD t undef:=by
 rw [Array.getD_eq_getD_getElem?,Array.getD_eq_getD_getElem?,Array.getElem?_setIfInBounds]
 by_cases h:d=t
 ·subst h
  by_cases hl:d<ts.size
  ·simp [hl]
  ·simp [hl]
 ·simp [h]
theorem cg.put {F:Nat→Prop} {N:aI} {w:World} {a:Act} {E:Env} (h:cg F N w a E) {d:Nat} (hd:d<a.tmps.size) {v:Value} {p:AV} (hv:Rep F N w v p):cg F N w (a.put (some d) v) ((d,p)::E):=by
 refine ⟨fun t=>?_,h.glob⟩
 simp only [Act.put,Env.get]
 rw [kE]
 cases e:Nat.beq d t with
 | true=>
  have:=Nat.eq_of_beq_eq_true e
  subst this
  rw [if_pos ⟨rfl,hd⟩]
  exact hv
 | false=>
  have:=Nat.ne_of_beq_eq_false e
  rw [if_neg (fun h=>this h.1)]
  exact h t
theorem Rel.put {c:Ctx} {E:Env} {m:Mem} {a:Act} {F:Nat→Prop} {N:aI} {w:World} (hd:a.defers=c.dfs) (hs:a.tmps.size=c.ntmps) (hm:bX c F N w m) (he:cg F N w a E) {d:Nat} (hlt:Nat.blt d c.ntmps=true) {v:Value} {p:AV} (hv:Rep F N w v p):Rel c ((d,p)::E) m (a.put (some d) v) w:=
 ⟨hd,by simp [Act.put,hs],F,N,hm,he.put (by rw [hs];exact Nat.le_of_ble_eq_true hlt) hv⟩
def WO (c:Ctx) (P:Program) (o:Oper) (E:Env) (m:Mem) (E':Env) (m':Mem):Prop:=
 ∀ (Q:Exit→Act→World→Prop) (K:Act→World→Prop) (a:Act) (w:World),Rel c E m a w→(∀ v a' w',a'=a.put o.dst v→Rel c E' m' a' w'→K a' w')→o.wp P a w K Q
section
variable {c:Ctx} {P:Program} {ops:Array Oper} {Q:Exit→Env→Mem→Prop} {E E':Env} {m m':Mem} {rest:List Oper} {o:Oper}
theorem WO.val {d:Nat} {p:AV} (hy:aF P o E m p) (hd:o.dst=some d) (hlt:Nat.blt d c.ntmps=true):WO c P o E m ((d,p)::E) m:=fun Q K a w hr h=>by
 obtain ⟨h1,h2,F,N,hm,he⟩:=hr
 obtain ⟨v,hv,hrun⟩:=hy c F N w a hm he
 unfold Oper.wp
 rw [hrun w (fun _ _=>rfl) (fun _ _ _ _ _=>rfl),Oper.upon_value,hd]
 exact h v _ _ (by rw [hd]) (Rel.put h1 h2 hm he hlt hv)
theorem WL.step (hs:WO c P o E m E' m') (hg:o.guard=none) (h:WL c P ops Q rest E' m'):WL c P ops Q (o::rest) E m:=fun a w hr=>
 wpList_plain hg fun K hK=>hs _ K a w hr fun v a' w' _ hr'=>hK _ _ (h a' w' hr')
theorem iO {j g:Nat} {want b:Bool} {x:Oper} {a:Act} (hg:o.guard=some (j,want)) (hj:ops[j]? =some x) (hx:x.dst=some g) (hv:a.tmps.getD g undef= .bool b):Region.wanted o (yielded ops a.tmps)=(b==want):=by
 have:a.tmps[g]? =some (.bool b):=by
  rw [Array.getD_eq_getD_getElem?] at hv
  cases h:a.tmps[g]? with
  | none=>rw [h] at hv;cases hv
  | some v=>rw [h] at hv;exact congrArg some hv
 simp [Region.wanted,hg,yielded,hj,hx,this]
theorem Rel.bool {t:Nat} {b:Bool} {a:Act} {w:World} (hr:Rel c E m a w) (ht:E.get t= .d (.bool b)):a.tmps.getD t undef= .bool b:=by
 obtain ⟨_,_,F,N,_,he⟩:=hr
 have:=he t
 rw [ht] at this
 exact this.d_inv.bool_inv
theorem WL.gstep {j g:Nat} {want:Bool} {x:Oper} (hs:WO c P o E m E' m') (hg:o.guard=some (j,want)) (hj:ops[j]? =some x) (hx:x.dst=some g) (hb:E.get g= .d (.bool want)) (h:WL c P ops Q rest E' m'):WL c P ops Q (o::rest) E m:=fun a w hr=>by
 have hw:=iO hg hj hx (hr.bool hb)
 refine wpList_step fun K hK=>?_
 rw [hw,if_pos (by simp)]
 exact hs _ K a w hr fun v a' w' _ hr'=>hK _ _ (h a' w' hr')
theorem rz {j g:Nat} {want:Bool} {x:Oper} {a:Act} {w:World} (hg:o.guard=some (j,want)) (hj:ops[j]? =some x) (hx:x.dst=some g) (hb:∀ F N w v,Rep F N w v (E.get g)→v=undef∨v= .bool (!want)) (hr:Rel c E m a w):Region.wanted o (yielded ops a.tmps)=false:=by
 obtain ⟨h1,h2,F,N,hm,he⟩:=hr
 have hv:=hb F N w _ (he g)
 rw [Array.getD_eq_getD_getElem?] at hv
 cases ht:a.tmps[g]? with
 | none=>simp [Region.wanted,hg,yielded,hj,hx,ht]
 | some v=>
  rw [ht] at hv
  simp only [Option.getD_some] at hv
  rcases hv with rfl | rfl
  ·simp [Region.wanted,hg,yielded,hj,hx,ht,undef]
  ·cases want <;> simp [Region.wanted,hg,yielded,hj,hx,ht]
theorem WL.goff {j g d:Nat} {want:Bool} {x:Oper} {q:AV} (hg:o.guard=some (j,want)) (hj:ops[j]? =some x) (hx:x.dst=some g) (hb:∀ F N w v,Rep F N w v (E.get g)→v=undef∨v= .bool (!want)) (hq:∀ F N w,Rep F N w undef q) (hd:o.dst=some d) (hlt:Nat.blt d c.ntmps=true) (h:WL c P ops Q rest ((d,q)::E) m):WL c P ops Q (o::rest) E m:=fun a w hr=>by
 obtain ⟨h1,h2,F,N,hm,he⟩:=hr
 have hw:Region.wanted o (yielded ops a.tmps)=false:=by
  have hv:=hb F N w _ (he g)
  rw [Array.getD_eq_getD_getElem?] at hv
  cases ht:a.tmps[g]? with
  | none=>simp [Region.wanted,hg,yielded,hj,hx,ht]
  | some v=>
   rw [ht] at hv
   simp only [Option.getD_some] at hv
   rcases hv with rfl | rfl
   ·simp [Region.wanted,hg,yielded,hj,hx,ht,undef]
   ·cases want <;> simp [Region.wanted,hg,yielded,hj,hx,ht]
 refine wpList_step fun K hK=>?_
 rw [hw,if_neg (by simp),hd]
 exact hK _ _ (h _ _ (Rel.put h1 h2 hm he hlt (hq F N w)))
theorem WL.split {l:List Oper} {g:Nat} {b:Bool} (hb:E.get g= .d (.bool b)) (ht:b=true→WL c P ops Q l ((g, .d (.bool true))::E) m) (hf:b=false→WL c P ops Q l ((g, .d (.bool false))::E) m):WL c P ops Q l E m:=fun a w hr=>by
 have key:Rel c ((g, .d (.bool b))::E) m a w:=by
  obtain ⟨h1,h2,F,N,hm,he⟩:=hr
  refine ⟨h1,h2,F,N,hm,⟨fun t=>?_,he.glob⟩⟩
  simp only [Env.get]
  cases e:Nat.beq g t with
  | true=>
   have:=Nat.eq_of_beq_eq_true e
   subst this
   have:=he g
   rw [hb] at this
   exact this
  | false=>exact he t
 cases b with
 | true=>exact ht rfl a w key
 | false=>exact hf rfl a w key
end
end LJ
