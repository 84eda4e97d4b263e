/- A logic for the walks: what the frame's slots and the memory say, as plain data; and rules, one an operation. Core: data, the relation, its steps. -/
import Derived.WalkKit
import Derived.StillTail
import Derived.Below
import Derived.OrdersHeld
import Derived.Laws.Rows
import Derived.Laws.AppendOwn
import Derived.Laws.OwnMore
import Derived.Laws.MakeOwn
import Derived.Laws.Slices
import Derived.KernelRfl
namespace LJ
open Go Go.RowKit
set_option linter.unusedVariables false
set_option linter.unusedSimpArgs false
inductive DV:Type
 | int (k:IntKind) (n:Int)
 | bool (b:Bool)
 | str (s:ByteArray)
 | nilp
 | nils
 | nili
 | ifc (t:TypeId) (v:DV)
 | agg (cs:List DV)
 | sl (es:List (List DV))
 | slf (n:Nat) (f:Nat→List DV)
 | elp (cs:List DV)
def tab (n:Nat) (f:Nat→List DV):List (List DV):=(List.range n).map f
inductive RepD (F:Nat→Prop) (w:World):Value→DV→Prop
 | int {k:IntKind} {n:Int} :RepD F w (.int k n) (.int k n)
 | bool {b:Bool} :RepD F w (.bool b) (.bool b)
 | str {s:ByteArray} :RepD F w (.string s) (.str s)
 | nilp:RepD F w (.pointer none) .nilp
 | nils:RepD F w (.slice none 0 0) .nils
 | nili:RepD F w .nilIface .nili
 | ifc {t:TypeId} {v:Value} {d:DV} (h:RepD F w v d):RepD F w (.iface t v) (.ifc t d)
 | agg {vs:List Value} {cs:List DV} (hl:vs.length=cs.length) (h:∀ (i:Nat) (v:Value) (d:DV),vs[i]? =some v→cs[i]? =some d→RepD F w v d):RepD F w (.agg vs.toArray) (.agg cs)
 | nil {a:Option Addr} {c:Nat} :RepD F w (.slice a 0 c) (.sl [])
 | sl {a:Addr} {n c sz:Nat} {es:List (List DV)} (u:Nat→Nat→Value) (hn:es.length=n) (h0:0<n) (hc:n≤c) (hs:a.spot=none) (hF:F a.block)
   (hz:∀ (i:Nat) (e:List DV),es[i]? =some e→e.length=sz)
   (hm:∀ (i j:Nat) (e:List DV) (d:DV),es[i]? =some e→e[j]? =some d→w.cell? ⟨a.block,a.off+(i*sz+j),none⟩=some (u i j))
   (h:∀ (i j:Nat) (e:List DV) (d:DV),es[i]? =some e→e[j]? =some d→RepD F w (u i j) d):RepD F w (.slice (some a) n c) (.sl es)
 | slf {v:Value} {n:Nat} {f:Nat→List DV} (h:RepD F w v (.sl (tab n f))):RepD F w v (.slf n f)
 | elp {a:Addr} {cs:List DV} (u:Nat→Value) (hs:a.spot=none) (hF:F a.block)
   (hm:∀ (j:Nat) (d:DV),cs[j]? =some d→w.cell? ⟨a.block,a.off+j,none⟩=some (u j))
   (h:∀ (j:Nat) (d:DV),cs[j]? =some d→RepD F w (u j) d):RepD F w (.pointer (some a)) (.elp cs)
theorem cn {w w':World} {b o:Nat} (h:w'.heap[b]? =w.heap[b]?):w'.cell? ⟨b,o,none⟩=w.cell? ⟨b,o,none⟩:=by
 simp only [World.cell?,h]
theorem RepD.mono {F F':Nat→Prop} {w w':World} (hF:∀ b,F b→F' b) (hw:∀ b,F b→w'.heap[b]? =w.heap[b]?) {v:Value} {d:DV} (h:RepD F w v d):RepD F' w' v d:=by
 induction h with
 | int=>exact .int
 | bool=>exact .bool
 | str=>exact .str
 | nilp=>exact .nilp
 | nils=>exact .nils
 | nili=>exact .nili
 | ifc _ ih=>exact .ifc ih
 | agg hl _ ih=>exact .agg hl ih
 | nil=>exact .nil
 | sl u hn h0 hc hs hB hz hm _ ih=>exact .sl u hn h0 hc hs (hF _ hB) hz (fun i j e d he hd=>(cn (hw _ hB)).trans (hm i j e d he hd)) ih
 | slf _ ih=>exact .slf ih
 | elp u hs hB hm _ ih=>exact .elp u hs (hF _ hB) (fun j d hd=>(cn (hw _ hB)).trans (hm j d hd)) ih
inductive AV:Type
 | d (v:DV)
 | own (n:Nat)
 | ptr (n off:Nat)
 | rel (n off:Nat)
 | optp (b:Bool) (n off:Nat)
 | psl (n off len cap:Nat)
 | rsl (n off len cap:Nat)
 | qel (n i:Nat)
 | tup (vs:List AV)
 | when (b:Bool) (v:DV)
 | und
structure aI where
 β:Nat→Nat
 σ:Nat→Value
inductive Rep (F:Nat→Prop) (N:aI) (w:World):Value→AV→Prop
 | d {v:Value} {x:DV} (h:RepD F w v x):Rep F N w v (.d x)
 | own {n:Nat} :Rep F N w (N.σ n) (.own n)
 | ptr {n off:Nat} :Rep F N w (.pointer (some ⟨N.β n,off,none⟩)) (.ptr n off)
 | optp {b:Bool} {n off:Nat} :Rep F N w (.pointer (cond b (some ⟨N.β n,off,none⟩) none)) (.optp b n off)
 | rel {n off g l c:Nat} (h:N.σ n= .slice (some ⟨g,0,none⟩) l c):Rep F N w (.pointer (some ⟨g,off,none⟩)) (.rel n off)
 | psl {n off len cap o:Nat} (ho:0<len→o=off):Rep F N w (.slice (some ⟨N.β n,o,none⟩) len cap) (.psl n off len cap)
 | rsl {n off len cap o g l c:Nat} (h:N.σ n= .slice (some ⟨g,0,none⟩) l c) (ho:0<len→o=off):Rep F N w (.slice (some ⟨g,o,none⟩) len cap) (.rsl n off len cap)
 | qel {n i g o l c:Nat} (h:N.σ n= .slice (some ⟨g,o,none⟩) l c):Rep F N w (.pointer (some ⟨g,o+i,none⟩)) (.qel n i)
 | tup {vs:List Value} {cs:List AV} (hl:vs.length=cs.length) (h:∀ (i:Nat) (v:Value) (c:AV),vs[i]? =some v→cs[i]? =some c→Rep F N w v c):Rep F N w (.tuple vs.toArray) (.tup cs)
 | when {v:Value} {b:Bool} {x:DV} (h:b=true→RepD F w v x) (hu:b=false→v=undef):Rep F N w v (.when b x)
 | und {v:Value} :Rep F N w v .und
theorem Rep.mono {F F':Nat→Prop} {N:aI} {w w':World} (hF:∀ b,F b→F' b) (hw:∀ b,F b→w'.heap[b]? =w.heap[b]?) {v:Value} {p:AV} (h:Rep F N w v p):Rep F' N w' v p:=by
 induction h with
 | d h=>exact .d (h.mono hF hw)
 | own=>exact .own
 | ptr=>exact .ptr
 | optp=>exact .optp
 | rel h=>exact .rel h
 | psl ho=>exact .psl ho
 | rsl h ho=>exact .rsl h ho
 | qel h=>exact .qel h
 | tup hl _ ih=>exact .tup hl ih
 | when h hu=>exact .when (fun hb=>(h hb).mono hF hw) hu
 | und=>exact .und
theorem RepD.int_inv {F:Nat→Prop} {w:World} {v:Value} {k:IntKind} {n:Int} (h:RepD F w v (.int k n)):v= .int k n:=by cases h;rfl
theorem RepD.bool_inv {F:Nat→Prop} {w:World} {v:Value} {b:Bool} (h:RepD F w v (.bool b)):v= .bool b:=by cases h;rfl
theorem RepD.str_inv {F:Nat→Prop} {w:World} {v:Value} {s:ByteArray} (h:RepD F w v (.str s)):v= .string s:=by cases h;rfl
theorem RepD.nilp_inv {F:Nat→Prop} {w:World} {v:Value} (h:RepD F w v .nilp):v= .pointer none:=by cases h;rfl
theorem RepD.nils_inv {F:Nat→Prop} {w:World} {v:Value} (h:RepD F w v .nils):v= .slice none 0 0:=by cases h;rfl
theorem RepD.nili_inv {F:Nat→Prop} {w:World} {v:Value} (h:RepD F w v .nili):v= .nilIface:=by cases h;rfl
theorem RepD.agg_inv {F:Nat→Prop} {w:World} {v:Value} {cs:List DV} (h:RepD F w v (.agg cs)):∃ vs:List Value,v= .agg vs.toArray∧vs.length=cs.length∧∀ (i:Nat) (x:Value) (d:DV),vs[i]? =some x→cs[i]? =some d→RepD F w x d:=by
 cases h with
 | agg hl h=>exact ⟨_,rfl,hl,h⟩
theorem RepD.sl_inv {F:Nat→Prop} {w:World} {v:Value} {es:List (List DV)} (h:RepD F w v (.sl es)):∃ a c,v= .slice a es.length c:=by
 cases h with
 | nil=>exact ⟨_,_,rfl⟩
 | sl u hn h0 hc hs hB hz hm h=>subst hn;exact ⟨_,_,rfl⟩
theorem RepD.slf_inv {F:Nat→Prop} {w:World} {v:Value} {n:Nat} {f:Nat→List DV} (h:RepD F w v (.slf n f)):RepD F w v (.sl (tab n f)):=by
 cases h with
 | slf h=>exact h
theorem RepD.elp_inv {F:Nat→Prop} {w:World} {v:Value} {cs:List DV} (h:RepD F w v (.elp cs)):∃ (a:Addr) (u:Nat→Value),v= .pointer (some a)∧a.spot=none∧F a.block∧(∀ (j:Nat) (d:DV),cs[j]? =some d→w.cell? ⟨a.block,a.off+j,none⟩=some (u j))∧∀ (j:Nat) (d:DV),cs[j]? =some d→RepD F w (u j) d:=by
 cases h with
 | elp u hs hB hm h=>exact ⟨_,u,rfl,hs,hB,hm,h⟩
theorem Rep.d_inv {F:Nat→Prop} {N:aI} {w:World} {v:Value} {d:DV} (h:Rep F N w v (.d d)):RepD F w v d:=by
 cases h with
 | d h=>exact h
theorem Rep.when_inv {F:Nat→Prop} {N:aI} {w:World} {v:Value} {b:Bool} {d:DV} (h:Rep F N w v (.when b d)) (hb:b=true):RepD F w v d:=by
 cases h with
 | when h hu=>exact h hb
theorem Rep.when_off {F:Nat→Prop} {N:aI} {w:World} {v:Value} {b:Bool} {d:DV} (h:Rep F N w v (.when b d)) (hb:b=false):v=undef:=by
 cases h with
 | when h hu=>exact hu hb
theorem Rep.own_inv {F:Nat→Prop} {N:aI} {w:World} {v:Value} {n:Nat} (h:Rep F N w v (.own n)):v=N.σ n:=by cases h;rfl
theorem Rep.ptr_inv {F:Nat→Prop} {N:aI} {w:World} {v:Value} {n o:Nat} (h:Rep F N w v (.ptr n o)):v= .pointer (some ⟨N.β n,o,none⟩):=by cases h;rfl
theorem Rep.optp_inv {F:Nat→Prop} {N:aI} {w:World} {v:Value} {b:Bool} {n o:Nat} (h:Rep F N w v (.optp b n o)):v= .pointer (cond b (some ⟨N.β n,o,none⟩) none):=by cases h;rfl
theorem Rep.tup_inv {F:Nat→Prop} {N:aI} {w:World} {v:Value} {cs:List AV} (h:Rep F N w v (.tup cs)):∃ vs:List Value,v= .tuple vs.toArray∧vs.length=cs.length∧∀ (i:Nat) (x:Value) (d:AV),vs[i]? =some x→cs[i]? =some d→Rep F N w x d:=by
 cases h with
 | tup hl h=>exact ⟨_,rfl,hl,h⟩
def inl:List Nat→Nat→Bool
 | [],_=>false
 | x::l,k=>cond (Nat.beq x k) true (inl l k)
def allD:List AV→Bool
 | []=>true
 | .d _::l=>allD l
 | _::_=>false
theorem qG:∀ {l:List AV},allD l=true→∀ (i:Nat) (c:AV),l[i]? =some c→∃ d,c= .d d
 | [],h,i,c,hc=>by simp at hc
 | .d x::l,h,0,c,hc=>by
  simp only [List.getElem?_cons_zero,Option.some.injEq] at hc
  exact ⟨x,hc.symm⟩
 | .d x::l,h,i+1,c,hc=>qG (l:=l) h i c (by simpa using hc)
def AV.forget (fs:List Nat):AV→AV
 | .d v=> .d v
 | .own k=>cond (inl fs k) .und (.own k)
 | .ptr k o=>cond (inl fs k) .und (.ptr k o)
 | .optp b k o=>cond (inl fs k) .und (.optp b k o)
 | .rel k o=>cond (inl fs k) .und (.rel k o)
 | .psl k o a b=>cond (inl fs k) .und (.psl k o a b)
 | .rsl k o a b=>cond (inl fs k) .und (.rsl k o a b)
 | .qel k o=>cond (inl fs k) .und (.qel k o)
 | .tup vs=>cond (allD vs) (.tup vs) .und
 | .when b v=> .when b v
 | .und=> .und
def aI.eqBut (N N':aI) (fs:List Nat):Prop:=∀ k,inl fs k=false→N'.β k=N.β k∧N'.σ k=N.σ k
theorem eB {n k:Nat} (h:k≠n):inl [n] k=false:=by
 have:Nat.beq n k=false:=by
  cases e:Nat.beq n k with
  | false=>rfl
  | true=>exact absurd (Nat.eq_of_beq_eq_true e).symm h
 simp only [inl,this,cond_false]
theorem uF (n:Nat):inl [n] n=true:=by simp [inl]
theorem mu {n k:Nat} (h:inl [n] k=false):k≠n:=by
 rintro rfl
 rw [uF] at h
 cases h
theorem Rep.forget {F:Nat→Prop} {N N':aI} {w:World} {fs:List Nat} (hN:N.eqBut N' fs) {v:Value} {p:AV} (h:Rep F N w v p):Rep F N' w v (p.forget fs):=by
 cases h with
 | d h=>exact .d h
 | und=>exact .und
 | when h hu=>exact .when h hu
 | @tup vs cs hl h=>
  simp only [AV.forget]
  cases hk:allD cs with
  | false=>exact .und
  | true=>
   refine .tup hl fun i v c hv hc=>?_
   obtain ⟨d,rfl⟩:=qG hk i c hc
   exact .d (h i v _ hv hc).d_inv
 | @own k=>
  simp only [AV.forget]
  cases hk:inl fs k with
  | true=>exact .und
  | false=>
   rw [←(hN k hk).2]
   exact .own
 | @ptr k o=>
  simp only [AV.forget]
  cases hk:inl fs k with
  | true=>exact .und
  | false=>
   rw [←(hN k hk).1]
   exact .ptr
 | @optp b k o=>
  simp only [AV.forget]
  cases hk:inl fs k with
  | true=>exact .und
  | false=>
   rw [←(hN k hk).1]
   exact .optp
 | @rel k o g l c h=>
  simp only [AV.forget]
  cases hk:inl fs k with
  | true=>exact .und
  | false=>
   exact .rel (by rw [(hN k hk).2];exact h)
 | @psl k o a b o' ho=>
  simp only [AV.forget]
  cases hk:inl fs k with
  | true=>exact .und
  | false=>
   rw [←(hN k hk).1]
   exact .psl ho
 | @rsl k o a b o' g l c h ho=>
  simp only [AV.forget]
  cases hk:inl fs k with
  | true=>exact .und
  | false=>
   exact .rsl (by rw [(hN k hk).2];exact h) ho
 | @qel k i g o l c h=>
  simp only [AV.forget]
  cases hk:inl fs k with
  | true=>exact .und
  | false=>
   exact .qel (by rw [(hN k hk).2];exact h)
abbrev Env:=List (Nat×AV)
def Env.get:Env→Nat→AV
 | [],_=> .und
 | (k,v)::l,t=>cond (Nat.beq k t) v (Env.get l t)
def Env.forget (n:List Nat):Env→Env
 | []=>[]
 | (k,v)::l=>(k,v.forget n)::Env.forget n l
theorem Env.get_forget (n:List Nat) (t:Nat):∀ E:Env,(E.forget n).get t=(E.get t).forget n
 | []=>rfl
 | (k,v)::l=>by
  simp only [Env.forget,Env.get]
  cases Nat.beq k t with
  | true=>rfl
  | false=>exact Env.get_forget n t l
inductive AObj:Type
 | box (T:TypeId) (cs:List AV)
 | row (E:TypeId) (sz:Nat) (es:List (List DV))
 | que (E:TypeId) (sz:Nat) (es:List (List DV))
 | rowl (E:TypeId) (sz k:Nat) (c:Option Nat) (es:List (List DV))
def vX (w:World) (e:TypeId) (size:Nat) (v:Value) (n:Nat) (xs:List Value):Prop:=
 xs.length=n*size∧∃ g o cap cur,v= .slice (some ⟨g,o,none⟩) n cap∧w.heap[g]? =some (.cells cur e (0,0))∧n≤cap∧cap≤maxLen∧o+cap*size≤cur.size∧(cur.toList.drop o).take (n*size)=xs
def cutN (n:List Nat):Option Nat→Option Nat
 | some j=>cond (inl n j) none (some j)
 | none=>none
def AObj.forget (n:List Nat):AObj→AObj
 | .box T cs=> .box T (cs.map (AV.forget n))
 | .row E sz es=> .row E sz es
 | .que E sz es=> .que E sz es
 | .rowl E sz k c es=> .rowl E sz k (cutN n c) es
abbrev Mem:=List (Nat×AObj)
def Mem.get:Mem→Nat→Option AObj
 | [],_=>none
 | (k,v)::l,n=>cond (Nat.beq k n) (some v) (Mem.get l n)
def Mem.forget (n:List Nat):Mem→Mem
 | []=>[]
 | (k,v)::l=>cond (inl n k) (Mem.forget n l) ((k,v.forget n)::Mem.forget n l)
def Mem.set (n:Nat) (o:AObj):Mem→Mem
 | []=>[]
 | (k,v)::l=>cond (Nat.beq k n) ((k,o)::l) ((k,v)::Mem.set n o l)
def blk (N:aI) (n:Nat):AObj→Option Nat
 | .box _ _=>some (N.β n)
 | .row _ _ _=>(N.σ n).ownBlock
 | .que _ _ _=>(N.σ n).ownBlock
 | .rowl _ _ _ _ _=>(N.σ n).ownBlock
def db (F:Nat→Prop) (N:aI) (w:World) (n:Nat):AObj→Prop
 | .box T cs=>∃ vs:List Value,w.heap[N.β n]? =some (.cells vs.toArray T (0,0))∧vs.length=cs.length∧∀ (i:Nat) (v:Value) (c:AV),vs[i]? =some v→cs[i]? =some c→Rep F N w v c
 | .row E sz es=>∃ vs:List Value,w.ownsRow 0 E sz (N.σ n) es.length vs∧(∀ e∈es,e.length=sz)∧∀ (i:Nat) (v:Value) (x:DV),vs[i]? =some v→es.flatten[i]? =some x→RepD F w v x
 | .que E sz es=>∃ vs:List Value,vX w E sz (N.σ n) es.length vs∧(∀ e∈es,e.length=sz)∧∀ (i:Nat) (v:Value) (x:DV),vs[i]? =some v→es.flatten[i]? =some x→RepD F w v x
 | .rowl E sz k c es=>∃ vs:List Value,w.ownsRow 0 E sz (N.σ n) es.length vs∧(∀ e∈es,e.length=sz)∧k<sz∧(∀ (i:Nat) (v:Value) (x:DV),vs[i]? =some v→es.flatten[i]? =some x→i+sz≠es.length*sz+k→RepD F w v x)∧∀ j,c=some j→es≠[]→vs[(es.length - 1)*sz+k]? =some (N.σ j)
structure Ctx where
 w0:World
 F0:Nat→Prop
 S0:Nat→Prop
 ntmps:Nat
 P0:List Nat
 B0:aI
 K:Nat→Prop:=fun _=>False
 wK:World:=w0
 KN:List Nat:=[]
 dfs:List Deferred:=[]
structure bX (c:Ctx) (F:Nat→Prop) (N:aI) (w:World) (m:Mem):Prop where
 F0:∀ b,c.F0 b→F b
 Fnew:∀ b,F b→c.F0 b∨c.w0.heap.size≤b∨c.S0 b
 Fin:∀ b,F b→b<w.heap.size
 os:w.os=c.w0.os
 tape:w.tape=c.w0.tape
 output:w.output=c.w0.output
 size:c.w0.heap.size≤w.heap.size
 kept:∀ b,b<c.w0.heap.size→¬c.S0 b→w.heap[b]? =c.w0.heap[b]?
 obj:∀ (n:Nat) (o:AObj),m.get n=some o→db F N w n o
 free:∀ (n:Nat) (o:AObj) (b:Nat),m.get n=some o→blk N n o=some b→¬F b∧(c.S0 b∨c.w0.heap.size≤b)
 apart:∀ (n n':Nat) (o o':AObj) (b:Nat),m.get n=some o→m.get n'=some o'→blk N n o=some b→blk N n' o'=some b→n=n'
 named:∀ n,inl c.P0 n=true→N.β n=c.B0.β n∧(inl c.P0 (n+1000000)=true→N.σ n=c.B0.σ n)
 agree:∀ b,c.K b→b<c.wK.heap.size→w.heap[b]? =c.wK.heap[b]?
 knames:∀ (n:Nat) (o:AObj) (b:Nat),m.get n=some o→blk N n o=some b→c.K b→b<c.wK.heap.size→inl c.KN n=true
 ksize:c.wK.heap.size≤w.heap.size
def aG:List Int:=[0,0,0,0,0,0,0,0,0,1,1,1,1,1,0,0,0,0,0,0,0,0,0,0,0,0,0,0,0,0,0,0,1,0,0,0,0,0,0,0,0,0,0,0,0,0,0,0,0,0,0,0,0,0,0,0,0,0,0,0,0,0,0,0,0,0,0,0,0,0,0,0,0,0,0,0,0,0,0,0,0,0,0,0,0,0,0,0,0,0,0,0,0,0,0,0,0,0,0,0,0,0,0,0,0,0,0,0,0,0,0,0,0,0,0,0,0,0,0,0,0,0,0,0,0,0,0,0,0,0,0,0,0,0,0,0,0,0,0,0,0,0,0,0,0,0,0,0,0,0,0,0,0,0,0,0,0,0,0,0,0,0,0,0,0,0,0,0,0,0,0,0,0,0,0,0,0,0,0,0,0,0,0,0,0,0,0,0,0,0,0,0,0,0,0,0,0,0,0,0,0,0,0,0,0,0,0,0,0,0,0,0,0,0,0,0,0,0,0,0,0,0,0,0,0,0,0,0,0,0,0,0,0,0,0,0,0,0,0,0,0,0,0,0,0,0,0,0,0,0,0,0,0,0,0,0]
def gl_0:List DV:=(List.range 256).map fun k=> .int .u8 (aG.getD k default)
theorem iM:gl_0.take 256=(List.range 256).map fun k=> .int .u8 (aG.getD k default):=by rw [gl_0,List.take_of_length_le (by simp)]
theorem sm:gl_0=aG.map fun z=> .int .u8 z:=by kernel_rfl
def bh:List Int:=[1,10,100,1000,10000,100000,1000000,10000000,100000000,1000000000,10000000000,100000000000,1000000000000,10000000000000,100000000000000,1000000000000000,10000000000000000,100000000000000000,1000000000000000000,10000000000000000000]
def gl_3:List DV:=(List.range 20).map fun k=> .int .u64 (bh.getD k default)
theorem sn:gl_3=bh.map fun z=> .int .u64 z:=by kernel_rfl
def bG:List Int:=[0,1,28,2,29,14,24,3,30,22,20,15,25,17,4,8,31,27,13,23,21,19,16,7,26,12,18,6,11,5,10,9]
def gl_8:List DV:=(List.range 32).map fun k=> .int .u8 (bG.getD k default)
theorem so:gl_8=bG.map fun z=> .int .u8 z:=by kernel_rfl
def bH:List Int:=[0,1,56,2,57,49,28,3,61,58,42,50,38,29,17,4,62,47,59,36,45,43,51,22,53,39,33,30,24,18,12,5,63,55,48,27,60,41,37,16,46,35,44,21,52,32,23,11,54,26,40,15,34,20,31,10,25,14,19,9,13,8,7,6]
def gl_9:List DV:=(List.range 64).map fun k=> .int .u8 (bH.getD k default)
theorem sq:gl_9=bH.map fun z=> .int .u8 z:=by kernel_rfl
def kq:List (Nat×List DV):=[(0,gl_0),(3,gl_3),(8,gl_8),(9,gl_9)]
def pJ:List (Nat×Bool):=[(1,true),(6,false),(7,false)]
def gget:List (Nat×List DV)→Nat→Option (List DV)
 | [],_=>none
 | (k,v)::l,n=>cond (Nat.beq k n) (some v) (gget l n)
def dval:DV→Value
 | .int k n=> .int k n
 | _=>undef
def vY:Bool→Value→Prop
 | true,v=>∃ m,v= .int .i64 m
 | false,v=>v= .nilIface∨∃ te pe,v= .iface te pe
structure gm (F:Nat→Prop) (w:World):Prop where
 laid:∀ (g:Nat) (cs:List DV),gget kq g=some cs→RepD F w (.pointer (some ⟨g,0,none⟩)) (.elp cs)∧∃ T f,w.heap[g]? =some (.cells (cs.map dval).toArray T f)
 shape:∀ (g:Nat) (k:Bool),(g,k)∈pJ→F g∧∃ v,w.cell? ⟨g,0,none⟩=some v∧vY k v
instance {F:Nat→Prop} {w:World} :CoeFun (gm F w) (fun _=>∀ (g:Nat) (cs:List DV),gget kq g=some cs→RepD F w (.pointer (some ⟨g,0,none⟩)) (.elp cs)∧∃ T f,w.heap[g]? =some (.cells (cs.map dval).toArray T f)):=⟨gm.laid⟩
theorem gm.mono {F F':Nat→Prop} {w w':World} (hF:∀ b,F b→F' b) (hw:∀ b,F b→w'.heap[b]? =w.heap[b]?) (h:gm F w):gm F' w':=by
 refine ⟨fun g cs hg=>?_,fun g k hk=>?_⟩
 ·obtain ⟨h1,T,f,h2⟩:=h g cs hg
  obtain ⟨a,u,e,_,hB,_⟩:=h1.elp_inv
  cases e
  exact ⟨h1.mono hF hw,T,f,(hw g hB).trans h2⟩
 ·obtain ⟨h1,v,h2,h3⟩:=h.shape g k hk
  exact ⟨hF g h1,v,(cn (hw g h1)).trans h2,h3⟩
structure cg (F:Nat→Prop) (N:aI) (w:World) (a:Act) (E:Env):Prop where
 slot:∀ t,Rep F N w (a.tmps.getD t undef) (E.get t)
 glob:gm F w
instance {F:Nat→Prop} {N:aI} {w:World} {a:Act} {E:Env} :CoeFun (cg F N w a E) (fun _=>∀ t,Rep F N w (a.tmps.getD t undef) (E.get t)):=⟨cg.slot⟩
def Rel (c:Ctx) (E:Env) (m:Mem) (a:Act) (w:World):Prop:=
 a.defers=c.dfs∧a.tmps.size=c.ntmps∧∃ (F:Nat→Prop) (N:aI),bX c F N w m∧cg F N w a E
theorem gn {w w':World} {b E sz n:Nat} {v:Value} {vs:List Value} (h:w.ownsRow b E sz v n vs) (hb:∀ k,v.ownBlock=some k→w'.heap[k]? =w.heap[k]?):w'.ownsRow b E sz v n vs:=by
 obtain ⟨hl,h⟩:=h
 refine ⟨hl,h.imp id ?_⟩
 rintro ⟨g,cap,cur,rfl,hg,hh,h1,h2,h3,h4⟩
 exact ⟨g,cap,cur,rfl,hg,(hb g rfl).trans hh,h1,h2,h3,h4⟩
theorem mb {w w':World} {E sz n:Nat} {v:Value} {vs:List Value} (h:vX w E sz v n vs) (hb:∀ k,v.ownBlock=some k→w'.heap[k]? =w.heap[k]?):vX w' E sz v n vs:=by
 obtain ⟨hl,g,o,cap,cur,rfl,hh,h1,h2,h3,h4⟩:=h
 exact ⟨hl,g,o,cap,cur,rfl,(hb g rfl).trans hh,h1,h2,h3,h4⟩
theorem db.mono {F F':Nat→Prop} {N:aI} {w w':World} {n:Nat} {o:AObj} (hF:∀ b,F b→F' b) (hw:∀ b,F b→w'.heap[b]? =w.heap[b]?) (hb:∀ b,blk N n o=some b→w'.heap[b]? =w.heap[b]?) (h:db F N w n o):db F' N w' n o:=by
 cases o with
 | box T cs=>
  obtain ⟨vs,h1,h2,h3⟩:=h
  exact ⟨vs,(hb _ rfl).trans h1,h2,fun i v c hv hc=>(h3 i v c hv hc).mono hF hw⟩
 | row E sz es=>
  obtain ⟨vs,h1,h2,h3⟩:=h
  exact ⟨vs,gn h1 (fun k hk=>hb k hk),h2,fun i v x hv hx=>(h3 i v x hv hx).mono hF hw⟩
 | que E sz es=>
  obtain ⟨vs,h1,h2,h3⟩:=h
  exact ⟨vs,mb h1 (fun k hk=>hb k hk),h2,fun i v x hv hx=>(h3 i v x hv hx).mono hF hw⟩
 | rowl E sz k c es=>
  obtain ⟨vs,h1,h2,h3,h4,h5⟩:=h
  exact ⟨vs,gn h1 (fun k hk=>hb k hk),h2,h3,fun i v x hv hx hi=>(h4 i v x hv hx hi).mono hF hw,h5⟩
theorem db.forget {F:Nat→Prop} {N N':aI} {w:World} {n:List Nat} {k:Nat} (hN:N.eqBut N' n) (hk:inl n k=false) {o:AObj} (h:db F N w k o):db F N' w k (o.forget n):=by
 cases o with
 | box T cs=>
  obtain ⟨vs,h1,h2,h3⟩:=h
  refine ⟨vs,by rw [(hN k hk).1];exact h1,by simpa using h2,fun i v c hv hc=>?_⟩
  rw [List.getElem?_map] at hc
  obtain ⟨c0,hc0,rfl⟩:=Option.map_eq_some_iff.1 hc
  exact (h3 i v c0 hv hc0).forget hN
 | row E sz es=>
  obtain ⟨vs,h1,h2,h3⟩:=h
  exact ⟨vs,by rw [(hN k hk).2];exact h1,h2,h3⟩
 | que E sz es=>
  obtain ⟨vs,h1,h2,h3⟩:=h
  exact ⟨vs,by rw [(hN k hk).2];exact h1,h2,h3⟩
 | rowl E sz q c es=>
  obtain ⟨vs,h1,h2,h3,h4,h5⟩:=h
  refine ⟨vs,by rw [(hN k hk).2];exact h1,h2,h3,h4,fun j hj he=>?_⟩
  cases c with
  | none=>cases hj
  | some i=>
   have hj':cond (inl n i) none (some i)=some j:=hj
   cases hi:inl n i with
   | true=>rw [hi] at hj';cases hj'
   | false=>
    rw [hi] at hj'
    cases hj'
    rw [(hN j hi).2]
    exact h5 j rfl he
theorem ck {N N':aI} {n:List Nat} {k:Nat} (hN:N.eqBut N' n) (hk:inl n k=false) (o:AObj):blk N' k (o.forget n)=blk N k o:=by
 cases o with
 | box T cs=>show some (N'.β k)=some (N.β k);rw [(hN k hk).1]
 | row E sz es=>show (N'.σ k).ownBlock=(N.σ k).ownBlock;rw [(hN k hk).2]
 | que E sz es=>show (N'.σ k).ownBlock=(N.σ k).ownBlock;rw [(hN k hk).2]
 | rowl E sz q c es=>show (N'.σ k).ownBlock=(N.σ k).ownBlock;rw [(hN k hk).2]
theorem db.lt {F:Nat→Prop} {N:aI} {w:World} {n:Nat} {o:AObj} (h:db F N w n o) {b:Nat} (hb:blk N n o=some b):b<w.heap.size:=by
 cases o with
 | box T cs=>
  obtain ⟨vs,h1,_⟩:=h
  injection hb with hb
  subst hb
  exact (Array.getElem?_eq_some_iff.1 h1).1
 | row E sz es=>
  obtain ⟨vs,⟨_,h1⟩,_⟩:=h
  have hb':(N.σ n).ownBlock=some b:=hb
  rcases h1 with ⟨h1,_⟩ | ⟨g,cap,cur,h1,_,h2,_⟩
  ·rw [h1] at hb';cases hb'
  ·rw [h1] at hb'
   injection hb' with hb'
   have:g=b:=hb'
   subst this
   exact (Array.getElem?_eq_some_iff.1 h2).1
 | rowl E sz k c es=>
  obtain ⟨vs,⟨_,h1⟩,_⟩:=h
  have hb':(N.σ n).ownBlock=some b:=hb
  rcases h1 with ⟨h1,_⟩ | ⟨g,cap,cur,h1,_,h2,_⟩
  ·rw [h1] at hb';cases hb'
  ·rw [h1] at hb'
   injection hb' with hb'
   have:g=b:=hb'
   subst this
   exact (Array.getElem?_eq_some_iff.1 h2).1
 | que E sz es=>
  obtain ⟨vs,⟨_,g,o,cap,cur,h1,h2,_⟩,_⟩:=h
  have hb':(N.σ n).ownBlock=some b:=hb
  rw [h1] at hb'
  injection hb' with hb'
  have:g=b:=hb'
  subst this
  exact (Array.getElem?_eq_some_iff.1 h2).1
theorem Mem.get_forget (n:List Nat):∀ (m:Mem) (k:Nat),(m.forget n).get k=if inl n k=true then none else (m.get k).map (AObj.forget n)
 | [],k=>by simp [Mem.forget,Mem.get]
 | (j,o)::m,k=>by
  simp only [Mem.forget]
  cases e:inl n j with
  | true=>
   simp only [cond_true,Mem.get]
   rw [Mem.get_forget n m k]
   cases hk:inl n k with
   | true=>simp
   | false=>
    have:Nat.beq j k=false:=by
     cases h:Nat.beq j k with
     | false=>rfl
     | true=>
      have:=Nat.eq_of_beq_eq_true h
      subst this
      rw [e] at hk
      cases hk
    simp [this]
  | false=>
   simp only [cond_false,Mem.get]
   cases h:Nat.beq j k with
   | true=>
    have hjk:j=k:=Nat.eq_of_beq_eq_true h
    subst hjk
    simp [e]
   | false=>
    simp only [cond_false]
    exact Mem.get_forget n m k
theorem Mem.get_set (n:Nat) (o:AObj):∀ (m:Mem) (k:Nat),(Mem.set n o m).get k=if k=n then (m.get k).map (fun _=>o) else m.get k
 | [],k=>by simp [Mem.set,Mem.get]
 | (j,x)::m,k=>by
  simp only [Mem.set]
  cases e:Nat.beq j n with
  | true=>
   have hj:j=n:=Nat.eq_of_beq_eq_true e
   simp only [cond_true,Mem.get]
   cases h:Nat.beq j k with
   | true=>
    have hjk:j=k:=Nat.eq_of_beq_eq_true h
    simp [←hjk,hj]
   | false=>
    have hjk:j≠k:=Nat.ne_of_beq_eq_false h
    have:k≠n:=fun he=>hjk (hj.trans he.symm)
    simp [this]
  | false=>
   have hj:j≠n:=Nat.ne_of_beq_eq_false e
   simp only [cond_false,Mem.get]
   cases h:Nat.beq j k with
   | true=>
    have hjk:j=k:=Nat.eq_of_beq_eq_true h
    subst hjk
    simp [hj]
   | false=>
    simp only [cond_false]
    exact Mem.get_set n o m k
structure Grew (w w':World):Prop where
 os:w'.os=w.os
 tape:w'.tape=w.tape
 output:w'.output=w.output
 size:w.heap.size≤w'.heap.size
 block:∀ b,b<w.heap.size→w'.heap[b]? =w.heap[b]?
theorem Grew.alloc (w:World) (o:Obj):Grew w (w.alloc o):=⟨rfl,rfl,rfl,by simp,fun b hb=>Below.heap_alloc w o b hb⟩
theorem bX.grew {c:Ctx} {F:Nat→Prop} {N:aI} {w w':World} {m:Mem} (h:bX c F N w m) (g:Grew w w'):bX c F N w' m where
 F0:=h.F0
 Fnew:=h.Fnew
 Fin b hb:=Nat.lt_of_lt_of_le (h.Fin b hb) g.size
 os:=g.os.trans h.os
 tape:=g.tape.trans h.tape
 output:=g.output.trans h.output
 size:=Nat.le_trans h.size g.size
 kept b hb hs:=(g.block b (Nat.lt_of_lt_of_le hb h.size)).trans (h.kept b hb hs)
 obj n o hn:=(h.obj n o hn).mono (fun _ hb=>hb) (fun b hb=>g.block b (h.Fin b hb)) (fun b hb=>g.block b ((h.obj n o hn).lt hb))
 free:=h.free
 apart:=h.apart
 named:=h.named
 agree b hb hl:=(g.block b (Nat.lt_of_lt_of_le hl h.ksize)).trans (h.agree b hb hl)
 knames:=h.knames
 ksize:=Nat.le_trans h.ksize g.size
theorem cg.grew {F:Nat→Prop} {N:aI} {w w':World} {a:Act} {E:Env} (h:cg F N w a E) (hF:∀ b,F b→w'.heap[b]? =w.heap[b]?):cg F N w' a E:=
 ⟨fun t=>(h t).mono (fun _ hb=>hb) hF,h.glob.mono (fun _ hb=>hb) hF⟩
theorem bX.renew {c:Ctx} {F:Nat→Prop} {N N':aI} {w w':World} {m:Mem} {n:Nat} {o':AObj} (h:bX c F N w m) (hN:N.eqBut N' [n]) (hP:inl c.P0 n=false) (hK:inl c.KN n=false)
  (os:w'.os=w.os) (tape:w'.tape=w.tape) (output:w'.output=w.output) (size:w.heap.size≤w'.heap.size)
  (hkeep:∀ b,b<w.heap.size→(∀ o,m.get n=some o→blk N n o≠some b)→w'.heap[b]? =w.heap[b]?)
  (hnew:db F N' w' n o') (hblk:∀ b,blk N' n o'=some b→(∃ o,m.get n=some o∧blk N n o=some b)∨w.heap.size≤b):bX c F N' w' ((n,o')::m.forget [n]):=by
 have hFk:∀ b,F b→w'.heap[b]? =w.heap[b]? :=fun b hb=>hkeep b (h.Fin b hb) (fun o ho he=>(h.free n o b ho he).1 hb)
 have get:∀ k x,Mem.get ((n,o')::m.forget [n]) k=some x→(k=n∧x=o')∨(k≠n∧∃ y,m.get k=some y∧x=y.forget [n]):=by
  intro k x hx
  simp only [Mem.get] at hx
  cases e:Nat.beq n k with
  | true=>
   rw [e] at hx
   simp only [cond_true,Option.some.injEq] at hx
   exact .inl ⟨(Nat.eq_of_beq_eq_true e).symm,hx.symm⟩
  | false=>
   rw [e] at hx
   simp only [cond_false] at hx
   have hk:k≠n:=Ne.symm (Nat.ne_of_beq_eq_false e)
   rw [Mem.get_forget,eB hk,if_neg (by simp)] at hx
   obtain ⟨y,hy,rfl⟩:=Option.map_eq_some_iff.1 hx
   exact .inr ⟨hk,y,hy,rfl⟩
 have far:∀ k y b,m.get k=some y→k≠n→blk N k y=some b→b<w.heap.size∧∀ o,m.get n=some o→blk N n o≠some b:=
  fun k y b hy hk hb=>⟨(h.obj k y hy).lt hb,fun o ho he=>hk (h.apart k n y o b hy ho hb he)⟩
 refine ⟨h.F0,h.Fnew,fun b hb=>Nat.lt_of_lt_of_le (h.Fin b hb) size,os.trans h.os,tape.trans h.tape,output.trans h.output,Nat.le_trans h.size size,?_,?_,?_,?_,?_,?_,?_,Nat.le_trans h.ksize size⟩
 ·intro b hb hs
  refine (hkeep b (Nat.lt_of_lt_of_le hb h.size) (fun o ho he=>?_)).trans (h.kept b hb hs)
  rcases (h.free n o b ho he).2 with h1 | h1
  ·exact hs h1
  ·omega
 ·intro k x hx
  rcases get k x hx with ⟨rfl,rfl⟩ | ⟨hk,y,hy,rfl⟩
  ·exact hnew
  ·exact db.forget hN (eB hk) ((h.obj k y hy).mono (fun _ hb=>hb) hFk (fun b hb=>have:=far k y b hy hk hb;hkeep b this.1 this.2))
 ·intro k x b hx hb
  rcases get k x hx with ⟨rfl,rfl⟩ | ⟨hk,y,hy,rfl⟩
  ·rcases hblk b hb with ⟨o,ho,he⟩ | hle
   ·exact h.free _ o b ho he
   ·exact ⟨fun hF=>by have:=h.Fin b hF;omega, .inr (Nat.le_trans h.size hle)⟩
  ·rw [ck hN (eB hk)] at hb
   exact h.free k y b hy hb
 ·intro k k' x x' b hx hx' hb hb'
  rcases get k x hx with ⟨rfl,rfl⟩ | ⟨hk,y,hy,rfl⟩ <;> rcases get k' x' hx' with ⟨rfl,rfl⟩ | ⟨hk',y',hy',rfl⟩
  ·rfl
  ·exfalso
   rw [ck hN (eB hk')] at hb'
   have:=far k' y' b hy' hk' hb'
   rcases hblk b hb with ⟨o,ho,he⟩ | hle
   ·exact this.2 o ho he
   ·omega
  ·exfalso
   rw [ck hN (eB hk)] at hb
   have:=far k y b hy hk hb
   rcases hblk b hb' with ⟨o,ho,he⟩ | hle
   ·exact this.2 o ho he
   ·omega
  ·rw [ck hN (eB hk)] at hb
   rw [ck hN (eB hk')] at hb'
   exact h.apart k k' y y' b hy hy' hb hb'
 ·intro k hk
  have hkn:k≠n:=by
   rintro rfl
   rw [hP] at hk
   cases hk
  rw [(hN k (eB hkn)).1,(hN k (eB hkn)).2]
  exact h.named k hk
 ·intro b hb hl
  refine (hkeep b (Nat.lt_of_lt_of_le hl h.ksize) (fun o ho he=>?_)).trans (h.agree b hb hl)
  rw [h.knames n o b ho he hb hl] at hK
  cases hK
 ·intro k x b hx hb hkb hl
  rcases get k x hx with ⟨rfl,rfl⟩ | ⟨hk,y,hy,rfl⟩
  ·rcases hblk b hb with ⟨o,ho,he⟩ | hle
   ·exact h.knames _ o b ho he hkb hl
   ·have:=h.ksize
    omega
  ·rw [ck hN (eB hk)] at hb
   exact h.knames k y b hy hb hkb hl
theorem bX.write {c:Ctx} {F:Nat→Prop} {N:aI} {w w':World} {m:Mem} {n:Nat} {o o':AObj} (h:bX c F N w m) (ho:m.get n=some o) (hK:inl c.KN n=false)
  (os:w'.os=w.os) (tape:w'.tape=w.tape) (output:w'.output=w.output) (size:w.heap.size≤w'.heap.size)
  (hkeep:∀ b,b<w.heap.size→blk N n o≠some b→w'.heap[b]? =w.heap[b]?) (hnew:db F N w' n o') (hblk:blk N n o'=blk N n o):bX c F N w' (m.set n o'):=by
 have hFk:∀ b,F b→w'.heap[b]? =w.heap[b]? :=fun b hb=>hkeep b (h.Fin b hb) (fun he=>(h.free n o b ho he).1 hb)
 have get:∀ k x,(m.set n o').get k=some x→(k=n∧x=o')∨(k≠n∧m.get k=some x):=by
  intro k x hx
  rw [Mem.get_set] at hx
  by_cases hk:k=n
  ·subst hk
   rw [if_pos rfl,ho] at hx
   simp only [Option.map_some,Option.some.injEq] at hx
   exact .inl ⟨rfl,hx.symm⟩
  ·rw [if_neg hk] at hx
   exact .inr ⟨hk,hx⟩
 have was:∀ k x b,(m.set n o').get k=some x→blk N k x=some b→∃ y,m.get k=some y∧blk N k y=some b:=by
  intro k x b hx hb
  rcases get k x hx with ⟨rfl,rfl⟩ | ⟨_,hy⟩
  ·exact ⟨o,ho,hblk ▸hb⟩
  ·exact ⟨x,hy,hb⟩
 refine ⟨h.F0,h.Fnew,fun b hb=>Nat.lt_of_lt_of_le (h.Fin b hb) size,os.trans h.os,tape.trans h.tape,output.trans h.output,Nat.le_trans h.size size,?_,?_,?_,?_,h.named,?_,?_,Nat.le_trans h.ksize size⟩
 ·intro b hb hs
  refine (hkeep b (Nat.lt_of_lt_of_le hb h.size) (fun he=>?_)).trans (h.kept b hb hs)
  rcases (h.free n o b ho he).2 with h1 | h1
  ·exact hs h1
  ·omega
 ·intro k x hx
  rcases get k x hx with ⟨rfl,rfl⟩ | ⟨hk,hy⟩
  ·exact hnew
  ·exact (h.obj k x hy).mono (fun _ hb=>hb) hFk (fun b hb=>hkeep b ((h.obj k x hy).lt hb) (fun he=>hk (h.apart k n x o b hy ho hb he)))
 ·intro k x b hx hb
  obtain ⟨y,hy,hb'⟩:=was k x b hx hb
  exact h.free k y b hy hb'
 ·intro k k' x x' b hx hx' hb hb'
  obtain ⟨y,hy,hyb⟩:=was k x b hx hb
  obtain ⟨y',hy',hyb'⟩:=was k' x' b hx' hb'
  exact h.apart k k' y y' b hy hy' hyb hyb'
 ·intro b hb hl
  refine (hkeep b (Nat.lt_of_lt_of_le hl h.ksize) (fun he=>?_)).trans (h.agree b hb hl)
  rw [h.knames n o b ho he hb hl] at hK
  cases hK
 ·intro k x b hx hb hkb hl
  rcases get k x hx with ⟨rfl,rfl⟩ | ⟨hk,hy⟩
  ·exact h.knames k o b ho (hblk ▸hb) hkb hl
  ·exact h.knames k x b hy hb hkb hl
end LJ
