/- A logic for the walks: the operations of a region, reckoned. -/
import Derived.Test.YtpnnkehkjfciiaaGreatDoorXStr
namespace LJ
open Go Go.RowKit
set_option linter.unusedVariables false
set_option linter.unusedSimpArgs false
inductive TK:Type
 | int (k:IntKind)
 | bool
 | str
 | ptr
 | slice (e sz:Nat)
 | struct (n:Nat) (fs:List (Nat×Nat×Bool)) (zs:List DV)
 | arr (n len e sz:Nat)
 | one
def kH (P:Program) (S:TypeId) (f:Nat):Bool:=
 match P.underlying S with
 | some (.struct fs)=>match fs[f]? with
  | some fd=>oneB P fd.type
  | none=>false
 | _=>false
def iU (P:Program) (S:TypeId):Nat→List (Nat×Nat×Bool)→Bool
 | _,[]=>true
 | i,(off,sz,one)::l=>(match eg P S i with | some o=>Nat.beq o off&& !(Nat.beq sz 0) | none=>Nat.beq sz 0)&&(!one||kH P S i)&&iU P S (i+1) l
def DV.zeq:DV→DV→Bool
 | .int k a, .int k' b=>decide (k=k')&&decide (a=0)&&decide (b=0)
 | .bool false, .bool false=>true
 | .str s, .str t=>Nat.beq s.size 0&&Nat.beq t.size 0
 | .nilp, .nilp=>true
 | .nils, .nils=>true
 | .nili, .nili=>true
 | _,_=>false
theorem oy {s:ByteArray} (h:Nat.beq s.size 0=true):s=ByteArray.empty:=by
 have:s.data.size=0:=Nat.eq_of_beq_eq_true h
 cases s with
 | mk d=>
  have:d=#[]:=Array.eq_empty_of_size_eq_zero this
  subst this
  rfl
theorem DV.zeq_eq {a b:DV} (h:DV.zeq a b=true):a=b:=by
 unfold DV.zeq at h
 split at h
 ·simp only [Bool.and_eq_true,decide_eq_true_eq] at h
  obtain ⟨⟨rfl,rfl⟩,rfl⟩:=h
  rfl
 ·rfl
 ·simp only [Bool.and_eq_true] at h
  rw [oy h.1,oy h.2]
 ·rfl
 ·rfl
 ·rfl
 ·cases h
def zeqL:List DV→List DV→Bool
 | [],[]=>true
 | a::l,b::l'=>DV.zeq a b&&zeqL l l'
 | _,_=>false
theorem sA:∀ {l l':List DV},zeqL l l'=true→l=l'
 | [],[],_=>rfl
 | [],_::_,h=>by cases h
 | _::_,[],h=>by cases h
 | a::l,b::l',h=>by
  simp only [zeqL,Bool.and_eq_true] at h
  rw [DV.zeq_eq h.1,sA h.2]
def oz (P:Program) (T:TypeId) (zs:List DV):Bool:=
 match iP P T with
 | some ds=>zeqL ds zs
 | none=>false
theorem qK {P:Program} {T:TypeId} {zs:List DV} (h:oz P T zs=true):iP P T=some zs:=by
 unfold oz at h
 split at h
 ·rename_i ds hds
  rw [hds,sA h]
 ·cases h
def iV (P:Program) (S:TypeId):Nat→List (Nat×Nat×Bool)→Bool
 | _,[]=>true
 | i,(off,sz,_)::l=>(match dV P S i with | some (o,s)=>Nat.beq o off&&Nat.beq s sz | none=>false)&&iV P S (i+1) l
def TK.ok (P:Program) (T:TypeId):TK→Bool
 | .int k=>(match P.underlying T with | some (.int k')=>decide (k'=k) | _=>false)&&oz P T [.int k 0]&&oneB P T
 | .bool=>(match P.underlying T with | some .bool=>true | _=>false)&&oz P T [.bool false]&&oneB P T
 | .str=>(match P.underlying T with | some .string=>true | _=>false)&&oz P T [.str .empty]&&oneB P T
 | .ptr=>(match P.underlying T with | some (.pointer _)=>true | _=>false)&&oz P T [.nilp]&&oneB P T
 | .slice e sz=>(match gp P T with | some (e',sz')=>Nat.beq e' e&&Nat.beq sz' sz | none=>false)&&oz P T [.nils]&&oneB P T
 | .struct n fs zs=>aggB P T n&&iU P T 0 fs&&(iV P T 0 fs&&(iq P T&&oz P T zs))
 | .arr n len e sz=>aggB P T n&&(match w7 P T with | some (l',e',sz')=>Nat.beq l' len&&Nat.beq e' e&&Nat.beq sz' sz | none=>false)
 | .one=>oneB P T
def cq:List (Nat×TK)→Nat→Option TK
 | [],_=>none
 | (k,v)::l,t=>cond (Nat.beq k t) (some v) (cq l t)
def ttOK (P:Program):List (Nat×TK)→Bool
 | []=>true
 | (T,k)::l=>k.ok P T&&ttOK P l
def TK.isOne:TK→Bool
 | .struct _ _ _=>false
 | .arr _ _ _ _=>false
 | _=>true
section
variable {P:Program} {T:TypeId} {tt:List (Nat×TK)}
theorem aR:∀ {tt:List (Nat×TK)},ttOK P tt=true→∀ {k:TK},cq tt T=some k→k.ok P T=true
 | [],_,k,h=>by cases h
 | (t,v)::l,ho,k,h=>by
  simp only [ttOK,Bool.and_eq_true] at ho
  simp only [cq] at h
  cases e:Nat.beq t T with
  | true=>
   rw [e] at h
   simp only [cond_true,Option.some.injEq] at h
   have:=Nat.eq_of_beq_eq_true e
   subst this;subst h
   exact ho.1
  | false=>
   rw [e] at h
   exact aR ho.2 h
theorem TK.one_ok {k:TK} (h:k.ok P T=true) (h1:k.isOne=true):oneB P T=true:=by
 cases k <;> simp only [TK.ok,Bool.and_eq_true] at h <;> first | exact h.2 | exact h | cases h1
theorem TK.int_ok {k:IntKind} (h:(TK.int k).ok P T=true):P.underlying T=some (.int k):=by
 simp only [TK.ok,Bool.and_eq_true] at h
 have h1:=h.1.1
 split at h1
 ·rename_i k' hk
  rw [hk,of_decide_eq_true h1]
 ·cases h1
theorem TK.bool_ok (h:TK.bool.ok P T=true):P.underlying T=some .bool:=by
 simp only [TK.ok,Bool.and_eq_true] at h
 have h1:=h.1.1
 split at h1
 ·assumption
 ·cases h1
theorem TK.str_ok (h:TK.str.ok P T=true):P.underlying T=some .string:=by
 simp only [TK.ok,Bool.and_eq_true] at h
 have h1:=h.1.1
 split at h1
 ·assumption
 ·cases h1
theorem TK.ptr_ok (h:TK.ptr.ok P T=true):P.underlying T=some (.pointer (P.pointee T)):=by
 simp only [TK.ok,Bool.and_eq_true] at h
 have h1:=h.1.1
 split at h1
 ·rename_i e he
  simp only [Program.pointee,he]
 ·cases h1
theorem TK.slice_ok {e sz:Nat} (h:(TK.slice e sz).ok P T=true):gp P T=some (e,sz):=by
 simp only [TK.ok,Bool.and_eq_true] at h
 have h1:=h.1.1
 split at h1
 ·rename_i e' sz' he
  simp only [Bool.and_eq_true] at h1
  rw [he,Nat.eq_of_beq_eq_true h1.1,Nat.eq_of_beq_eq_true h1.2]
 ·cases h1
theorem TK.arr_ok {n len e sz:Nat} (h:(TK.arr n len e sz).ok P T=true):aggB P T n=true∧w7 P T=some (len,e,sz):=by
 simp only [TK.ok,Bool.and_eq_true] at h
 refine ⟨h.1,?_⟩
 have h1:=h.2
 split at h1
 ·rename_i l' e' sz' he
  simp only [Bool.and_eq_true] at h1
  rw [he,Nat.eq_of_beq_eq_true h1.1.1,Nat.eq_of_beq_eq_true h1.1.2,Nat.eq_of_beq_eq_true h1.2]
 ·cases h1
def nth {α:Type} :List α→Nat→Option α
 | [],_=>none
 | x::_,0=>some x
 | _::l,i+1=>nth l i
theorem ep {α:Type} :∀ (l:List α) (i:Nat),nth l i=l[i]?
 | [],i=>by simp [nth]
 | x::l,0=>by simp [nth]
 | x::l,i+1=>by simp [nth,ep l i]
theorem j0:∀ {fs:List (Nat×Nat×Bool)} {i f:Nat} {off sz:Nat} {one:Bool},iU P T i fs=true→nth fs f=some (off,sz,one)→Nat.beq sz 0=false→eg P T (i+f)=some off∧(one=true→kH P T (i+f)=true)
 | [],i,f,off,sz,one,h,hf,hz=>by cases hf
 | (o1,s1,b1)::fs,i,0,off,sz,one,h,hf,hz=>by
  simp only [nth,Option.some.injEq,Prod.mk.injEq] at hf
  obtain ⟨rfl,rfl,rfl⟩:=hf
  simp only [iU,Bool.and_eq_true] at h
  obtain ⟨⟨h1,h2⟩,_⟩:=h
  constructor
  ·split at h1
   ·rename_i o ho
    simp only [Bool.and_eq_true] at h1
    rw [Nat.add_zero,ho,Nat.eq_of_beq_eq_true h1.1]
   ·rw [hz] at h1;cases h1
  ·intro hb
   subst hb
   simpa using h2
 | (o1,s1,b1)::fs,i,f+1,off,sz,one,h,hf,hz=>by
  simp only [iU,Bool.and_eq_true] at h
  have:=j0 (i:=i+1) h.2 hf hz
  rwa [show i+1+f=i+(f+1) by omega] at this
theorem TK.struct_ok {n:Nat} {fs:List (Nat×Nat×Bool)} {zs:List DV} (h:(TK.struct n fs zs).ok P T=true):aggB P T n=true∧∀ {f off sz:Nat} {one:Bool},nth fs f=some (off,sz,one)→Nat.beq sz 0=false→eg P T f=some off∧(one=true→kH P T f=true):=by
 simp only [TK.ok,Bool.and_eq_true] at h
 refine ⟨h.1.1,fun hf hz=>?_⟩
 have:=j0 h.1.2 hf hz
 rwa [Nat.zero_add] at this
def plOf (fs:List (Nat×Nat×Bool)) (i:Nat):Option (Nat×Nat):=
 match nth fs i with
 | some (o,s,_)=>some (o,s)
 | none=>none
theorem j1:∀ {fs:List (Nat×Nat×Bool)} {i f:Nat} {q:Nat×Nat},iV P T i fs=true→plOf fs f=some q→dV P T (i+f)=some q
 | [],i,f,q,h,hf=>by cases hf
 | (o1,s1,b1)::fs,i,0,q,h,hf=>by
  simp only [iV,Bool.and_eq_true] at h
  have h1:=h.1
  split at h1
  ·rename_i o s ho
   simp only [Bool.and_eq_true] at h1
   rw [Nat.add_zero,ho,Nat.eq_of_beq_eq_true h1.1,Nat.eq_of_beq_eq_true h1.2]
   exact hf
  ·cases h1
 | (o1,s1,b1)::fs,i,f+1,q,h,hf=>by
  simp only [iV,Bool.and_eq_true] at h
  have:=j1 (i:=i+1) h.2 (show plOf fs f=some q from hf)
  rwa [show i+1+f=i+(f+1) by omega] at this
theorem TK.struct_made {n:Nat} {fs:List (Nat×Nat×Bool)} {zs:List DV} (h:(TK.struct n fs zs).ok P T=true):(∀ i q,plOf fs i=some q→dV P T i=some q)∧iq P T=true∧iP P T=some zs:=by
 simp only [TK.ok,Bool.and_eq_true] at h
 refine ⟨fun i q hq=>?_,h.2.2.1,qK h.2.2.2⟩
 have:=j1 h.2.1 hq
 rwa [Nat.zero_add] at this
theorem mA {pl pl':Nat→Option (Nat×Nat)} (h:∀ i q,pl i=some q→pl' i=some q):∀ {qs:List (Nat×DV)} {zs ds:List DV},jC pl zs qs=some ds→jC pl' zs qs=some ds
 | [],zs,ds,hf=>hf
 | (i,d)::qs,zs,ds,hf=>by
  simp only [jC] at hf ⊢
  split at hf
  ·cases hf
  ·rename_i off size hp
   rw [h _ _ hp]
   simp only []
   cases hb:(Nat.beq d.cells.length size&&Nat.ble (off+d.cells.length) zs.length) with
   | false=>rw [hb] at hf;cases hf
   | true=>
    rw [hb] at hf
    exact mA h hf
def eC {α:Type} :List α→Option (List α)
 | []=>some []
 | x::l=>match eC l with
  | some l'=>some (x::l')
  | none=>none
theorem bt {α:Type} :∀ {l l':List α},eC l=some l'→l'=l
 | [],l',h=>by simp only [eC,Option.some.injEq] at h;exact h.symm
 | x::l,l',h=>by
  simp only [eC] at h
  split at h
  ·rename_i l'' hl
   injection h with h
   rw [←h,bt hl]
  ·cases h
end
def opnd (E:Env):Operand→Option AV
 | .tmp t=>some (E.get t)
 | .const v=>match dvOf v with
  | some d=>some (.d d)
  | none=>none
 | .global g=>match gget kq g with
  | some cs=>some (.d (.elp cs))
  | none=>none
 | _=>none
theorem aA {E:Env} {x:Operand} {p:AV} (h:opnd E x=some p):IsOp E x p:=by
 cases x with
 | tmp t=>
  simp only [opnd,Option.some.injEq] at h
  exact .tmp h
 | const v=>
  simp only [opnd] at h
  split at h
  ·rename_i d hd
   injection h with h
   subst h
   exact fun F N w a he=> .d (qJ hd)
  ·cases h
 | global g=>
  simp only [opnd] at h
  split at h
  ·rename_i cs hd
   injection h with h
   subst h
   exact .glob hd
  ·cases h
 | _=>cases h
def isC:Operand→Bool
 | .const _=>true
 | _=>false
abbrev VR:=Option (Option Prop×AV)
def dJ:Option Prop→Prop
 | none=>True
 | some φ=>φ
def mB (c:Bool) (φ:Prop) [Decidable φ] (p:AV):VR:=
 match c with
 | true=>match decide φ with
  | true=>some (none,p)
  | false=>none
 | false=>some (some φ,p)
theorem iW {c:Bool} {φ:Prop} [Decidable φ] {p q:AV} {ψ:Option Prop} (h:mB c φ p=some (ψ,q)) (hψ:dJ ψ):φ∧p=q:=by
 unfold mB at h
 split at h
 ·split at h
  ·rename_i hd
   injection h with h
   injection h with h1 h2
   exact ⟨of_decide_eq_true hd,h2⟩
  ·cases h
 ·injection h with h
  injection h with h1 h2
  subst h1
  exact ⟨hψ,h2⟩
def oA (E:Env) (x:Operand):VR:=
 match opnd E x with
 | some (.d v)=>some (none, .d v)
 | some (.own n)=>some (none, .own n)
 | some (.ptr n o)=>some (none, .ptr n o)
 | some (.optp b n o)=>some (none, .optp b n o)
 | some (.rel n o)=>some (none, .rel n o)
 | some (.psl n o a b)=>some (none, .psl n o a b)
 | some (.rsl n o a b)=>some (none, .rsl n o a b)
 | some (.tup vs)=>some (none, .tup vs)
 | some (.when b v)=>some (none, .when b v)
 | _=>none
theorem qL {E:Env} {x:Operand} {ψ:Option Prop} {p:AV} (h:oA E x=some (ψ,p)):IsOp E x p:=by
 unfold oA at h
 split at h <;> first | (rename_i hx;injection h with h;injection h with h1 h2;subst h2;exact aA hx) | cases h
def bOf (E:Env) (x:Operand):Option (Option Bool×Bool):=
 match opnd E x with
 | some (.d (.bool b))=>some (none,b)
 | some (.when g (.bool b))=>some (some g,b)
 | _=>none
def req (c:Bool) (v:Bool) (g:Option Bool) (φ:Option Prop):Option Prop:=
 match g with
 | none=>φ
 | some g=>match φ with
  | none=>some (c=v→g=true)
  | some φ=>some ((c=v→g=true)∧φ)
theorem qM {c v:Bool} {g:Option Bool} {φ:Option Prop} (h:dJ (req c v g φ)):(∀ b,g=some b→c=v→b=true)∧dJ φ:=by
 unfold req at h
 split at h
 ·exact ⟨fun b hb=>(by cases hb),h⟩
 ·split at h
  ·exact ⟨fun b hb=>by injection hb with hb;subst hb;exact h,trivial⟩
  ·exact ⟨fun b hb=>by injection hb with hb;subst hb;exact h.1,h.2⟩
def reqT (g:Option Bool) (φ:Option Prop):Option Prop:=
 match g with
 | none=>φ
 | some g=>match φ with
  | none=>some (g=true)
  | some φ=>some (g=true∧φ)
theorem pK {g:Option Bool} {φ:Option Prop} (h:dJ (reqT g φ)):(∀ b,g=some b→b=true)∧dJ φ:=by
 unfold reqT at h
 split at h
 ·exact ⟨fun b hb=>(by cases hb),h⟩
 ·split at h
  ·exact ⟨fun b hb=>by injection hb with hb;subst hb;exact h,trivial⟩
  ·exact ⟨fun b hb=>by injection hb with hb;subst hb;exact h.1,h.2⟩
def vZ (E:Env) (x y z:Operand):VR:=
 match bOf E x with
 | some (gx,b)=>
  match z with
  | .const (.bool false)=>match bOf E y with
   | some (g,u)=>some (reqT gx (req b true g none), .d (.bool (b&&u)))
   | none=>none
  | _=>match y with
   | .const (.bool true)=>match bOf E z with
    | some (g,u)=>some (reqT gx (req b false g none), .d (.bool (b||u)))
    | none=>none
   | _=>match bOf E y,bOf E z with
    | some (g,u),some (g',u')=>some (reqT gx (req b true g (req b false g' none)), .d (.bool (cond b u u')))
    | _,_=>none
 | none=>none
theorem fP {E:Env} {x:Operand} {g:Option Bool} {u:Bool} (h:bOf E x=some (g,u)) {F:Nat→Prop} {N:aI} {w:World} {a:Act} (he:cg F N w a E) (hg:∀ b,g=some b→b=true):a.eval x= .bool u:=by
 unfold bOf at h
 split at h
 ·rename_i b hx
  injection h with h
  injection h with h1 h2
  subst h2
  exact (aA hx).bool_eval he
 ·rename_i g' b hx
  injection h with h
  injection h with h1 h2
  subst h2;subst h1
  exact ((aA hx F N w a he).when_inv (hg g' rfl)).bool_inv
 ·cases h
theorem ni {P:Program} {o:Oper} {E:Env} {m:Mem} {x y z:Operand} {b u v r:Bool} (hx:∀ F N w a,cg F N w a E→a.eval x= .bool b) (hy:b=true→∀ F N w a,cg F N w a E→a.eval y= .bool u) (hz:b=false→∀ F N w a,cg F N w a E→a.eval z= .bool v) (ho:o.op= .pick x y z) (hr:cond b u v=r):aF P o E m (.d (.bool r)):=
 Y.data (u:= .bool r) (fun _ _ _=> .d .bool) fun F N w a he w'=>by
  have hx':=hx F N w a he
  unfold execOp;subst hr
  cases b with
  | true=>simp [ho,hx',hy rfl F N w a he,asBool]
  | false=>simp [ho,hx',hz rfl F N w a he,asBool]
theorem uH {P:Program} {o:Oper} {E:Env} {m:Mem} {x y z:Operand} {ψ:Option Prop} {p:AV} (ho:o.op= .pick x y z) (h:vZ E x y z=some (ψ,p)) (hψ:dJ ψ):aF P o E m p:=by
 unfold vZ at h
 split at h
 ·rename_i gx b hx
  split at h
  ·split at h
   ·rename_i g u hy
    injection h with h
    injection h with h1 h2
    subst h1;subst h2
    obtain ⟨k0,hψ⟩:=pK hψ
    obtain ⟨k1,_⟩:=qM hψ
    exact ni (u:=u) (v:=false) (fun F N w a he=>fP hx he k0) (fun hb F N w a he=>fP hy he (fun c hc=>k1 c hc hb)) (fun _ F N w a he=>rfl) ho (by cases b <;> rfl)
   ·cases h
  ·split at h
   ·split at h
    ·rename_i g u hz
     injection h with h
     injection h with h1 h2
     subst h1;subst h2
     obtain ⟨k0,hψ⟩:=pK hψ
     obtain ⟨k1,_⟩:=qM hψ
     exact ni (u:=true) (v:=u) (fun F N w a he=>fP hx he k0) (fun _ F N w a he=>rfl) (fun hb F N w a he=>fP hz he (fun c hc=>k1 c hc hb)) ho (by cases b <;> rfl)
    ·cases h
   ·split at h
    ·rename_i g u g' u' hy hz
     injection h with h
     injection h with h1 h2
     subst h1;subst h2
     obtain ⟨k0,hψ⟩:=pK hψ
     obtain ⟨k1,k2⟩:=qM hψ
     obtain ⟨k3,_⟩:=qM k2
     exact ni (u:=u) (v:=u') (fun F N w a he=>fP hx he k0) (fun hb F N w a he=>fP hy he (fun c hc=>k1 c hc hb)) (fun hb F N w a he=>fP hz he (fun c hc=>k3 c hc hb)) ho rfl
    ·cases h
 ·cases h
def sB (op:BinOp) (c:Bool) (k k':IntKind) (a b:Int):VR:=
 match op with
 | .shl=>mB c (0≤b) (.d (.int k (k.wrap (a*2 ^min b.toNat k.bits))))
 | .shr=>mB c (0≤b) (.d (.int k (a /2 ^min b.toNat k.bits)))
 | op=>match decEq k k' with
  | .isFalse _=>none
  | .isTrue _=>match op with
   | .add=>some (none, .d (.int k (k.wrap (a+b))))
   | .sub=>some (none, .d (.int k (k.wrap (a - b))))
   | .mul=>some (none, .d (.int k (k.wrap (a*b))))
   | .quo=>mB c (b≠0) (.d (.int k (k.wrap (a.tdiv b))))
   | .rem=>mB c (b≠0) (.d (.int k (a.tmod b)))
   | .and=>some (none, .d (.int k (Go.bits .and k a b)))
   | .or=>some (none, .d (.int k (Go.bits .or k a b)))
   | .xor=>some (none, .d (.int k (Go.bits .xor k a b)))
   | .andNot=>some (none, .d (.int k (Go.bits .andNot k a b)))
   | .eql=>some (none, .d (.bool (decide (a=b))))
   | .neq=>some (none, .d (.bool (decide (a≠b))))
   | .lss=>some (none, .d (.bool (decide (a<b))))
   | .leq=>some (none, .d (.bool (decide (a≤b))))
   | .gtr=>some (none, .d (.bool (decide (b<a))))
   | .geq=>some (none, .d (.bool (decide (b≤a))))
   | _=>none
theorem sC {P:Program} {o:Oper} {E:Env} {m:Mem} {x y:Operand} {k k':IntKind} {a b:Int} {T T':TypeId} {op:BinOp} {c:Bool} {ψ:Option Prop} {p:AV} (hx:IsOp E x (.d (.int k a))) (hy:IsOp E y (.d (.int k' b))) (ho:o.op= .binOp op T x y T')
  (h:sB op c k k' a b=some (ψ,p)) (hψ:dJ ψ):aF P o E m p:=by
 unfold sB at h
 split at h
 ·obtain ⟨h1,rfl⟩:=iW h hψ
  exact Y.shl hx hy ho h1 rfl
 ·obtain ⟨h1,rfl⟩:=iW h hψ
  exact Y.shr hx hy ho h1 rfl
 ·split at h
  ·cases h
  ·rename_i hk _
   subst hk
   split at h
   ·injection h with h;injection h with h1 h2;subst h2;exact Y.add hx hy ho rfl
   ·injection h with h;injection h with h1 h2;subst h2;exact Y.sub hx hy ho rfl
   ·injection h with h;injection h with h1 h2;subst h2;exact Y.mul hx hy ho rfl
   ·obtain ⟨h1,rfl⟩:=iW h hψ;exact Y.quo hx hy ho h1 rfl
   ·obtain ⟨h1,rfl⟩:=iW h hψ;exact Y.rem hx hy ho h1 rfl
   ·injection h with h;injection h with h1 h2;subst h2;exact Y.and hx hy ho rfl
   ·injection h with h;injection h with h1 h2;subst h2;exact Y.or hx hy ho rfl
   ·injection h with h;injection h with h1 h2;subst h2;exact Y.xor hx hy ho rfl
   ·injection h with h;injection h with h1 h2;subst h2;exact Y.andNot hx hy ho rfl
   ·injection h with h;injection h with h1 h2;subst h2;exact Y.eql hx hy ho
   ·injection h with h;injection h with h1 h2;subst h2;exact Y.neq hx hy ho
   ·injection h with h;injection h with h1 h2;subst h2;exact Y.lss hx hy ho
   ·injection h with h;injection h with h1 h2;subst h2;exact Y.leq hx hy ho
   ·injection h with h;injection h with h1 h2;subst h2;exact Y.gtr hx hy ho
   ·injection h with h;injection h with h1 h2;subst h2;exact Y.geq hx hy ho
   ·cases h
def sD (op:BinOp) (a b:Bool):VR:=
 match op with
 | .eql=>some (none, .d (.bool (a==b)))
 | .neq=>some (none, .d (.bool (!(a==b))))
 | _=>none
def vz (op:BinOp) (s t:ByteArray):VR:=
 match op with
 | .eql=>some (none, .d (.bool (decide (s=t))))
 | .neq=>some (none, .d (.bool (!decide (s=t))))
 | .add=>some (some (s.size+t.size≤9223372036854775807), .d (.str (s++t)))
 | _=>none
def yb (op:BinOp) (b:Bool):VR:=
 match op with
 | .eql=>some (none, .d (.bool b))
 | .neq=>some (none, .d (.bool (!b)))
 | _=>none
def vBin (tt:List (Nat×TK)) (E:Env) (op:BinOp) (T:TypeId) (x y:Operand):VR:=
 match opnd E x with
 | some (.d (.int k a))=>match opnd E y with
  | some (.d (.int k' b))=>sB op (isC y) k k' a b
  | _=>none
 | some (.d (.bool a))=>match opnd E y with
  | some (.d (.bool b))=>match cq tt T with
   | some .bool=>sD op a b
   | _=>none
  | _=>none
 | some (.d (.str s))=>match opnd E y with
  | some (.d (.str t))=>vz op s t
  | _=>none
 | some (.ptr n off)=>match opnd E y with
  | some (.d .nilp)=>match cq tt T with
   | some .ptr=>match op with
    | .eql=>some (none, .d (.bool false))
    | .neq=>some (none, .d (.bool true))
    | _=>none
   | _=>none
  | _=>none
 | some (.d .nilp)=>match opnd E y with
  | some (.d .nilp)=>match cq tt T with
   | some .ptr=>match op with
    | .eql=>some (none, .d (.bool true))
    | .neq=>some (none, .d (.bool false))
    | _=>none
   | _=>none
  | _=>none
 | _=>none
theorem v7 {P:Program} {tt:List (Nat×TK)} (htt:ttOK P tt=true) {o:Oper} {E:Env} {m:Mem} {x y:Operand} {T T':TypeId} {op:BinOp} {ψ:Option Prop} {p:AV} (ho:o.op= .binOp op T x y T') (h:vBin tt E op T x y=some (ψ,p)) (hψ:dJ ψ):aF P o E m p:=by
 unfold vBin at h
 split at h
 ·rename_i k a hx
  split at h
  ·rename_i k' b hy
   exact sC (aA hx) (aA hy) ho h hψ
  ·cases h
 ·rename_i a hx
  split at h
  ·rename_i b hy
   split at h
   ·rename_i hT
    have hT':=TK.bool_ok (aR htt hT)
    unfold sD at h
    split at h
    ·injection h with h;injection h with h1 h2;subst h2;exact Y.beql (aA hx) (aA hy) ho hT'
    ·injection h with h;injection h with h1 h2;subst h2;exact Y.bneq (aA hx) (aA hy) ho hT'
    ·cases h
   ·cases h
  ·cases h
 ·rename_i s hx
  split at h
  ·rename_i t hy
   unfold vz at h
   split at h
   ·injection h with h;injection h with h1 h2;subst h2;exact Y.seql (aA hx) (aA hy) ho
   ·injection h with h;injection h with h1 h2;subst h2;exact Y.sneq (aA hx) (aA hy) ho
   ·injection h with h;injection h with h1 h2;subst h2;subst h1;exact Y.cat (aA hx) (aA hy) ho hψ
   ·cases h
  ·cases h
 ·rename_i n off hx
  split at h
  ·rename_i hy
   split at h
   ·rename_i hT
    have hT':=TK.ptr_ok (aR htt hT)
    split at h
    ·injection h with h;injection h with h1 h2;subst h2;exact Y.peql_ptr (aA hx) (aA hy) ho hT'
    ·injection h with h;injection h with h1 h2;subst h2;exact Y.pneq_ptr (aA hx) (aA hy) ho hT'
    ·cases h
   ·cases h
  ·cases h
 ·rename_i hx
  split at h
  ·rename_i hy
   split at h
   ·rename_i hT
    have hT':=TK.ptr_ok (aR htt hT)
    split at h
    ·injection h with h;injection h with h1 h2;subst h2;exact Y.peql_nil (aA hx) (aA hy) ho hT'
    ·injection h with h;injection h with h1 h2;subst h2;exact Y.pneq_nil (aA hx) (aA hy) ho hT'
    ·cases h
   ·cases h
  ·cases h
 ·cases h
def vUn (E:Env) (op:UnOp) (x:Operand):VR:=
 match op with
 | .neg=>match opnd E x with
  | some (.d (.int k a))=>some (none, .d (.int k (k.wrap (0 - a))))
  | _=>none
 | .not=>match opnd E x with
  | some (.d (.bool a))=>some (none, .d (.bool (!a)))
  | _=>none
 | .xor=>match opnd E x with
  | some (.d (.int k a))=>some (none, .d (.int k (Go.bits .xor k (cond k.signed (-1) k.max) a)))
  | _=>none
 | _=>none
theorem xa {P:Program} {o:Oper} {E:Env} {m:Mem} {x:Operand} {T:TypeId} {op:UnOp} {ψ:Option Prop} {p:AV} (ho:o.op= .unOp op T x) (h:vUn E op x=some (ψ,p)):aF P o E m p:=by
 unfold vUn at h
 split at h
 ·split at h
  ·rename_i k a hx
   injection h with h;injection h with h1 h2;subst h2;exact Y.neg (aA hx) ho rfl
  ·cases h
 ·split at h
  ·rename_i a hx
   injection h with h;injection h with h1 h2;subst h2;exact Y.not (aA hx) ho
  ·cases h
 ·split at h
  ·rename_i k a hx
   injection h with h;injection h with h1 h2;subst h2;exact Y.inv (aA hx) ho (by cases k.signed <;> rfl)
  ·cases h
 ·cases h
def v8 (tt:List (Nat×TK)) (E:Env) (m:Mem) (T T':TypeId) (x:Operand):VR:=
 match cq tt T with
 | some (.int _)=>match opnd E x with
  | some (.d (.int k a))=>match cq tt T' with
   | some (.int k')=>some (none, .d (.int k' (k'.wrap a)))
   | _=>none
  | _=>none
 | some (.slice e _)=>match cq tt e with
  | some (.int .u8)=>match cq tt T' with
   | some .str=>match opnd E x with
    | some (.own n)=>match m.get n with
     | some (.row _ _ es)=>some (some (es=b8 (w9 es)), .d (.str (w9 es)))
     | _=>none
    | _=>none
   | _=>none
  | _=>none
 | _=>none
theorem uI {P:Program} {tt:List (Nat×TK)} (htt:ttOK P tt=true) {o:Oper} {E:Env} {m:Mem} {x:Operand} {T T':TypeId} {ψ:Option Prop} {p:AV} (ho:o.op= .convert T T' x) (h:v8 tt E m T T' x=some (ψ,p)) (hψ:dJ ψ):aF P o E m p:=by
 unfold v8 at h
 split at h
 ·rename_i hT
  split at h
  ·rename_i k a hx
   split at h
   ·rename_i k' hT'
    injection h with h;injection h with h1 h2;subst h2
    exact Y.conv (aA hx) ho (by rw [TK.int_ok (aR htt hT)];rfl) (TK.int_ok (aR htt hT')) rfl
   ·cases h
  ·cases h
 ·rename_i e sz hT
  split at h
  ·rename_i he
   split at h
   ·rename_i hT'
    split at h
    ·rename_i n hx
     split at h
     ·rename_i e' sz' es hn
      injection h with h;injection h with h1 h2;subst h2;subst h1
      obtain ⟨i,hi,_⟩:=bd (TK.slice_ok (aR htt hT))
      exact Y.str_own (aA hx) hn hψ ho hi (TK.int_ok (aR htt he)) (TK.str_ok (aR htt hT'))
     ·cases h
    ·cases h
   ·cases h
  ·cases h
 ·cases h
def la (E:Env):List (Nat×Operand)→Option (List (Nat×DV))
 | []=>some []
 | (i,x)::l=>match opnd E x with
  | some (.d d)=>match la E l with
   | some qs=>some ((i,d)::qs)
   | none=>none
  | _=>none
theorem iX {E:Env} :∀ {ps:List (Nat×Operand)} {qs:List (Nat×DV)},la E ps=some qs→PartsAre E ps qs
 | [],qs,h=>by simp only [la,Option.some.injEq] at h;subst h;exact .nil
 | (i,x)::l,qs,h=>by
  simp only [la] at h
  split at h
  ·rename_i d hd
   split at h
   ·rename_i rs hr
    injection h with h
    subst h
    exact .cons (aA hd) (iX hr)
   ·cases h
  ·cases h
def sE (tt:List (Nat×TK)) (E:Env) (T:TypeId) (parts:Array (Nat×Operand)):VR:=
 match cq tt T with
 | some (.struct _ fs zs)=>match la E parts.toList with
  | some qs=>match jC (plOf fs) zs qs with
   | some ds=>match eC ds with
    | some ds'=>some (none, .d (.agg ds'))
    | none=>none
   | none=>none
  | none=>none
 | _=>none
theorem sF {P:Program} {tt:List (Nat×TK)} (htt:ttOK P tt=true) {o:Oper} {E:Env} {m:Mem} {T:TypeId} {parts:Array (Nat×Operand)} {ψ:Option Prop} {p:AV} (ho:o.op= .build T parts) (h:sE tt E T parts=some (ψ,p)):aF P o E m p:=by
 unfold sE at h
 split at h
 ·rename_i n fs zs hT
  split at h
  ·rename_i qs hq
   split at h
   ·rename_i ds hds
    split at h
    ·rename_i ds' hn
     injection h with h;injection h with h1 h2;subst h2
     rw [bt hn]
     obtain ⟨k1,k2,k3⟩:=TK.struct_made (aR htt hT)
     exact Y.build (iX hq) (by rw [ho]) k3 k2 (mA k1 hds)
    ·cases h
   ·cases h
  ·cases h
 ·cases h
def nj (E:Env) (x:Operand) (i:Nat):VR:=
 match opnd E x with
 | some (.tup vs)=>match nth vs i with
  | some p=>some (none,p)
  | none=>none
 | _=>none
theorem pL {P:Program} {o:Oper} {E:Env} {m:Mem} {x:Operand} {i:Nat} {ψ:Option Prop} {p:AV} (ho:o.op= .extract x i) (h:nj E x i=some (ψ,p)):aF P o E m p:=by
 unfold nj at h
 split at h
 ·rename_i vs hx
  split at h
  ·rename_i q hq
   injection h with h;injection h with h1 h2;subst h2
   intro c F N w a hm he
   obtain ⟨us,hv,hl,hr⟩:=(aA hx F N w a he).tup_inv
   rw [ep] at hq
   have hlt:i<vs.length:=(List.getElem?_eq_some_iff.1 hq).1
   have hu:us[i]? =some us[i]:=List.getElem?_eq_getElem (by omega)
   exact ⟨us[i],hr i _ q hu hq,fun w' _ _=>by unfold execOp;simp [ho,hv,Instr.extract,hu]⟩
  ·cases h
 ·cases h
def unD:List AV→Option (List DV)
 | []=>some []
 | .d v::l=>match unD l with
  | some vs=>some (v::vs)
  | none=>none
 | _::_=>none
theorem mC:∀ {l:List AV} {ds:List DV},unD l=some ds→l=ds.map AV.d
 | [],ds,h=>by simp only [unD,Option.some.injEq] at h;subst h;rfl
 | .d v::l,ds,h=>by
  simp only [unD] at h
  split at h
  ·rename_i vs hvs
   injection h with h
   subst h
   rw [mC hvs];rfl
  ·cases h
 | .own _::_,_,h | .ptr _ _::_,_,h | .optp _ _ _::_,_,h | .rel _ _::_,_,h | .psl _ _ _ _::_,_,h | .rsl _ _ _ _::_,_,h | .qel _ _::_,_,h | .tup _::_,_,h | .when _ _::_,_,h | .und::_,_,h=>by cases h
def cutL {α:Type} (l:List α) (off n:Nat):List α:=(l.drop off).take n
def wa (tt:List (Nat×TK)) (E:Env) (m:Mem) (T:TypeId) (x:Operand):VR:=
 match cq tt T with
 | none=>none
 | some k=>match opnd E x with
  | some (.ptr n off)=>match m.get n with
   | some (.box _ cs)=>match k with
    | .struct q _ _=>match unD (cutL cs off q) with
     | some ds=>cond (Nat.beq ds.length q) (some (none, .d (.agg ds))) none
     | none=>none
    | .arr q _ _ _=>match unD (cutL cs off q) with
     | some ds=>cond (Nat.beq ds.length q) (some (none, .d (.agg ds))) none
     | none=>none
    | _=>match nth cs off with
     | some p=>some (none,p)
     | none=>none
   | _=>none
  | some (.d (.elp ds))=>match k with
   | .struct q _ _=>cond (Nat.beq (ds.take q).length q) (some (none, .d (.agg (ds.take q)))) none
   | .arr q _ _ _=>cond (Nat.beq (ds.take q).length q) (some (none, .d (.agg (ds.take q)))) none
   | _=>match ds with
    | d::_=>some (none, .d d)
    | []=>none
  | _=>none
theorem uJ {P:Program} {tt:List (Nat×TK)} (htt:ttOK P tt=true) {o:Oper} {E:Env} {m:Mem} {x:Operand} {T:TypeId} {ψ:Option Prop} {p:AV} (ho:o.op= .load T x) (h:wa tt E m T x=some (ψ,p)):aF P o E m p:=by
 unfold wa at h
 split at h
 ·cases h
 ·rename_i k hT
  have hk:=aR htt hT
  split at h
  ·rename_i n off hx
   split at h
   ·rename_i T' cs hn
    split at h
    ·rename_i q fs zs
     split at h
     ·rename_i ds hds
      cases hb:Nat.beq ds.length q with
      | false=>rw [hb] at h;cases h
      | true=>
       rw [hb] at h
       injection h with h;injection h with h1 h2;subst h2
       exact Y.load_agg (aA hx) hn (mC hds) (Nat.eq_of_beq_eq_true hb) ho (TK.struct_ok hk).1
     ·cases h
    ·rename_i q l e sz
     split at h
     ·rename_i ds hds
      cases hb:Nat.beq ds.length q with
      | false=>rw [hb] at h;cases h
      | true=>
       rw [hb] at h
       injection h with h;injection h with h1 h2;subst h2
       exact Y.load_agg (aA hx) hn (mC hds) (Nat.eq_of_beq_eq_true hb) ho (TK.arr_ok hk).1
     ·cases h
    ·rename_i k1 k2
     split at h
     ·rename_i q hq
      injection h with h;injection h with h1 h2;subst h2
      rw [ep] at hq
      exact Y.load (aA hx) hn hq ho (TK.one_ok hk (by cases k <;> first | rfl | exact absurd rfl (k1 _ _ _) | exact absurd rfl (k2 _ _ _ _)))
     ·cases h
   ·cases h
  ·rename_i ds hx
   split at h
   ·rename_i q fs zs
    cases hb:Nat.beq (ds.take q).length q with
    | false=>rw [hb] at h;cases h
    | true=>
     rw [hb] at h
     injection h with h;injection h with h1 h2;subst h2
     exact Y.load_el_agg (aA hx) rfl (Nat.eq_of_beq_eq_true hb) ho (TK.struct_ok hk).1
   ·rename_i q l e sz
    cases hb:Nat.beq (ds.take q).length q with
    | false=>rw [hb] at h;cases h
    | true=>
     rw [hb] at h
     injection h with h;injection h with h1 h2;subst h2
     exact Y.load_el_agg (aA hx) rfl (Nat.eq_of_beq_eq_true hb) ho (TK.arr_ok hk).1
   ·rename_i k1 k2
    split at h
    ·rename_i d l
     injection h with h;injection h with h1 h2;subst h2
     exact Y.load_el (aA hx) rfl ho (TK.one_ok hk (by cases k <;> first | rfl | exact absurd rfl (k1 _ _ _) | exact absurd rfl (k2 _ _ _ _)))
    ·cases h
  ·cases h
def jE (tt:List (Nat×TK)) (E:Env) (S:TypeId) (x:Operand) (f:Nat):VR:=
 match cq tt S with
 | some (.struct _ fs _)=>match nth fs f with
  | some (fo,sz,_)=>cond (Nat.beq sz 0) none (match opnd E x with
   | some (.ptr n off)=>some (none, .ptr n (off+fo))
   | some (.d (.elp ds))=>some (none, .d (.elp (ds.drop fo)))
   | _=>none)
  | none=>none
 | _=>none
theorem nk {P:Program} {tt:List (Nat×TK)} (htt:ttOK P tt=true) {o:Oper} {E:Env} {m:Mem} {x:Operand} {S:TypeId} {f:Nat} {ψ:Option Prop} {p:AV} (ho:o.op= .fieldAddr S x f) (h:jE tt E S x f=some (ψ,p)):aF P o E m p:=by
 unfold jE at h
 split at h
 ·rename_i n fs zs hS
  split at h
  ·rename_i fo sz one hf
   cases hb:Nat.beq sz 0 with
   | true=>rw [hb] at h;cases h
   | false=>
    rw [hb] at h
    simp only [cond_false] at h
    have hk:=((TK.struct_ok (aR htt hS)).2 hf hb).1
    split at h
    ·rename_i hx
     injection h with h;injection h with h1 h2;subst h2
     exact Y.fieldAddr (aA hx) ho hk
    ·rename_i hx
     injection h with h;injection h with h1 h2;subst h2
     exact Y.fieldAddr_el (aA hx) ho hk
    ·cases h
  ·cases h
 ·cases h
def sG (tt:List (Nat×TK)) (E:Env) (S:TypeId) (x:Operand) (f:Nat):VR:=
 match cq tt S with
 | some (.struct _ fs _)=>match nth fs f with
  | some (fo,sz,true)=>cond (Nat.beq sz 0) none (match opnd E x with
   | some (.d (.agg ds))=>match nth ds fo with
    | some d=>some (none, .d d)
    | none=>none
   | _=>none)
  | _=>none
 | _=>none
theorem sH {P:Program} {tt:List (Nat×TK)} (htt:ttOK P tt=true) {o:Oper} {E:Env} {m:Mem} {x:Operand} {S:TypeId} {f:Nat} {ψ:Option Prop} {p:AV} (ho:o.op= .field S x f) (h:sG tt E S x f=some (ψ,p)):aF P o E m p:=by
 unfold sG at h
 split at h
 ·rename_i n fs zs hS
  split at h
  ·rename_i fo sz hf
   cases hb:Nat.beq sz 0 with
   | true=>rw [hb] at h;cases h
   | false=>
    rw [hb] at h
    simp only [cond_false] at h
    have hk:=(TK.struct_ok (aR htt hS)).2 hf hb
    split at h
    ·rename_i ds hx
     split at h
     ·rename_i d hd
      injection h with h;injection h with h1 h2;subst h2
      rw [ep] at hd
      refine Y.field (aA hx) hd ho hk.1 ?_
      have h3:=hk.2 rfl
      unfold kH at h3
      split at h3
      ·rename_i fs' hS'
       rw [hS']
       simp only []
       split at h3
       ·rename_i fd hfd
        simp [hfd,h3]
       ·cases h3
      ·cases h3
     ·cases h
    ·cases h
  ·cases h
 ·cases h
def vLen (tt:List (Nat×TK)) (E:Env) (m:Mem) (T:TypeId) (x:Operand):VR:=
 match opnd E x with
 | some (.d (.str s))=>match cq tt T with
  | some .str=>some (none, .d (.int .i64 s.size))
  | _=>none
 | some (.d (.sl es))=>match cq tt T with
  | some (.slice _ _)=>some (none, .d (.int .i64 es.length))
  | _=>none
 | some (.d (.slf n _))=>match cq tt T with
  | some (.slice _ _)=>some (none, .d (.int .i64 n))
  | _=>none
 | some (.d .nils)=>match cq tt T with
  | some (.slice _ _)=>some (none, .d (.int .i64 0))
  | _=>none
 | some (.own n)=>match m.get n with
  | some (.row _ _ es)=>match cq tt T with
   | some (.slice _ _)=>some (none, .d (.int .i64 es.length))
   | _=>none
  | some (.que _ _ es)=>match cq tt T with
   | some (.slice _ _)=>some (none, .d (.int .i64 es.length))
   | _=>none
  | some (.rowl _ _ _ _ es)=>match cq tt T with
   | some (.slice _ _)=>some (none, .d (.int .i64 es.length))
   | _=>none
  | _=>none
 | _=>none
theorem jF (n:Nat) (f:Nat→List DV):(tab n f).length=n:=by simp [tab]
theorem pM {n:Nat} (f:Nat→List DV) {i:Nat} (h:i<n):(tab n f)[i]? =some (f i):=by simp [tab,h]
theorem IsOp.slf {E:Env} {x:Operand} {n:Nat} {f:Nat→List DV} (h:IsOp E x (.d (.slf n f))):IsOp E x (.d (.sl (tab n f))):=fun F N w a he=> .d (h F N w a he).d_inv.slf_inv
theorem wb {P:Program} {tt:List (Nat×TK)} (htt:ttOK P tt=true) {o:Oper} {E:Env} {m:Mem} {x:Operand} {T:TypeId} {ψ:Option Prop} {p:AV} (ho:o.op= .call {callee:= .builtin .len,args:=#[x],argTypes:=#[T]}) (h:vLen tt E m T x=some (ψ,p)):aF P o E m p:=by
 unfold vLen at h
 split at h
 ·rename_i s hx
  split at h
  ·rename_i hT
   injection h with h;injection h with h1 h2;subst h2
   exact Y.slen (ts:=#[T]) (aA hx) ho (TK.str_ok (aR htt hT))
  ·cases h
 ·rename_i s hx
  split at h
  ·rename_i hT
   injection h with h;injection h with h1 h2;subst h2
   exact Y.len (aA hx) ho (TK.slice_ok (aR htt hT))
  ·cases h
 ·rename_i n f hx
  split at h
  ·rename_i hT
   injection h with h;injection h with h1 h2;subst h2
   have:=Y.len (P:=P) (m:=m) (aA hx).slf ho (TK.slice_ok (aR htt hT))
   rwa [jF] at this
  ·cases h
 ·rename_i hx
  split at h
  ·rename_i hT
   injection h with h;injection h with h1 h2;subst h2
   exact Y.len_nils (aA hx) ho (TK.slice_ok (aR htt hT))
  ·cases h
 ·rename_i n hx
  split at h
  ·rename_i hn
   split at h
   ·rename_i hT
    injection h with h;injection h with h1 h2;subst h2
    exact Y.len_own (aA hx) hn ho (TK.slice_ok (aR htt hT))
   ·cases h
  ·rename_i hn
   split at h
   ·rename_i hT
    injection h with h;injection h with h1 h2;subst h2
    exact Y.len_que (aA hx) hn ho (TK.slice_ok (aR htt hT))
   ·cases h
  ·rename_i hn
   split at h
   ·rename_i hT
    injection h with h;injection h with h1 h2;subst h2
    exact Y.len_rowl (aA hx) hn ho (TK.slice_ok (aR htt hT))
   ·cases h
  ·cases h
 ·cases h
def jG (tt:List (Nat×TK)) (E:Env) (T:TypeId) (x y:Operand):VR:=
 match cq tt T with
 | some (.slice _ sz)=>match opnd E x with
  | some (.d (.slf n f))=>match opnd E y with
   | some (.d (.int _ i))=>some (some (0≤i∧i<n∧(f i.toNat).length=sz), .d (.elp (f i.toNat)))
   | _=>none
  | some (.d (.sl es))=>match opnd E y with
   | some (.d (.int _ (.ofNat i)))=>match nth es i with
    | some el=>cond (Nat.beq el.length sz) (some (none, .d (.elp el))) none
    | none=>none
   | _=>none
  | _=>none
 | _=>none
theorem nn {P:Program} {tt:List (Nat×TK)} (htt:ttOK P tt=true) {o:Oper} {E:Env} {m:Mem} {x y:Operand} {T:TypeId} {ψ:Option Prop} {p:AV} (ho:o.op= .indexAddr T x y) (h:jG tt E T x y=some (ψ,p)) (hψ:dJ ψ):aF P o E m p:=by
 unfold jG at h
 split at h
 ·rename_i e sz hT
  have hk:=TK.slice_ok (aR htt hT)
  split at h
  ·rename_i n f hx
   split at h
   ·rename_i k i hy
    injection h with h;injection h with h1 h2;subst h2;subst h1
    obtain ⟨g1,g2,g3⟩:=hψ
    exact Y.indexAddr (aA hx).slf (aA hy) ho hk g1 (pM f (by omega)) g3
   ·cases h
  ·rename_i es hx
   split at h
   ·rename_i k i hy
    split at h
    ·rename_i el hel
     cases hb:Nat.beq el.length sz with
     | false=>rw [hb] at h;cases h
     | true=>
      rw [hb] at h
      injection h with h;injection h with h1 h2;subst h2
      rw [ep] at hel
      exact Y.indexAddr (aA hx) (aA hy) ho hk (Int.natCast_nonneg i) (by simpa using hel) (Nat.eq_of_beq_eq_true hb)
    ·cases h
   ·cases h
  ·cases h
 ·cases h
def bf (s:ByteArray) (i:Nat):Int:=((s.get! i).toNat:Int)
def sI (tt:List (Nat×TK)) (E:Env) (T:TypeId) (x y:Operand):VR:=
 match cq tt T with
 | some .str=>match opnd E x with
  | some (.d (.str s))=>match opnd E y with
   | some (.d (.int _ i))=>some (some (0≤i∧i<s.size), .d (.int .u8 (bf s i.toNat)))
   | _=>none
  | _=>none
 | _=>none
theorem sJ {P:Program} {tt:List (Nat×TK)} (htt:ttOK P tt=true) {o:Oper} {E:Env} {m:Mem} {x y:Operand} {T:TypeId} {ψ:Option Prop} {p:AV} (ho:o.op= .index T x y) (h:sI tt E T x y=some (ψ,p)) (hψ:dJ ψ):aF P o E m p:=by
 unfold sI at h
 split at h
 ·rename_i hT
  split at h
  ·rename_i s hx
   split at h
   ·rename_i k i hy
    injection h with h;injection h with h1 h2;subst h2;subst h1
    obtain ⟨g1,g2⟩:=hψ
    have hlt:i.toNat<s.size:=by omega
    refine Y.sindex (aA hx) (aA hy) ho (TK.str_ok (aR htt hT)) g1 hlt ?_
    have hlt':i.toNat<s.data.size:=hlt
    show ((s[i.toNat]'hlt).toNat:Int)=((s.data[i.toNat]!).toNat:Int)
    rw [getElem!_pos s.data i.toNat hlt']
    rfl
   ·cases h
  ·cases h
 ·cases h
def sK (tt:List (Nat×TK)) (E:Env) (T:TypeId) (x:Operand) (lo hi mx:Option Operand):VR:=
 match mx with
 | some _=>none
 | none=>match cq tt T with
  | some .str=>match opnd E x with
   | some (.d (.str s))=>match lo with
    | none=>match hi with
     | none=>none
     | some hi=>match opnd E hi with
      | some (.d (.int _ j))=>some (some (0≤j∧j≤s.size), .d (.str (s.extract 0 j.toNat)))
      | _=>none
    | some lo=>match opnd E lo with
     | some (.d (.int _ i))=>match hi with
      | none=>some (some (0≤i∧i≤s.size), .d (.str (s.extract i.toNat s.size)))
      | some hi=>match opnd E hi with
       | some (.d (.int _ j))=>some (some (0≤i∧i≤j∧j≤s.size), .d (.str (s.extract i.toNat j.toNat)))
       | _=>none
     | _=>none
   | _=>none
  | _=>none
theorem sL {P:Program} {tt:List (Nat×TK)} (htt:ttOK P tt=true) {o:Oper} {E:Env} {m:Mem} {x:Operand} {lo hi mx:Option Operand} {T:TypeId} {ψ:Option Prop} {p:AV} (ho:o.op= .slice T x lo hi mx) (h:sK tt E T x lo hi mx=some (ψ,p)) (hψ:dJ ψ):aF P o E m p:=by
 unfold sK at h
 split at h
 ·cases h
 ·split at h
  ·rename_i hT
   have hk:=TK.str_ok (aR htt hT)
   split at h
   ·rename_i s hx
    split at h
    ·split at h
     ·cases h
     ·rename_i hi
      split at h
      ·rename_i hy
       injection h with h;injection h with h1 h2;subst h2;subst h1
       exact Y.sslice_to (aA hx) (aA hy) ho hk hψ.1 hψ.2
      ·cases h
    ·rename_i lo
     split at h
     ·rename_i hl
      split at h
      ·injection h with h;injection h with h1 h2;subst h2;subst h1
       exact Y.sslice_from (aA hx) (aA hl) ho hk hψ.1 hψ.2
      ·rename_i hi
       split at h
       ·rename_i hy
        injection h with h;injection h with h1 h2;subst h2;subst h1
        exact Y.sslice (aA hx) (aA hl) (aA hy) ho hk hψ.1 hψ.2.1 hψ.2.2
       ·cases h
     ·cases h
   ·cases h
  ·cases h
def lb (E:Env) (x:Operand):VR:=
 match opnd E x with
 | some (.ptr n off)=>some (none, .ptr n off)
 | some (.rel n off)=>some (none, .rel n off)
 | some (.d (.elp ds))=>some (none, .d (.elp ds))
 | _=>none
theorem oB {P:Program} {o:Oper} {E:Env} {m:Mem} {x:Operand} {ψ:Option Prop} {p:AV} (ho:o.op= .nilCheck x) (h:lb E x=some (ψ,p)):aF P o E m p:=by
 unfold lb at h
 split at h
 ·rename_i hx
  injection h with h;injection h with h1 h2;subst h2
  exact Y.nilCheck (aA hx) ho
 ·rename_i hx
  injection h with h;injection h with h1 h2;subst h2
  exact Y.nilCheck_rel (aA hx) ho
 ·rename_i hx
  injection h with h;injection h with h1 h2;subst h2
  exact Y.nilCheck_el (aA hx) ho
 ·cases h
def sM (tt:List (Nat×TK)) (E:Env) (m:Mem) (c:Call):VR:=
 match c with
 | ⟨.builtin .len,⟨[x]⟩,⟨[T]⟩⟩=>vLen tt E m T x
 | _=>none
def oC (tt:List (Nat×TK)) (E:Env) (m:Mem):Op→VR
 | .move x=>oA E x
 | .assign x=>oA E x
 | .pick x y z=>vZ E x y z
 | .binOp op T x y _=>vBin tt E op T x y
 | .unOp op _ x=>vUn E op x
 | .convert T T' x=>v8 tt E m T T' x
 | .build T ps=>sE tt E T ps
 | .extract x i=>nj E x i
 | .load T x=>wa tt E m T x
 | .fieldAddr S x f=>jE tt E S x f
 | .field S x f=>sG tt E S x f
 | .indexAddr T x y=>jG tt E T x y
 | .index T x y=>sI tt E T x y
 | .slice T x lo hi mx=>sK tt E T x lo hi mx
 | .nilCheck x=>lb E x
 | .call c=>sM tt E m c
 | _=>none
theorem iY {P:Program} {tt:List (Nat×TK)} (htt:ttOK P tt=true) {o:Oper} {E:Env} {m:Mem} {ψ:Option Prop} {p:AV} (h:oC tt E m o.op=some (ψ,p)) (hψ:dJ ψ):aF P o E m p:=by
 generalize ho:o.op=op at h
 cases op with
 | move x=>exact Y.move (qL h) ho
 | assign x=>exact Y.assign (qL h) ho
 | pick x y z=>exact uH ho h hψ
 | binOp op T x y T'=>exact v7 htt ho h hψ
 | unOp op T x=>exact xa ho h
 | convert T T' x=>exact uI htt ho h hψ
 | build T ps=>exact sF htt ho h
 | extract x i=>exact pL ho h
 | load T x=>exact uJ htt ho h
 | fieldAddr S x f=>exact nk htt ho h
 | field S x f=>exact sH htt ho h
 | indexAddr T x y=>exact nn htt ho h hψ
 | index T x y=>exact sJ htt ho h hψ
 | slice T x lo hi mx=>exact sL htt ho h hψ
 | nilCheck x=>exact oB ho h
 | call c=>
  simp only [oC] at h
  unfold sM at h
  split at h
  ·exact wb htt ho h
  ·cases h
 | _=>cases h
end LJ
