/- A logic for the walks: operations that make or write memory, reckoned; calls that do. -/
import Derived.Test.YtpnnkehkjfciiaaGreatDoorXEnd
namespace LJ
open Go Go.RowKit
set_option linter.unusedVariables false
set_option linter.unusedSimpArgs false
def fgtV (fs:List Nat) (p:AV):Option AV:=
  match p with
  | .d v=>some (.d v)
  | .own j=>match inl fs j with
    | true=>some .und
    | false=>some (.own j)
  | .ptr j o=>match inl fs j with
    | true=>some .und
    | false=>some (.ptr j o)
  | .optp b j o=>match inl fs j with
    | true=>some .und
    | false=>some (.optp b j o)
  | .rel j o=>match inl fs j with
    | true=>some .und
    | false=>some (.rel j o)
  | .psl j o a b=>match inl fs j with
    | true=>some .und
    | false=>some (.psl j o a b)
  | .rsl j o a b=>match inl fs j with
    | true=>some .und
    | false=>some (.rsl j o a b)
  | .qel j o=>match inl fs j with
    | true=>some .und
    | false=>some (.qel j o)
  | .tup vs=>match allD vs with
    | true=>some (.tup vs)
    | false=>some .und
  | .when b v=>some (.when b v)
  | .und=>some .und
theorem sP {fs:List Nat} {p q:AV} (h:fgtV fs p=some q):q=p.forget fs:=by
  unfold fgtV at h
  cases p <;> simp only [Option.some.injEq] at h <;> (try split at h) <;> simp_all [AV.forget]
def fgtE (fs:List Nat):Env→Option Env
  | []=>some []
  | (k,v)::l=>match fgtV fs v with
    | none=>none
    | some v'=>match fgtE fs l with
      | some l'=>some ((k,v')::l')
      | none=>none
theorem dd {fs:List Nat} :∀ {E E':Env},fgtE fs E=some E'→E'=E.forget fs
  | [],E',h=>by simp only [fgtE,Option.some.injEq] at h;exact h.symm
  | (k,v)::l,E',h=>by
    simp only [fgtE] at h
    split at h
    · cases h
    · rename_i v' hv
      split at h
      · rename_i l' hl
        injection h with h
        rw [←h,sP hv,dd hl]
        rfl
      · cases h
def fgtC (fs:List Nat):List AV→Option (List AV)
  | []=>some []
  | v::l=>match fgtV fs v with
    | none=>none
    | some v'=>match fgtC fs l with
      | some l'=>some (v'::l')
      | none=>none
theorem nq {fs:List Nat} :∀ {E E':List AV},fgtC fs E=some E'→E'=E.map (AV.forget fs)
  | [],E',h=>by simp only [fgtC,Option.some.injEq] at h;exact h.symm
  | v::l,E',h=>by
    simp only [fgtC] at h
    split at h
    · cases h
    · rename_i v' hv
      split at h
      · rename_i l' hl
        injection h with h
        rw [←h,sP hv,nq hl]
        rfl
      · cases h
def fgtM (fs:List Nat):Mem→Option Mem
  | []=>some []
  | (k,v)::l=>match fgtM fs l with
    | none=>none
    | some l'=>match inl fs k with
      | true=>some l'
      | false=>match v with
        | .row E sz es=>some ((k, .row E sz es)::l')
        | .que E sz es=>some ((k, .que E sz es)::l')
        | .rowl E sz q c es=>some ((k, .rowl E sz q (cutN fs c) es)::l')
        | .box T cs=>match fgtC fs cs with
          | some cs'=>some ((k, .box T cs')::l')
          | none=>none
theorem de {fs:List Nat} :∀ {m m':Mem},fgtM fs m=some m'→m'=m.forget fs
  | [],m',h=>by simp only [fgtM,Option.some.injEq] at h;exact h.symm
  | (k,v)::l,m',h=>by
    simp only [fgtM] at h
    split at h
    · cases h
    · rename_i l' hl
      have ih:=de hl
      split at h
      · rename_i hk
        injection h with h
        rw [←h,ih]
        simp only [Mem.forget,hk,cond_true]
      · rename_i hk
        split at h
        · injection h with h
          rw [←h,ih]
          simp only [Mem.forget,hk,cond_false,AObj.forget]
        · injection h with h
          rw [←h,ih]
          simp only [Mem.forget,hk,cond_false,AObj.forget]
        · injection h with h
          rw [←h,ih]
          simp only [Mem.forget,hk,cond_false,AObj.forget]
        · split at h
          · rename_i cs' hc
            injection h with h
            rw [←h,ih,nq hc]
            simp only [Mem.forget,hk,cond_false,AObj.forget]
          · cases h
def okN (P0 KN:List Nat) (n:Nat):Bool:= !(inl P0 n)&& !(inl KN n)
theorem gq {P0 KN:List Nat} {n:Nat} (h:okN P0 KN n=true):inl P0 n=false∧inl KN n=false:=by
  simpa [okN] using h
def pN:List DV→Option (List AV)
  | []=>some []
  | d::l=>match pN l with
    | some l'=>some (.d d::l')
    | none=>none
theorem kJ:∀ {l:List DV} {l':List AV},pN l=some l'→l'=l.map AV.d
  | [],l',h=>by simp only [pN,Option.some.injEq] at h;exact h.symm
  | d::l,l',h=>by
    simp only [pN] at h
    split at h
    · rename_i l'' hl
      injection h with h
      rw [←h,kJ hl];rfl
    · cases h
def qQ (m:Mem) (p:AV):Option (List AV):=
  match p with
  | .own n=>match m.get n with
    | some (.row _ _ _)=>some [.own n]
    | _=>none
  | .ptr n o=>some [.ptr n o]
  | .optp b n o=>some [.optp b n o]
  | .rel n o=>some [.rel n o]
  | .d v=>match v with
    | .agg ds=>pN ds
    | v=>some [.d v]
  | _=>none
theorem oF {m:Mem} {p:AV} {cs:List AV} (h:qQ m p=some cs):p.lays m∧p.cells=some cs:=by
  unfold qQ at h
  split at h
  · rename_i n
    split at h
    · rename_i hn
      injection h with h
      subst h
      exact ⟨⟨_,_,_,hn⟩,rfl⟩
    · cases h
  · injection h with h;subst h;exact ⟨trivial,rfl⟩
  · injection h with h;subst h;exact ⟨trivial,rfl⟩
  · injection h with h;subst h;exact ⟨trivial,rfl⟩
  · rename_i v
    split at h
    · rename_i ds
      rw [kJ h]
      exact ⟨trivial,rfl⟩
    · rename_i hv
      injection h with h
      subst h
      refine ⟨trivial,?_⟩
      cases v <;> first | rfl | exact absurd rfl (hv _)
  · cases h
def TK.size:TK→Nat
  | .struct n _ _=>n
  | .arr n _ _ _=>n
  | _=>1
theorem TK.size_ok {P:Program} {T:TypeId} {k:TK} {n:Nat} (h:k.ok P T=true) (hn:Nat.beq k.size n=true):gA P T n=true:=by
  have hn:=Nat.eq_of_beq_eq_true hn
  subst hn
  have one:oneB P T=true→gA P T 1=true:=fun ho=>by
    obtain ⟨d,i,_,_,_,hi,hs⟩:=ou ho
    simp [gA,hi,hs]
  have agg:∀ n,aggB P T n=true→gA P T n=true:=fun n ho=>by
    obtain ⟨d,i,_,_,hi,hs⟩:=gv ho
    simp [gA,hi,hs]
  cases k with
  | struct n fs zs=>exact agg _ (TK.struct_ok h).1
  | arr n l e sz=>exact agg _ (TK.arr_ok h).1
  | _=>exact one (TK.one_ok h rfl)
def oG:Nat→List DV→Option (List DV×List DV)
  | 0,l=>some ([],l)
  | _+1,[]=>none
  | k+1,x::l=>match oG k l with
    | some (a,b)=>some (x::a,b)
    | none=>none
theorem oH:∀ {k:Nat} {l a b:List DV},oG k l=some (a,b)→a++b=l∧a.length=k
  | 0,l,a,b,h=>by simp only [oG,Option.some.injEq,Prod.mk.injEq] at h;obtain ⟨rfl,rfl⟩:=h;exact ⟨rfl,rfl⟩
  | k+1,[],a,b,h=>by cases h
  | k+1,x::l,a,b,h=>by
    simp only [oG] at h
    split at h
    · rename_i a' b' hs
      simp only [Option.some.injEq,Prod.mk.injEq] at h
      obtain ⟨rfl,rfl⟩:=h
      obtain ⟨h1,h2⟩:=oH hs
      exact ⟨by simp [h1],by simp [h2]⟩
    · cases h
def oI (sz:Nat):Nat→List DV→Option (List (List DV))
  | 0,[]=>some []
  | 0,_::_=>none
  | n+1,l=>match oG sz l with
    | some (a,b)=>match oI sz n b with
      | some r=>some (a::r)
      | none=>none
    | none=>none
theorem oJ {sz:Nat} :∀ {n:Nat} {l:List DV} {es:List (List DV)},oI sz n l=some es→es.flatten=l∧es.length=n∧∀ e∈es,e.length=sz
  | 0,[],es,h=>by simp only [oI,Option.some.injEq] at h;subst h;exact ⟨rfl,rfl,fun e he=>by cases he⟩
  | 0,_::_,es,h=>by cases h
  | n+1,l,es,h=>by
    simp only [oI] at h
    split at h
    · rename_i a b hs
      split at h
      · rename_i r hr
        injection h with h
        subst h
        obtain ⟨h1,h2⟩:=oH hs
        obtain ⟨h3,h4,h5⟩:=oJ hr
        refine ⟨by rw [List.flatten_cons,h3,h1],by simp [h4],fun e he=>?_⟩
        rcases List.mem_cons.1 he with rfl | he
        · exact h2
        · exact h5 e he
      · cases h
    · cases h
def rF (tt:List (Nat×TK)) (T:Nat):Option (List DV):=
  match cq tt T with
  | some (.struct _ _ zs)=>some zs
  | some (.int k)=>some [.int k 0]
  | some .bool=>some [.bool false]
  | some .str=>some [.str .empty]
  | some .ptr=>some [.nilp]
  | some (.slice _ _)=>some [.nils]
  | _=>none
section
variable {P:Program}
structure ESig (P:Program) where
  f:Nat
  go:Nat→List AV→Mem→Option (Option Prop×AV×Mem×Mem×List Nat)
  code:∃ fn,P.funcs[f]? =some fn∧fn.body.isNone=false∧(fn.name== "runtime.NumGoroutine")=false
  ok:∀ n args m ψ out m0 m1 fs,go n args m=some (ψ,out,m0,m1,fs)→dJ ψ→Spec P f args m0 out m1∧dc m m0
def qR:List (ESig P)→Nat→Option (ESig P)
  | [],_=>none
  | s::l,f=>cond (Nat.beq s.f f) (some s) (qR l f)
theorem oK:∀ {l:List (ESig P)} {f:Nat} {s:ESig P},qR l f=some s→s.f=f
  | [],f,s,h=>by cases h
  | t::l,f,s,h=>by
    simp only [qR] at h
    cases e:Nat.beq t.f f with
    | true=>
      rw [e] at h
      simp only [cond_true,Option.some.injEq] at h
      subst h
      exact Nat.eq_of_beq_eq_true e
    | false=>rw [e] at h;exact oK h
abbrev ER:=Option (Option Prop×Env×Mem)
def eBox (P0 KN:List Nat) (n:Nat) (E:Env) (m:Mem) (T:TypeId) (x:Operand) (d:Nat):ER:=
  match okN P0 KN n with
  | false=>none
  | true=>match opnd E x with
    | none=>none
    | some p=>match qQ m p with
      | none=>none
      | some cs=>match fgtC [n] cs,fgtE [n] E,fgtM [n] m with
        | some cs',some E',some m'=>some (none,(d, .ptr n 0)::E',(n, .box T cs')::m')
        | _,_,_=>none
def yc (zeros:List (Nat×List DV)) (P0 KN:List Nat) (n:Nat) (E:Env) (m:Mem) (T:TypeId) (d:Nat):ER:=none
def sQ (tt:List (Nat×TK)) (KN:List Nat) (E:Env) (m:Mem) (T:TypeId) (x y:Operand):ER:=
  match cq tt T with
  | none=>none
  | some k=>match opnd E x with
    | some (.ptr n off)=>match inl KN n with
      | true=>none
      | false=>match m.get n with
        | some (.box T' cs)=>match opnd E y with
          | none=>none
          | some p=>match qQ m p with
            | none=>none
            | some qs=>match flatB p&&Nat.beq k.size qs.length&&Nat.ble (off+qs.length) cs.length with
              | false=>none
              | true=>match eC (im cs off qs) with
                | none=>none
                | some cs'=>match eC (m.set n (.box T' cs')) with
                  | none=>none
                  | some m'=>some (none,E,m')
        | _=>none
    | _=>none
def eRow (tt:List (Nat×TK)) (P0 KN:List Nat) (n:Nat) (E:Env) (m:Mem) (T len:Nat) (ps:List (Nat×Operand)) (d:Nat):ER:=
  match okN P0 KN n with
  | false=>none
  | true=>match cq tt T with
    | some (.slice e sz)=>match rF tt e with
      | some zs=>match Nat.beq zs.length sz&&Nat.blt 0 sz&&Nat.ble (len*sz) 16777216 with
        | false=>none
        | true=>match la E ps with
          | none=>none
          | some qs=>match jC (fun i=>some (i*sz,sz)) ((List.range (len*sz)).map fun i=>zs.getD (i %sz) .nilp) qs with
            | none=>none
            | some flat=>match oI sz len flat with
              | none=>none
              | some es=>match fgtE [n] E,fgtM [n] m with
                | some E',some m'=>some (none,(d, .own n)::E',(n, .row e sz es)::m')
                | _,_=>none
      | none=>none
    | _=>none
def xb (es ys:List (List DV)) (bytes:Nat):Prop:=sx ys∧(es.length+ys.length)*bytes≤140737488355328∧es.length+ys.length≤140737488355328
def eApp (tt:List (Nat×TK)) (et:List (Nat×Nat×Nat)) (P0 KN:List Nat) (E:Env) (m:Mem) (T:Nat) (x y:Operand) (d:Nat):ER:=
  match cq tt T with
  | some (.slice e sz)=>match (et.find? fun q=>Nat.beq q.1 e) with
    | some (_,sz',bytes)=>match Nat.beq sz' sz with
      | false=>none
      | true=>match opnd E x with
        | some (.own r)=>match okN P0 KN r with
          | false=>none
          | true=>match m.get r with
            | some (.row e1 sz1 es)=>match Nat.beq e1 e&&Nat.beq sz1 sz with
              | false=>none
              | true=>match opnd E y with
                | some (.own q)=>match m.get q with
                  | some (.row e2 sz2 ys)=>match Nat.beq sz2 sz with
                    | false=>none
                    | true=>match fgtE [r] E,fgtM [r] m with
                      | some E',some m'=>some (some (xb es ys bytes),(d, .own r)::E',(r, .row e sz (es++ys))::m')
                      | _,_=>none
                  | _=>none
                | _=>none
            | _=>none
        | _=>none
    | none=>none
  | _=>none
def etOK (P:Program):List (Nat×Nat×Nat)→Bool
  | []=>true
  | (e,sz,bytes)::l=>elB P e sz bytes&&etOK P l
theorem kK:∀ {et:List (Nat×Nat×Nat)},etOK P et=true→∀ {e k sz bytes:Nat},et.find? (fun q=>Nat.beq q.1 e)=some (k,sz,bytes)→elB P e sz bytes=true
  | [],_,e,k,sz,bytes,h=>by cases h
  | (a,b,c)::l,ho,e,k,sz,bytes,h=>by
    simp only [etOK,Bool.and_eq_true] at ho
    rw [List.find?_cons] at h
    split at h
    · rename_i hb
      have:=Nat.eq_of_beq_eq_true hb
      simp only [Option.some.injEq,Prod.mk.injEq] at h
      obtain ⟨rfl,rfl,rfl⟩:=h
      have:a=e:=this
      subst this
      exact ho.1
    · exact kK ho.2 h
def wc (sg:List (ESig P)) (P0 KN:List Nat) (n:Nat) (E:Env) (m:Mem) (cl:Call) (dst:Option Nat):ER:=
  match callee cl with
  | none=>none
  | some f=>match qR sg f with
    | none=>none
    | some s=>match kt E cl.args.toList with
      | none=>none
      | some ps=>match s.go n ps m with
        | none=>none
        | some (φ,out,m0,m1,fs)=>match FsOK m0 fs m1&&out.within m1.names fs&&m1.within m1.names fs&&disj fs P0&&disj m0.names KN with
          | false=>none
          | true=>match fgtE fs E,fgtM fs (m.less (m0.names++m1.names)) with
            | some E',some mr=>match eC (m1++mr) with
              | some m'=>match dst with
                | some d=>some (φ,(d,out)::E',m')
                | none=>some (φ,E',m')
              | none=>none
            | _,_=>none
def sR (tt:List (Nat×TK)) (et:List (Nat×Nat×Nat)) (sg:List (ESig P)) (P0 KN:List Nat) (n:Nat) (E:Env) (m:Mem) (o:Oper):ER:=
  match o.op with
  | .box T x=>match o.dst with
    | some d=>eBox P0 KN n E m T x d
    | none=>none
  | .store T x y=>match o.dst with
    | some _=>none
    | none=>sQ tt KN E m T x y
  | .buildSlice T len ps=>match o.dst with
    | some d=>eRow tt P0 KN n E m T len ps.toList d
    | none=>none
  | .call cl=>match cl with
    | ⟨.builtin .append,⟨[x,y]⟩,⟨[T,T']⟩⟩=>match Nat.beq T T' with
      | true=>match o.dst with
        | some d=>eApp tt et P0 KN E m T x y d
        | none=>none
      | false=>none
    | cl=>wc sg P0 KN n E m cl o.dst
  | _=>none
def dstB (nt:Nat) (o:Oper):Bool:=
  match o.dst with
  | some d=>Nat.blt d nt
  | none=>true
theorem nr {tt:List (Nat×TK)} (htt:ttOK P tt=true) {T:Nat} {zs:List DV} (h:rF tt T=some zs):iP P T=some zs:=by
  unfold rF at h
  split at h
  · rename_i hT
    injection h with h;subst h
    exact (TK.struct_made (aR htt hT)).2.2
  all_goals first
    | (rename_i hT
       injection h with h;subst h
       have:=aR htt hT
       simp only [TK.ok,Bool.and_eq_true] at this
       exact qK this.1.2)
    | cases h
section
variable {tt:List (Nat×TK)} {et:List (Nat×Nat×Nat)} {sg:List (ESig P)} {c:Ctx} {E E':Env} {m m':Mem} {o:Oper} {φ:Option Prop} {n d:Nat}
theorem we {T:TypeId} {x:Operand} (h:eBox c.P0 c.KN n E m T x d=some (φ,E',m')) (ho:o.op= .box T x) (hd:o.dst=some d) (hlt:Nat.blt d c.ntmps=true):WO c P o E m E' m':=by
  unfold eBox at h
  split at h
  · cases h
  · rename_i hn
    obtain ⟨k1,k2⟩:=gq hn
    split at h
    · cases h
    · rename_i p hp
      split at h
      · cases h
      · rename_i cs hc
        obtain ⟨k3,k4⟩:=oF hc
        split at h
        · rename_i cs' E1 m1 h1 h2 h3
          simp only [Option.some.injEq,Prod.mk.injEq] at h
          obtain ⟨_,rfl,rfl⟩:=h
          rw [nq h1,dd h2,de h3]
          exact WO.box n (aA hp) k3 k4 ho k1 k2 hd hlt
        · cases h
theorem sS (htt:ttOK P tt=true) {T:TypeId} {x y:Operand} (h:sQ tt c.KN E m T x y=some (φ,E',m')) (ho:o.op= .store T x y) (hd:o.dst=none):WO c P o E m E' m':=by
  unfold sQ at h
  split at h
  · cases h
  · rename_i k hT
    split at h
    · rename_i n off hx
      split at h
      · cases h
      · rename_i hK
        split at h
        · rename_i T' cs hn
          split at h
          · cases h
          · rename_i p hp
            split at h
            · cases h
            · rename_i qs hq
              obtain ⟨k3,k4⟩:=oF hq
              split at h
              · cases h
              · rename_i hb
                simp only [Bool.and_eq_true] at hb
                split at h
                · cases h
                · rename_i cs' hcs
                  split at h
                  · cases h
                  · rename_i m1 hm1
                    simp only [Option.some.injEq,Prod.mk.injEq] at h
                    obtain ⟨_,rfl,rfl⟩:=h
                    rw [bt hm1,bt hcs]
                    exact WO.store (aA hx) hn (aA hp) k3 k4 hb.1.1 (TK.size_ok (aR htt hT) hb.1.2) hb.2 ho hK hd
        · cases h
    · cases h
theorem wg (htt:ttOK P tt=true) {T len:Nat} {ps:Array (Nat×Operand)} (h:eRow tt c.P0 c.KN n E m T len ps.toList d=some (φ,E',m')) (ho:o.op= .buildSlice T len ps) (hd:o.dst=some d) (hlt:Nat.blt d c.ntmps=true):WO c P o E m E' m':=by
  unfold eRow at h
  split at h
  · cases h
  · rename_i hn
    obtain ⟨k1,k2⟩:=gq hn
    split at h
    · rename_i e sz hT
      split at h
      · rename_i zs hz
        split at h
        · cases h
        · rename_i hb
          simp only [Bool.and_eq_true] at hb
          split at h
          · cases h
          · rename_i qs hq
            split at h
            · cases h
            · rename_i flat hf
              split at h
              · cases h
              · rename_i es hes
                obtain ⟨g1,g2,g3⟩:=oJ hes
                split at h
                · rename_i E1 m1 h2 h3
                  simp only [Option.some.injEq,Prod.mk.injEq] at h
                  obtain ⟨_,rfl,rfl⟩:=h
                  rw [dd h2,de h3]
                  exact WO.buildSlice n (iX hq) (by rw [ho]) (TK.slice_ok (aR htt hT)) (nr htt hz) (Nat.eq_of_beq_eq_true hb.1.1) hb.1.2 hb.2 hf g1 g2 (List.all_eq_true.2 fun y hy=>by rw [g3 y hy];exact Nat.beq_refl sz) k1 k2 hd hlt
                · cases h
      · cases h
    · cases h
theorem wh (htt:ttOK P tt=true) (het:etOK P et=true) {T:Nat} {x y:Operand} (h:eApp tt et c.P0 c.KN E m T x y d=some (φ,E',m')) (hφ:dJ φ) (ho:o.op= .call {callee:= .builtin .append,args:=#[x,y],argTypes:=#[T,T]}) (hd:o.dst=some d) (hlt:Nat.blt d c.ntmps=true):WO c P o E m E' m':=by
  unfold eApp at h
  split at h
  · rename_i e sz hT
    split at h
    · rename_i q0 sz' bytes hfind
      have hel:=kK het hfind
      split at h
      · cases h
      · rename_i hsz
        have:=Nat.eq_of_beq_eq_true hsz
        subst this
        split at h
        · rename_i r hx
          split at h
          · cases h
          · rename_i hn
            obtain ⟨k1,k2⟩:=gq hn
            split at h
            · rename_i e1 sz1 es hr
              split at h
              · cases h
              · rename_i hb
                simp only [Bool.and_eq_true] at hb
                have e1':=Nat.eq_of_beq_eq_true hb.1
                have e2':=Nat.eq_of_beq_eq_true hb.2
                subst e1';subst e2'
                split at h
                · rename_i q hy
                  split at h
                  · rename_i e2 sz2 ys hq
                    split at h
                    · cases h
                    · rename_i hb2
                      have e3':=Nat.eq_of_beq_eq_true hb2
                      subst e3'
                      split at h
                      · rename_i E1 m1 h2 h3
                        simp only [Option.some.injEq,Prod.mk.injEq] at h
                        obtain ⟨rfl,rfl,rfl⟩:=h
                        rw [dd h2,de h3]
                        obtain ⟨i,hi,_⟩:=bd (TK.slice_ok (aR htt hT))
                        exact WO.append (aA hx) hr (aA hy) hq ho hi hel hφ.1 hφ.2.1 hφ.2.2 k1 k2 hd hlt
                      · cases h
                  · cases h
                · cases h
            · cases h
        · cases h
    · cases h
  · cases h
theorem uL {cl:Call} (h:wc sg c.P0 c.KN n E m cl o.dst=some (φ,E',m')) (hφ:dJ φ) (ho:o.op= .call cl) (hlt:dstB c.ntmps o=true):WO c P o E m E' m':=by
  unfold wc at h
  split at h
  · cases h
  · rename_i f hf
    split at h
    · cases h
    · rename_i s hs
      split at h
      · cases h
      · rename_i ps hps
        split at h
        · cases h
        · rename_i φ' out m0 m1 fs hgo
          split at h
          · cases h
          · rename_i hb
            simp only [Bool.and_eq_true] at hb
            split at h
            · rename_i E1 mr h2 h3
              split at h
              · rename_i m2 hm2
                have hfe:=oK hs
                subst hfe
                unfold callee at hf
                split at hf
                · rename_i f' hc
                  injection hf with hf
                  subst hf
                  obtain ⟨fn,c1,c2,c3⟩:=s.code
                  have hcl:o.op= .call {callee:= .value (.func s.f),args:=cl.args.toList.toArray,argTypes:=cl.argTypes} :=by
                    rw [ho]
                    cases cl
                    simp_all
                  have fin:∀ {φ2:Option Prop} (hφ2:φ'=φ2) (hh:dJ φ2),Spec P s.f ps m0 out m1∧dc m m0:=fun hφ2 hh=>by subst hφ2;exact s.ok n ps m φ' out m0 m1 fs hgo hh
                  split at h
                  · rename_i d hd
                    simp only [Option.some.injEq,Prod.mk.injEq] at h
                    obtain ⟨rfl,rfl,rfl⟩:=h
                    obtain ⟨k1,k2⟩:=fin rfl hφ
                    rw [bt hm2,dd h2,de h3]
                    refine WO.call k1 (gW hps) hcl c1 c2 c3 (Fits.mk' k2 hb.1.1.1.1 hb.1.1.1.2 hb.1.1.2 hb.1.2 hb.2) hd ?_
                    unfold dstB at hlt
                    rw [hd] at hlt
                    exact hlt
                  · rename_i hd
                    simp only [Option.some.injEq,Prod.mk.injEq] at h
                    obtain ⟨rfl,rfl,rfl⟩:=h
                    obtain ⟨k1,k2⟩:=fin rfl hφ
                    rw [bt hm2,dd h2,de h3]
                    exact WO.call0 k1 (gW hps) hcl c1 c2 c3 (Fits.mk' k2 hb.1.1.1.1 hb.1.1.1.2 hb.1.1.2 hb.1.2 hb.2) hd
                · cases hf
              · cases h
            · cases h
theorem qS (htt:ttOK P tt=true) (het:etOK P et=true) (h:sR tt et sg c.P0 c.KN n E m o=some (φ,E',m')) (hφ:dJ φ) (hlt:dstB c.ntmps o=true):WO c P o E m E' m':=by
  have hlt':∀ d,o.dst=some d→Nat.blt d c.ntmps=true:=fun d hd=>by
    unfold dstB at hlt
    rw [hd] at hlt
    exact hlt
  unfold sR at h
  split at h
  · rename_i T x ho
    split at h
    · rename_i d hd
      exact we h ho hd (hlt' d hd)
    · cases h
  · rename_i T x y ho
    split at h
    · cases h
    · rename_i hd
      exact sS htt h ho hd
  · rename_i T len ps ho
    split at h
    · rename_i d hd
      exact wg htt h ho hd (hlt' d hd)
    · cases h
  · rename_i cl ho
    split at h
    · rename_i x y T T'
      split at h
      · rename_i hb
        have:=Nat.eq_of_beq_eq_true hb
        subst this
        split at h
        · rename_i d hd
          exact wh htt het h hφ ho hd (hlt' d hd)
        · cases h
      · cases h
    · exact uL h hφ ho hlt
  · cases h
theorem WL.eff {ops:Array Oper} {Q:Exit→Env→Mem→Prop} {l:List Oper} (n:Nat) (htt:ttOK P tt=true) (het:etOK P et=true) (sg:List (ESig P)) (h:sR tt et sg c.P0 c.KN n E m o=some (φ,E',m')) (hg:o.guard=none) (hlt:dstB c.ntmps o=true) (hφ:dJ φ) (hk:WL c P ops Q l E' m'):WL c P ops Q (o::l) E m:=
  WL.step (qS htt het h hφ hlt) hg hk
def runG (ev:Env→Op→VR) (j:Nat) (want:Bool) (g:Nat):List Oper→Env→Option (Prop×Env)
  | [],E=>some (True,E)
  | o::l,E=>match gEq j want o.guard with
    | false=>none
    | true=>match E.get g with
      | .d (.bool b)=>match b==want with
        | false=>none
        | true=>match o.dst with
          | none=>none
          | some d=>match ev E o.op with
            | some (none,p)=>runG ev j want g l ((d,p)::E)
            | some (some φ,p)=>match runG ev j want g l ((d,p)::E) with
              | some (ψ,E')=>some (φ∧ψ,E')
              | none=>none
            | none=>none
      | _=>none
theorem nu {okd:Nat→Bool} {ev:Env→Op→VR} {ops:Array Oper} {W:List Oper→Env→Prop} (hs:rD okd ops ev W) {j g:Nat} {want:Bool} {x:Oper} (hj:ops[j]? =some x) (hx:x.dst=some g) {rest:List Oper} :∀ {l:List Oper} {E E':Env} {ψ:Prop},runG ev j want g l E=some (ψ,E')→ψ→jH okd l=true→W rest E'→W (l++rest) E
  | [],E,E',ψ,h,hψ,hd,hk=>by
    simp only [runG,Option.some.injEq,Prod.mk.injEq] at h
    obtain ⟨rfl,rfl⟩:=h
    exact hk
  | o::l,E,E',ψ,h,hψ,hd,hk=>by
    simp only [jH,Bool.and_eq_true] at hd
    simp only [runG] at h
    split at h
    · cases h
    · rename_i hg
      split at h
      · rename_i b hb
        split at h
        · cases h
        · rename_i hbw
          have hbw':b=want:=by simpa using hbw
          subst hbw'
          split at h
          · cases h
          · rename_i d ho
            have hd1:=hd.1
            rw [ho] at hd1
            split at h
            · rename_i p hp
              exact hs.gstep hp trivial ho hd1 (qO hg) hj hx hb (nu hs hj hx h hψ hd.2 hk)
            · rename_i φ p hp
              split at h
              · rename_i ψ' E'' hr
                simp only [Option.some.injEq,Prod.mk.injEq] at h
                obtain ⟨rfl,rfl⟩:=h
                exact hs.gstep hp hψ.1 ho hd1 (qO hg) hj hx hb (nu hs hj hx hr hψ.2 hd.2 hk)
              · cases h
            · cases h
      · cases h
theorem WL.grun {ops:Array Oper} {Q:Exit→Env→Mem→Prop} {l:List Oper} {ψ:Prop} (n j:Nat) (want:Bool) (g:Nat) {x:Oper} (htt:ttOK P tt=true) (sg:List (PSig P)) (hj:ops[j]? =some x) (hx:x.dst=some g) (h:runG (fun E op=>gOp tt sg E m op) j want g (l.take n) E=some (ψ,E')) (hd:iZ c.ntmps (l.take n)=true) (hψ:ψ) (hk:WL c P ops Q (l.drop n) E' m):WL c P ops Q l E m:=by
  have:=nu (rest:=l.drop n) (WL.steps htt sg c ops Q m) hj hx h hψ hd hk
  rwa [List.take_append_drop] at this
end
end
end LJ
