/- A logic for the walks: structs compared. -/
import Derived.Test.YtpnnkehkjfciiaaGreatDoorXVal
import Derived.Laws.StructEq
import Derived.ChangeKeysEq
namespace LJ
open Go Go.RowKit
set_option linter.unusedVariables false
set_option linter.unusedSimpArgs false
section
variable {P:Program} {c:Ctx} {ops:Array Oper} {Q:Exit→Env→Mem→Prop} {E E':Env} {m m':Mem} {o:Oper} {l:List Oper}
def eqC:List DV→List DV→Option Bool
  | [],[]=>some true
  | .int k a::l, .int k' b::l'=>match decEq k k' with
    | .isTrue _=>match eqC l l' with
      | some r=>some (decide (a=b)&&r)
      | none=>none
    | .isFalse _=>none
  | .bool a::l, .bool b::l'=>match eqC l l' with
      | some r=>some ((a==b)&&r)
      | none=>none
  | .str a::l, .str b::l'=>match eqC l l' with
      | some r=>some (decide (a=b)&&r)
      | none=>none
  | _,_=>none
def shp:DV→Nat
  | .int _ _=>0
  | .bool _=>1
  | .str _=>2
  | _=>3
def eqFs (P:Program):Nat→List Nat→List Field→Bool
  | _,[],[]=>true
  | o,k::ks,f::fs=>decide (f.name≠ "_")&&Nat.beq f.offset o&&P.plainKey f.type&&(match P.underlying f.type,k with
    | some (.int _),0=>true
    | some .bool,1=>true
    | some .string,2=>true
    | _,_=>false)&&eqFs P (o+1) ks fs
  | _,_,_=>false
def eqOK (P:Program) (T:TypeId) (ks:List Nat):Bool:=
  !(P.eqGuardType P.depth T)&& !(P.stoodInHeld T)&&eqFs P 0 ks (P.fieldsOf T).toList&&(match P.underlying T with
    | some (.struct _)=>true
    | _=>false)
theorem j4 {F:Nat→Prop} {w0 w:World} {d:Nat} :∀ (fs:List Field) (k:Nat) (vs us:List Value) (ds es:List DV) (b:Bool),eqFs P k (ds.map shp) fs=true→vs.length=k+fs.length→us.length=k+fs.length→
    (∀ (i:Nat) (v:Value) (x:DV),vs[k+i]? =some v→ds[i]? =some x→RepD F w0 v x)→(∀ (i:Nat) (v:Value) (x:DV),us[k+i]? =some v→es[i]? =some x→RepD F w0 v x)→eqC ds es=some b→
    (Op.eqFields (d+1) vs.toArray us.toArray fs).run P w= .ok b w
  | [],k,vs,us,[],es,b,h,hv,hu,rv,ru,hb=>by
    cases es with
    | nil=>
      simp only [eqC,Option.some.injEq] at hb
      subst hb
      simp [Op.eqFields]
    | cons=>simp [eqC] at hb
  | [],k,vs,us,x::ds,es,b,h,hv,hu,rv,ru,hb=>by simp [eqFs] at h
  | f::fs,k,vs,us,[],es,b,h,hv,hu,rv,ru,hb=>by simp [eqFs] at h
  | f::fs,k,vs,us,x::ds,[],b,h,hv,hu,rv,ru,hb=>by cases x <;> simp [eqC] at hb
  | f::fs,k,vs,us,x::ds,y::es,b,h,hv,hu,rv,ru,hb=>by
    simp only [List.map_cons,eqFs,Bool.and_eq_true,decide_eq_true_eq] at h
    obtain ⟨⟨⟨⟨h1,h2⟩,h3⟩,h4⟩,h5⟩:=h
    have ho:=Nat.eq_of_beq_eq_true h2
    simp only [List.length_cons] at hv hu
    obtain ⟨v,hvk⟩:∃ v,vs[k]? =some v:=⟨_,List.getElem?_eq_getElem (by omega)⟩
    obtain ⟨u,huk⟩:∃ u,us[k]? =some u:=⟨_,List.getElem?_eq_getElem (by omega)⟩
    have hx:=rv 0 v x hvk rfl
    have hy:=ru 0 u y huk rfl
    have p1:(part f.type vs.toArray f.offset).run P w= .ok v w:=run_part_plain _ h3 (by rw [ho];simpa using hvk)
    have p2:(part f.type us.toArray f.offset).run P w= .ok u w:=run_part_plain _ h3 (by rw [ho];simpa using huk)
    have rest:∀ r,eqC ds es=some r→(Op.eqFields (d+1) vs.toArray us.toArray fs).run P w= .ok r w:=fun r hr=>
      j4 fs (k+1) vs us ds es r h5 (by omega) (by omega) (fun i v x hv hx=>rv (i+1) v x (by rw [←hv];congr 1;omega) (by simpa using hx)) (fun i v x hv hx=>ru (i+1) v x (by rw [←hv];congr 1;omega) (by simpa using hx)) hr
    have fin:∀ c r,(Op.equalIn (d+1) f.type v u).run P w= .ok c w→eqC ds es=some r→b=(c&&r)→(Op.eqFields (d+1) vs.toArray us.toArray (f::fs)).run P w= .ok b w:=fun c r hc hr hbr=>by
      simp only [Op.eqFields,if_pos h1,Sem.run_bind,p1,p2,hc,Result.andThen_ok]
      cases c with
      | true=>simp only [Bool.not_true,Bool.false_eq_true,if_false];rw [rest r hr,hbr];simp
      | false=>simp [hbr]
    cases x with
    | int kx a=>
      cases y with
      | int ky a'=>
        obtain rfl:=hx.int_inv
        obtain rfl:=hy.int_inv
        simp only [eqC] at hb
        split at hb
        · rename_i hk _
          subst hk
          split at hb
          · rename_i r hr
            injection hb with hb
            simp only [shp] at h4
            split at h4
            · rename_i kk hu4 _
              exact fin _ r (run_equalIn_int w d f.type kx kk a a' hu4) hr (by rw [←hb,show (a==a')=decide (a=a') from by by_cases h:a=a' <;> simp [h]])
            · rename_i e;cases e
            · rename_i e;cases e
            · cases h4
          · cases hb
        · cases hb
      | _=>simp [eqC] at hb
    | bool a=>
      cases y with
      | bool a'=>
        obtain rfl:=hx.bool_inv
        obtain rfl:=hy.bool_inv
        simp only [eqC] at hb
        split at hb
        · rename_i r hr
          injection hb with hb
          simp only [shp] at h4
          split at h4
          · rename_i e;cases e
          · rename_i hu4 _
            exact fin _ r (run_equalIn_bool w d f.type a a' hu4) hr hb.symm
          · rename_i e;cases e
          · cases h4
        · cases hb
      | _=>simp [eqC] at hb
    | str a=>
      cases y with
      | str a'=>
        obtain rfl:=hx.str_inv
        obtain rfl:=hy.str_inv
        simp only [eqC] at hb
        split at hb
        · rename_i r hr
          injection hb with hb
          simp only [shp] at h4
          split at h4
          · rename_i e;cases e
          · rename_i e;cases e
          · rename_i hu4 _
            exact fin _ r (run_equalIn_string w d f.type a a' hu4) hr (by rw [←hb,toList_eq])
          · cases h4
        · cases hb
      | _=>simp [eqC] at hb
    | _=>simp [eqC] at hb
theorem tr:∀ {ds es:List DV} {b:Bool},eqC ds es=some b→ds.length=es.length
  | [],[],b,h=>rfl
  | [],y::es,b,h=>by simp [eqC] at h
  | x::ds,[],b,h=>by cases x <;> simp [eqC] at h
  | x::ds,y::es,b,h=>by
    have:∃ r,eqC ds es=some r:=by
      cases x <;> cases y <;> simp only [eqC] at h <;> first
        | (split at h
           · split at h
             · rename_i r hr;exact ⟨r,hr⟩
             · cases h
           · cases h)
        | (split at h
           · rename_i r hr;exact ⟨r,hr⟩
           · cases h)
        | cases h
    obtain ⟨r,hr⟩:=this
    simp [tr hr]
theorem uV {ks:List Nat} :∀ {fs:List Field} {o:Nat},eqFs P o ks fs=true→ks.length=fs.length:=by
  induction ks with
  | nil=>
    intro fs o h
    cases fs with
    | nil=>rfl
    | cons=>simp [eqFs] at h
  | cons k ks ih=>
    intro fs o h
    cases fs with
    | nil=>simp [eqFs] at h
    | cons f fs=>
      simp only [eqFs,Bool.and_eq_true] at h
      simp [ih h.2]
theorem Y.structEq {x y:Operand} {T T':TypeId} {ds es:List DV} {b:Bool} (op:BinOp) (hop:op= .eql∨op= .neq) (hx:opnd E x=some (.d (.agg ds))) (hy:opnd E y=some (.d (.agg es))) (ho:o.op= .binOp op T x y T') (hT:eqOK P T (ds.map shp)=true) (hb:eqC ds es=some b):LJ.aF P o E m (.d (.bool (match op with | .neq=> !b | _=>b))):=fun c F N w a hm he=>by
  obtain ⟨vs,hv,hl,hr⟩:=((aA hx) F N w a he).d_inv.agg_inv
  obtain ⟨us,hu,hl2,hr2⟩:=((aA hy) F N w a he).d_inv.agg_inv
  refine ⟨.bool (match op with | .neq=> !b | _=>b), .d .bool,fun w' _ _=>?_⟩
  unfold eqOK at hT
  simp only [Bool.and_eq_true,Bool.not_eq_true'] at hT
  obtain ⟨⟨⟨t1,t2⟩,t3⟩,t4⟩:=hT
  have t5:P.underlying T=some (.struct (P.fieldsOf T)):=by
    unfold Program.fieldsOf
    split at t4
    · rename_i fs h;rw [h]
    · cases t4
  have hlen:=uV t3
  rw [List.length_map] at hlen
  have hfs:=j4 (P:=P) (F:=F) (w0:=w) (w:=w') (d:=9998) (P.fieldsOf T).toList 0 vs us ds es b t3 (by rw [hl,hlen];omega) (by rw [hl2,←tr hb,hlen];omega) (fun i v x hv hx=>hr i v x (by simpa using hv) hx) (fun i v x hv hx=>hr2 i v x (by simpa using hv) hx) hb
  have heq:=run_equalIn_agg (P:=P) w' 9999 T vs.toArray us.toArray t5 t2
  rw [hfs] at heq
  unfold execOp
  rcases hop with rfl | rfl
  · have g:=run_eqGuard_agg (P:=P) w' .eql T x y vs.toArray us.toArray t1
    simp [ho,hv,hu,g,run_eql_struct,heq]
  · have g:=run_eqGuard_agg (P:=P) w' .neq T x y vs.toArray us.toArray t1
    simp [ho,hv,hu,g,run_neq_struct,heq]
end
end LJ
