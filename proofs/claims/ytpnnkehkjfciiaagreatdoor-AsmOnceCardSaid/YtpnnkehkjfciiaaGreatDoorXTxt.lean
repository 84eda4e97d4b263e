/- A logic for the walks: a text appended to a row of bytes. -/
import Derived.Test.YtpnnkehkjfciiaaGreatDoorXSkip
import Derived.Lib.AppendStr
namespace LJ
open Go Go.RowKit Go.Lib
set_option linter.unusedVariables false
set_option linter.unusedSimpArgs false
section
variable {P:Program}
theorem nv {w:World} {t u ty e:TypeId} {i:TypeInfo} (ht:P.underlying t=some (.slice e)) (hu:P.underlying u=some .string) (hi:P.info? e=some i) (hz:i.zero=some (.int .u8 0)) (hsize:i.size=1) (hby:i.bytes=1) {v:Value} {n:Nat} {xs:List Value}
  (hown:w.ownsRow 0 e 1 v n xs) (s:ByteArray) (hb:n+s.size≤140737488355328):
  ∃ v' w',(Builtin.append_ #[t,u] ty #[v, .string s]).run P w= .ok v' w'∧w'.ownsRow 0 e 1 v' (n+s.size) (xs++strCells s)∧w.grownBy w' v.ownBlock∧(v'.ownBlock=v.ownBlock∨∀ b,v'.ownBlock=some b→w.heap.size≤b):=by
 have hxl:xs.length=n:=by simpa using hown.1
 rcases hown.2 with ⟨hv,hn⟩ | ⟨g,cap,cur,hv,hbg,hg,hnc,hcm,hcs,htake⟩
 ·subst hv
  subst hn
  have hx:xs=[]:=List.eq_nil_of_length_eq_zero hxl
  subst hx
  obtain ⟨v',w',h1,h2,h3,_⟩:=run_append_own_string (P:=P) (w:=w) w.heap.size t u ty e i ht hu hi hz hsize hby (.slice none 0 0) 0 [] (World.ownsRow_nil w w.heap.size e 1) s (by simp only [maxLen];omega) hb (Nat.le_refl _)
  refine ⟨v',w',h1,⟨h2.1,?_⟩,h3, .inr fun b hbk=>?_⟩
  ·rcases h2.2 with hh | ⟨g,cap,cur,q1,q2,q3⟩
   ·exact .inl hh
   ·exact .inr ⟨g,cap,cur,q1,Nat.zero_le _,q3⟩
  ·rcases h2.2 with ⟨hh,_⟩ | ⟨g,cap,cur,q1,q2,q3⟩
   ·rw [hh] at hbk;cases hbk
   ·rw [q1] at hbk
    injection hbk with hbk
    have:g=b:=hbk
    omega
 ·obtain ⟨v',w',h1,h2,h3,_⟩:=run_append_own_string (P:=P) (w:=w) 0 t u ty e i ht hu hi hz hsize hby v n xs hown s (by simp only [maxLen];omega) hb (Nat.zero_le _)
  refine ⟨v',w',h1,h2,h3,?_⟩
  subst hv
  have hcs':cur.size=cap:=by simpa using hcs
  by_cases hroom:n+s.size≤cap
  ·have hr:=run_append_room_string (P:=P) w t u ty e i ht hu hi hsize g n cap cur hg s hroom (by omega)
   rw [hr] at h1
   injection h1 with h1 _
   rw [←h1]
   exact .inl rfl
  ·have hr:=run_append_grow_string (P:=P) w t u ty e i (.int .u8 0) ht hu hi hz ⟨g,0,none⟩ n cap xs (by rw [hsize];simpa using hxl) (hown.cells (g:=g) rfl) s (by omega) (by omega) (by rw [hby];exact growslice_fits (by omega) (by omega))
   rw [hr] at h1
   injection h1 with h1 _
   refine .inr fun b hbk=>?_
   rw [←h1] at hbk
   injection hbk with hbk
   have:w.heap.size=b:=hbk
   omega
variable {c:Ctx} {ops:Array Oper} {Q:Exit→Env→Mem→Prop} {E:Env} {m:Mem} {o:Oper} {x:Operand} {T T':TypeId}
theorem oL {F:Nat→Prop} {w:World} (s:ByteArray):∀ (i:Nat) (v:Value) (d:DV),(strCells s)[i]? =some v→(b8 s).flatten[i]? =some d→RepD F w v d:=by
 intro i v d hv hd
 rw [jD,List.getElem?_map] at hd
 obtain ⟨b,hb,rfl⟩:=Option.map_eq_some_iff.1 hd
 unfold strCells at hv
 rw [List.getElem?_map,hb] at hv
 simp only [Option.map_some,Option.some.injEq] at hv
 subst hv
 exact .int
theorem WO.append_str {y:Operand} {e:TypeId} {r d:Nat} {es:List (List DV)} {s:ByteArray} (hx:IsOp E x (.own r)) (hr:m.get r=some (.row e 1 es)) (hy:IsOp E y (.d (.str s))) (ho:o.op= .call {callee:= .builtin .append,args:=#[x,y],argTypes:=#[T,T']})
  (hT:P.underlying T=some (.slice e)) (hT':P.underlying T'=some .string) (hel:elB P e 1 1=true) (hzi:(∃ i,P.info? e=some i∧i.zero=some (.int .u8 0))) (hlen:es.length+s.size≤140737488355328) (hP:inl c.P0 r=false) (hK:inl c.KN r=false) (hd:o.dst=some d) (hlt:Nat.blt d c.ntmps=true):WO c P o E m ((d, .own r)::E.forget [r]) ((r, .row e 1 (es++b8 s))::m.forget [r]):=fun Q K a w hrel h=>by
 obtain ⟨h1,h2,F,N,hm,hE⟩:=hrel
 obtain ⟨i,z,hi,hs1,hs2,hs3,hs4,hs5⟩:=kG hel
 obtain ⟨i',hi',hz'⟩:=hzi
 have hii:i'=i:=by rw [hi] at hi';injection hi' with hi';exact hi'.symm
 subst hii
 obtain ⟨vs,k1,k2,k3⟩:=hm.obj r _ hr
 have hvx:=hx.own_eval hE
 have hvy:=hy.str_eval hE
 obtain ⟨v',w',q1,q2,q3,q4⟩:=nv (P:=P) (w:=w) (ty:=o.type) hT hT' hi hz' hs1 hs2 k1 s hlen
 have hfl:=bE es 1 k2
 have hvl:vs.length=es.length*1:=k1.1
 have hσ:(N.setσ r v').σ r=v':=by simp [aI.setσ]
 have hFk:∀ b,F b→w'.heap[b]? =w.heap[b]? :=fun b hb=>q3.block b (hm.Fin b hb) (fun he=>(hm.free r _ b hr he.symm).1 hb)
 have hm':bX c F (N.setσ r v') w' ((r, .row e 1 (es++b8 s))::m.forget [r]):=by
  refine hm.renew (N.setσ_but r _) hP hK q3.os q3.tape q3.output q3.size (fun b hb hne=>q3.block b hb (fun he=>hne _ hr he.symm)) ⟨vs++strCells s,by rw [hσ,List.length_append,gB];exact q2,?_,?_⟩ (fun b hb=>?_)
  ·intro y hy
   rcases List.mem_append.1 hy with hh | hh
   ·exact k2 y hh
   ·unfold b8 at hh
    obtain ⟨b,_,rfl⟩:=List.mem_map.1 hh
    rfl
  ·intro j v x hv hx
   rw [List.flatten_append] at hx
   by_cases hj:j<vs.length
   ·rw [List.getElem?_append_left hj] at hv
    rw [List.getElem?_append_left (by omega)] at hx
    exact (k3 j v x hv hx).mono (fun _ h=>h) hFk
   ·rw [List.getElem?_append_right (by omega)] at hv hx
    rw [hfl] at hx
    rw [hvl] at hv
    exact oL s _ v x hv hx
  ·have hb':v'.ownBlock=some b:=by
    have:((N.setσ r v').σ r).ownBlock=some b:=hb
    rwa [hσ] at this
   rcases q4 with hh | hh
   ·exact .inl ⟨_,hr,show (N.σ r).ownBlock=some b by rw [←hh];exact hb'⟩
   ·exact .inr (hh b hb')
 have hrun:(execOp a.eval o).run P w= .ok (.value v') w':=by
  unfold execOp
  simp [ho,resolve,invoke,builtin,hvx,hvy,q1]
 unfold Oper.wp
 rw [hrun,Oper.upon_value]
 exact h _ _ _ rfl (by rw [hd];exact Rel.put h1 h2 hm' (hE.forget (N.setσ_but r v') hFk) hlt (kZ hσ))
def sZ (P:Program) (e:TypeId):Bool:=
 elB P e 1 1&&(match P.info? e with | some i=>(match i.zero with | some (.int .u8 z)=>decide (z=0) | _=>false) | none=>false)
theorem uN {e:TypeId} (h:sZ P e=true):elB P e 1 1=true∧∃ i,P.info? e=some i∧i.zero=some (.int .u8 0):=by
 simp only [sZ,Bool.and_eq_true] at h
 refine ⟨h.1,?_⟩
 have h2:=h.2
 split at h2
 ·rename_i i hi
  split at h2
  ·rename_i z hz
   have:=of_decide_eq_true h2
   subst this
   exact ⟨i,hi,hz⟩
  ·cases h2
 ·cases h2
def wj (tt:List (Nat×TK)) (P0 KN:List Nat) (eb:Nat) (E:Env) (m:Mem) (o:Oper):ER:=
 match o.op with
 | .call ⟨.builtin .append,⟨[x,y]⟩,⟨[T,T']⟩⟩=>match cq tt T with
  | some (.slice e 1)=>match Nat.beq e eb with
   | false=>none
   | true=>match cq tt T' with
    | some .str=>match opnd E x with
     | some (.own r)=>match okN P0 KN r with
      | false=>none
      | true=>match m.get r with
       | some (.row e1 1 es)=>match Nat.beq e1 e with
        | false=>none
        | true=>match opnd E y with
         | some (.d (.str s))=>match o.dst with
          | none=>none
          | some d=>match fgtE [r] E,fgtM [r] m with
           | some E',some m'=>some (some (es.length+s.size≤140737488355328),(d, .own r)::E',(r, .row e 1 (es++b8 s))::m')
           | _,_=>none
         | _=>none
       | _=>none
     | _=>none
    | _=>none
  | _=>none
 | _=>none
theorem uO {tt:List (Nat×TK)} (htt:ttOK P tt=true) {eb:Nat} (heb:sZ P eb=true) {E':Env} {m':Mem} {φ:Option Prop} (h:wj tt c.P0 c.KN eb E m o=some (φ,E',m')) (hφ:dJ φ) (hlt:dstB c.ntmps o=true):WO c P o E m E' m':=by
 unfold wj at h
 split at h
 ·rename_i x y T T' ho
  split at h
  ·rename_i e hT
   split at h
   ·cases h
   ·rename_i hb
    have:=Nat.eq_of_beq_eq_true hb
    subst this
    split at h
    ·rename_i hT'
     split at h
     ·rename_i r hx
      split at h
      ·cases h
      ·rename_i hn
       obtain ⟨k1,k2⟩:=gq hn
       split at h
       ·rename_i e1 es hr
        split at h
        ·cases h
        ·rename_i hb1
         have:=Nat.eq_of_beq_eq_true hb1
         subst this
         split at h
         ·rename_i s hy
          split at h
          ·cases h
          ·rename_i d hd
           split at h
           ·rename_i E1 m1 h2 h3
            simp only [Option.some.injEq,Prod.mk.injEq] at h
            obtain ⟨rfl,rfl,rfl⟩:=h
            rw [dd h2,de h3]
            obtain ⟨i,hi,_⟩:=bd (TK.slice_ok (aR htt hT))
            obtain ⟨g1,g2⟩:=uN heb
            unfold dstB at hlt
            rw [hd] at hlt
            exact WO.append_str (aA hx) hr (aA hy) ho hi (TK.str_ok (aR htt hT')) g1 g2 hφ k1 k2 hd hlt
           ·cases h
         ·cases h
       ·cases h
     ·cases h
    ·cases h
  ·cases h
 ·cases h
theorem WL.apps {tt:List (Nat×TK)} {l:List Oper} {E':Env} {m':Mem} {φ:Option Prop} (htt:ttOK P tt=true) {eb:Nat} (heb:sZ P eb=true) (h:wj tt c.P0 c.KN eb E m o=some (φ,E',m')) (hg:o.guard=none) (hlt:dstB c.ntmps o=true) (hφ:dJ φ) (hk:WL c P ops Q l E' m'):WL c P ops Q (o::l) E m:=
 WL.step (uO htt heb h hφ hlt) hg hk
end
end LJ
