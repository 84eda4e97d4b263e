/- A logic for the walks: the bytes of a text, as a slice: data in a new block. -/
import Derived.Test.YtdebndfaknfefaaGreatDoorXRsl
import Derived.Lib.ConvBytes
namespace LJ
open Go Go.RowKit
set_option linter.unusedVariables false
set_option linter.unusedSimpArgs false
def jG (s:ByteArray):List Int:=s.data.toList.map fun b=>((b.toNat:Nat):Int)
theorem j5 (s:ByteArray):(jG s).length=s.size:=by
 unfold jG
 rw [List.length_map]
 exact Array.length_toList
theorem dj.moreF {c:Ctx} {F:Nat→Prop} {N:ba} {w:World} {m:Mem} (h:dj c F N w m) {b:Nat} (h1:c.w0.heap.size≤b) (h2:b<w.heap.size) (h3:∀ n o,m.get n=some o→blk N n o≠some b):dj c (fun x=>F x∨x=b) N w m:=by
 refine ⟨fun x hx=> .inl (h.F0 x hx),fun x hx=>?_,fun x hx=>?_,h.os,h.tape,h.output,h.size,h.kept,fun n o hn=>?_,fun n o x hn hx=>⟨fun hF=>hF.elim (h.free n o x hn hx).1 (fun e=>h3 n o hn (e ▸hx)),(h.free n o x hn hx).2⟩,h.apart,h.named,h.agree,h.knames,h.ksize⟩
 ·rcases hx with hx | rfl
  ·exact h.Fnew x hx
  ·exact .inr (.inl h1)
 ·rcases hx with hx | rfl
  ·exact h.Fin x hx
  ·exact h2
 ·have hh:=h.obj n o hn
  cases o with
  | box T cs=>
   obtain ⟨vs,g1,g2,g3⟩:=hh
   exact ⟨vs,g1,g2,fun i v p hv hp=>(g3 i v p hv hp).mono (fun _ h=> .inl h) (fun _ _=>rfl)⟩
  | row E sz es=>
   obtain ⟨vs,g1,g2,g3⟩:=hh
   exact ⟨vs,g1,g2,fun i v x hv hx=>(g3 i v x hv hx).mono (fun _ h=> .inl h) (fun _ _=>rfl)⟩
  | que E sz es=>
   obtain ⟨vs,g1,g2,g3⟩:=hh
   exact ⟨vs,g1,g2,fun i v x hv hx=>(g3 i v x hv hx).mono (fun _ h=> .inl h) (fun _ _=>rfl)⟩
def Cb (P:Program) (T1 T2:TypeId):Bool:=
 match P.underlying T1,P.underlying T2 with
 | some .string,some (.slice e)=>match P.underlying e with
  | some (.int .u8)=>true
  | _=>false
 | _,_=>false
section
variable {P:Program} {c:Ctx} {ops:Array Oper} {Q:Exit→Env→Mem→Prop} {E E':Env} {m m':Mem} {o:Oper} {l:List Oper}
theorem WO.bytesD (enc:Int→List DV) (s:ByteArray) {x:Operand} {T1 T2 d:Nat} (henc:enc=fun x=>[.int .u8 x]) (hx:opnd E x=some (.d (.str s))) (ho:o.op= .convert T1 T2 x) (hT:Cb P T1 T2=true) (hd:o.dst=some d) (hlt:Nat.blt d c.ntmps=true):WO c P o E m ((d, .d (slT enc (jG s)))::E) m:=fun Q K a w hr h=>by
 obtain ⟨h1,h2,F,N,hm,he⟩:=hr
 have hv:a.eval x= .string s:=((aI hx) F N w a he).d_inv.str_inv
 unfold Cb at hT
 split at hT
 ·rename_i e hT1 hT2
  split at hT
  ·rename_i hE
   have hrun:=Lib.run_convert_string_bytes (P:=P) w T1 T2 e s hT1 hT2 hE
   have hrun':(execOp a.eval o).run P w= .ok (.value (.slice (some ⟨w.heap.size,0,none⟩) s.size (grownCap w s.size 0 e))) (Lib.bytesWorld w e s):=by
    unfold execOp
    simp [ho,hv,hrun]
   have g:Grew w (Lib.bytesWorld w e s):=⟨rfl,rfl,rfl,by rw [Lib.bytesWorld_size];omega,fun b hb=>Lib.bytesWorld_at_old w e s b hb⟩
   have hm2:=(hm.grew g).moreF (b:=w.heap.size) hm.size (by rw [Lib.bytesWorld_size];omega) (fun n o hn hb=>by
    have:=(hm.obj n o hn).lt hb
    omega)
   have rep:RepD (fun x=>F x∨x=w.heap.size) (Lib.bytesWorld w e s) (.slice (some ⟨w.heap.size,0,none⟩) s.size (grownCap w s.size 0 e)) (slT enc (jG s)):=by
    refine RepD.slT ?_
    rcases Nat.eq_zero_or_pos s.size with h0 | h0
    ·have:jG s=[]:=List.eq_nil_of_length_eq_zero (by rw [j5];exact h0)
     rw [this,h0]
     exact .nil
    ·have hcap:s.size≤grownCap w s.size 0 e:=grownCap_ge w _ _ _
     subst henc
     have elem:∀ (i:Nat) (x:List DV),((jG s).map fun x=>[DV.int .u8 x])[i]? =some x→i<s.size∧x=[DV.int .u8 ((s.data.toList.getD i 0).toNat:Int)]:=fun i x hx=>by
      have hi:i<s.size:=by have:=(List.getElem?_eq_some_iff.1 hx).1;simpa [j5] using this
      refine ⟨hi,?_⟩
      have hi':i<s.data.toList.length:=by rw [Array.length_toList];exact hi
      rw [List.getElem?_map,jG,List.getElem?_map,List.getElem?_eq_getElem hi'] at hx
      simp only [Option.map_some,Option.some.injEq] at hx
      rw [←hx,List.getD_eq_getElem?_getD,List.getElem?_eq_getElem hi']
      rfl
     refine .sl (sz:=1) (fun i _=> .int .u8 (s.data.toList.getD i 0).toNat) (by rw [List.length_map,j5]) h0 hcap rfl (.inr rfl) (fun i x hx=>by rw [(elem i x hx).2];rfl) (fun i j x dd hx hdd=>?_) (fun i j x dd hx hdd=>?_)
     ·obtain ⟨hi,rfl⟩:=elem i x hx
      cases j with
      | zero=>
       have:=Lib.bytesWorld_cell w e s i hi
       simpa using this
      | succ j=>simp at hdd
     ·obtain ⟨hi,rfl⟩:=elem i x hx
      cases j with
      | zero=>
       simp only [List.getElem?_cons_zero,Option.some.injEq] at hdd
       rw [←hdd]
       exact .int
      | succ j=>simp at hdd
   unfold Oper.wp
   rw [hrun',Oper.upon_value]
   have he2:di (fun x=>F x∨x=w.heap.size) N (Lib.bytesWorld w e s) a E:=⟨fun t=>(he t).mono (fun _ h=> .inl h) (fun b hb=>g.block b (hm.Fin b hb)),he.glob.mono (fun _ h=> .inl h) (fun b hb=>g.block b (hm.Fin b hb))⟩
   exact h _ _ _ rfl (by rw [hd];exact Rel.put h1 h2 hm2 he2 hlt (.d rep))
  ·cases hT
 ·cases hT
end
end LJ
