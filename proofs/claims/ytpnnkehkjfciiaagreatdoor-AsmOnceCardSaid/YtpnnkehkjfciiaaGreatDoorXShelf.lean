/- Contracts over the kit's shelf: a builder's text whatever it holds, decimals. -/
import Derived.Test.YtpnnkehkjfciiaaGreatDoorXMak
import Derived.Test.YtpnnkehkjfciiaaGreatDoorXLaid
import Derived.Test.YtpnnkehkjfciiaaGreatDoorXBld
import Derived.Shelf.Strconv.Itoa3
import Derived.Shelf.Strings.Builder1
namespace LJ
open Go Go.RowKit
set_option linter.unusedVariables false
set_option linter.unusedSimpArgs false
theorem Done.below {F:Nat→Prop} {N:aI} {w w':World} {m0:Mem} {s:ByteArray} (hm:mc F N w m0) (hb:Below w.heap.size w w'):Done F N w m0 (.d (.str s)) [] (.returned (.string s)) w' (.string s) F N:=
 ⟨rfl, .d .str,⟨hm.glob.mono (fun _ h=>h) fun b h=>hb.block b (hm.Fin b h),fun b h=>Nat.lt_of_lt_of_le (hm.Fin b h) hb.size,fun n o h=>(by cases h),fun n o b h=>(by cases h),fun n n' o o' b h=>(by cases h)⟩,
  fun _ h=>h,fun _ h=> .inl h,hb.os,hb.tape,hb.output,hb.size,fun b h _=>hb.block b h,fun n o b h=>(by cases h),fun _ _ _ _=>rfl⟩
open Go.Shelf Go.Proofs in
theorem Spec.bldEmpty {P:Program} {ρ:Ren} (L:Lays.n169 P ρ) (X:Builder.Extra P ρ) {u:Bool} {s:ByteArray} (hs:s.size=0):
  Spec P (ρ.f 169) [.ptr 0 0] [(0, .box (ρ.t 72) [.optp u 0 0, .own 1]),(1, .row (ρ.t 5) 1 (b8 s))] (.d (.str s)) []:=fun F N w vals hm hlen hr=>by
 match vals,hlen with
 | [v0],_=>
 have e0:=(hr 0 v0 (.ptr 0 0) rfl rfl).ptr_inv
 subst e0
 obtain ⟨vs,hb,hl2,hcs⟩:=hm.obj 0 _ rfl
 match vs,hl2 with
 | [p,v],_=>
 have ev:v=N.σ 1:=(hcs 1 v (.own 1) rfl rfl).own_inv
 subst ev
 obtain ⟨bs,hown,_,hbr⟩:=hm.obj 1 _ rfl
 rw [gB,hs] at hown
 have es:s=⟨#[]⟩:=by
  cases s with
  | mk d=>congr 1;exact Array.eq_empty_of_size_eq_zero hs
 have key:∀ e w',(e= .returned (.string ⟨#[]⟩)∧Below w.heap.size w w')→∃ v F' N',Done F N w [(0, .box (ρ.t 72) [.optp u 0 0, .own 1]),(1, .row (ρ.t 5) 1 (b8 s))] (.d (.str s)) [] e w' v F' N':=fun e w' ⟨h1,h2⟩=>by
  subst h1
  rw [es] at hm ⊢
  exact ⟨_,F,N,Done.below hm h2⟩
 show Calls P (ρ.f 169) #[.pointer (some ⟨N.β 0,0,none⟩)] w _
 rcases hown.2 with ⟨h3,_⟩ | ⟨g,cap,cur,h3,_,hg,_,_,_,_⟩
 ·rw [h3] at hb
  exact (Any.Builder_String_nil L X w.heap.size (N.β 0) p w hb).mono fun e w' h=>key e w' h
 ·rw [h3] at hb
  by_cases hc0:cap=0
  ·subst hc0
   exact (Any.Builder_String_noroom L X w.heap.size (N.β 0) g p cur w (Nat.le_refl _) hb hg).mono fun e w' h=>key e w' h
  ·exact (Any.Builder_String_room L X w.heap.size (N.β 0) g cap p w hc0 hb).mono fun e w' h=>key e w' h
open Go.Shelf Go.Proofs in
theorem Spec.bldAny {P:Program} {ρ:Ren} (L:Lays.n169 P ρ) (X:Builder.Extra P ρ) {u:Bool} {s:ByteArray} :
  Spec P (ρ.f 169) [.ptr 0 0] [(0, .box (ρ.t 72) [.optp u 0 0, .own 1]),(1, .row (ρ.t 5) 1 (b8 s))] (.d (.str s)) []:=by
 by_cases h:s.size=0
 ·exact Spec.bldEmpty L X h
 ·exact Spec.bldString L X (by omega)
theorem Spec.numText {P:Program} {f:FuncId} {n:Int} {s:ByteArray} (H:∀ F w,gm F w→Calls P f #[.int .i64 n] w fun e w'=>e= .returned (.string s)∧∃ k os,w'=Go.Sort.grow (w.drewN k) os):Spec P f [.d (.int .i64 n)] [] (.d (.str s)) []:=fun F N w vals hm hlen hr=>by
 match vals,hlen with
 | [v0],_=>
 have e0:=(hr 0 v0 (.d (.int .i64 n)) rfl rfl).d_inv.int_inv
 subst e0
 refine (H F w hm.glob).mono ?_
 rintro e w' ⟨rfl,k,os,rfl⟩
 refine ⟨_,F,N,Done.below hm ⟨?_,?_,?_,?_,?_⟩⟩
 ·exact rfl
 ·exact rfl
 ·exact rfl
 ·simp [Go.Sort.grow]
 ·intro b hb
  simp only [Go.Sort.grow,Array.getElem?_append]
  exact if_pos hb
def decF:Nat→Nat→List UInt8
 | 0,_=>[]
 | f+1,u=>if u<10 then [UInt8.ofNat (48+u)] else decF f (u /10)++[UInt8.ofNat (48+u %10)]
theorem lx:∀ (f u:Nat),u<10 ^f→0<f→decF f u=Lib.decDigits u
 | 0,u,h,h0=>by omega
 | f+1,u,h,_=>by
  rw [decF,Lib.decDigits]
  by_cases hu:u<10
  ·rw [if_pos hu,dif_pos hu]
  ·rw [if_neg hu,dif_neg hu]
   rw [Nat.pow_succ] at h
   have h1:u /10<10 ^f:=by omega
   have h0:0<f:=by
    rcases Nat.eq_zero_or_pos f with rfl | h
    ·simp at h1;omega
    ·exact h
   rw [lx f (u /10) h1 h0]
def aW (n:Int):List UInt8:=if n<0 then 45::decF 20 n.natAbs else decF 20 n.toNat
def wy (n:Int):ByteArray:=⟨(aW n).toArray⟩
theorem uU {n:Int} (h0: -9223372036854775808≤n) (h1:n≤9223372036854775807):aW n=Lib.itoa n:=by
 unfold aW Lib.itoa
 by_cases h:n<0
 ·rw [if_pos h,if_pos h,lx 20 n.natAbs (by omega) (by decide)]
 ·rw [if_neg h,if_neg h,lx 20 n.toNat (by omega) (by decide)]
def nI64 (n:Int):Bool:=decide (-9223372036854775808≤n∧n≤9223372036854775807)
theorem wz {n:Int} (h: -9223372036854775808≤n∧n≤9223372036854775807):nI64 n=true:=decide_eq_true h
theorem wA {n:Int} (h:nI64 n=true): -9223372036854775808≤n∧n≤9223372036854775807:=of_decide_eq_true h
open Go.Shelf Go.Proofs in
theorem Spec.itoa {P:Program} {ρ:Ren} (L:LaysM.n171 P ρ) {n:Int} (hn:nI64 n=true) (hgg:gget kq (ρ.g 17)=some (Lib.pow10Tab.map fun z=>DV.int .u64 z)):Spec P (ρ.f 171) [.d (.int .i64 n)] [] (.d (.str (wy n))) []:=by
 obtain ⟨h0,h1⟩:=wA hn
 refine Spec.numText fun F w hG=>?_
 unfold wy
 rw [uU h0 h1]
 exact Any.strconv_Itoa L n h0 h1 w (nG hG L.m17 hgg)
end LJ
