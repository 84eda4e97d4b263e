/- Each Go function comes to what its plain function gives, where that gives something. -/
import Derived.Test.YtpnnkehkjfciiaaGreatDoorPF
import Derived.Test.YtpnnkehkjfciiaaGreatDoorSq
import Derived.Test.YtpnnkehkjfciiaaGreatDoorProg
import Derived.Test.YtpnnkehkjfciiaaGreatDoorXErr
import Derived.Test.YtpnnkehkjfciiaaGreatDoorXInd
import Derived.Test.YtpnnkehkjfciiaaGreatDoorXRowl
import Derived.Test.YtpnnkehkjfciiaaGreatDoorXShelf
namespace Go.Proofs.YtpnnkehkjfciiaaGreatDoor.W
open Go Go.RowKit LJ
set_option linter.unusedVariables false
set_option linter.unusedSimpArgs false
set_option maxRecDepth 10000
def tt:List (Nat×TK):=[(3, .int .i64),(4, .bool),(5, .int .u8),(9, .str),(21, .int .i32),(22, .slice 44 3),(23, .slice 45 1),(24, .slice 49 3),(26, .struct 3 [(0,1,true),(1,1,true),(2,1,true)] [.nils, .nils, .nils]),(28, .struct 3 [(0,1,true),(1,1,true),(2,1,true)] [.int .i64 0, .int .i64 0, .int .i64 0]),(31, .int .i64),(44, .struct 3 [(0,1,true),(1,1,true),(2,1,true)] [.int .i64 0, .int .i64 0, .int .i64 0]),(45, .slice 76 1),(47, .slice 28 3),(49, .struct 3 [(0,1,true),(1,1,true),(2,1,true)] [.int .i64 0, .int .i64 0, .nils]),(55, .ptr),(56, .slice 5 1),(58, .struct 2 [(0,1,true),(1,1,true)] [.nilp, .nils]),(60, .one),(70, .ptr),(72, .struct 3 [(0,3,false)] [.nils, .nils, .nils]),(76, .slice 80 3),(80, .struct 3 [(0,1,true),(1,1,true),(2,1,true)] [.int .i64 0, .int .i64 0, .int .i64 0]),(85, .slice 3 1),(88, .ptr),(89, .arr 2 2 3 1),(92, .slice 9 1),(105, .one),(111, .ptr),(117, .int .u64),(118, .int .u64),(123, .arr 256 256 5 1),(125, .one),(127, .int .u64),(131, .slice 85 1),(140, .int .u32),(142, .ptr),(152, .slice 158 3),(153, .slice 161 3),(155, .struct 3 [(0,1,true),(1,1,true),(2,1,true)] [.nils, .nils, .int .i64 0]),(156, .int .u16),(158, .struct 3 [(0,1,true),(1,1,true),(2,1,true)] [.int .u16 0, .int .u16 0, .int .u16 0]),(161, .struct 3 [(0,1,true),(1,1,true),(2,1,true)] [.int .u32 0, .int .u32 0, .int .u32 0]),(170, .ptr),(171, .ptr)]
theorem tk:ttOK Tryz.prog tt=true:=by kernel_rfl
def et:List (Nat×Nat×Nat):=[(3,1,8),(5,1,1),(9,1,16),(28,3,24),(44,3,24),(45,1,24),(49,3,40),(76,1,24),(80,3,24),(85,1,24),(158,3,6),(161,3,12)]
theorem ek:etOK Tryz.prog et=true:=by kernel_rfl
theorem ya:sZ Tryz.prog 5=true:=by kernel_rfl
def sg0:List (PSig Tryz.prog):=[]
def eg0:List (ESig Tryz.prog):=[]
abbrev sf (n:Nat) (s:Sch):Sch:= .one n false s
abbrev sT (n:Nat) (s:Sch):Sch:= .one n true s
abbrev sd:Sch:= .done
abbrev fk (a b:Sch):Sch:= .fork a b
theorem Z {n:Nat} :n<n+1:=Nat.lt_succ_self n
theorem Lm {E E':Env} {m m':Mem} (h1:su E E') (h2:dc m m'):Less E m E' m':=Less.mk' h1 h2
theorem Lw {E E':Env} {m m':Mem} (h1:wk E E') (h2:dc m m'):gu E m E' m':=gu.mk' h1 h2
def xH (nt:Nat) (E:Env) (o:Oper):Option (Nat×List AV):=match o.guard,dstB nt o,lr o with
  | none,true,some p=>(kt E p.2).map fun a=>(p.1,a)
  | _,_,_=>none
def effX (P0 KN:List Nat) (nt n:Nat) (E:Env) (m:Mem) (o:Oper):ER:=match o.guard,dstB nt o with
  | none,true=>sR tt et eg0 P0 KN n E m o
  | _,_=>none
section
variable {c:Ctx} {ops:Array Oper} {Q Q':Exit→Env→Mem→Prop} {E E':Env} {m m':Mem} {l:List Oper} {o:Oper} {ψ:Prop}
theorem RS (n:Nat) (h:cond (iZ c.ntmps (l.take n)) (i0 (fun E op=>gOp tt sg0 E m op) (l.take n) E) none=some (ψ,E')) (hp:ψ) (hk:WL c Tryz.prog ops Q (l.drop n) E' m):WL c Tryz.prog ops Q l E m:=by
  cases hd:iZ c.ntmps (l.take n) with
  | false=>rw [hd] at h;cases h
  | true=>rw [hd] at h;exact WL.run n tk sg0 h hd hp hk
theorem R (n:Nat) (h:cond (iZ c.ntmps (l.take n)) (i0 (fun E op=>gOp tt sg0 E m op) (l.take n) E) none=some (True,E')) (hk:WL c Tryz.prog ops Q (l.drop n) E' m):WL c Tryz.prog ops Q l E m:=RS n h trivial hk
theorem G {id:Nat} {k:List Oper} {y:Code} (h:WL c Tryz.prog k.toArray (kr (WC c Tryz.prog y Q) Q) k E m):WC c Tryz.prog (.seq (.region id k.toArray false) y) Q E m:=WC.seq (WC.region h)
theorem N {id:Nat} {k:List Oper} {y:Code} (h:WL c Tryz.prog k.toArray (kr (WC c Tryz.prog y Q) Q) k E m):WL c Tryz.prog ops (kr (WC c Tryz.prog (.seq (.region id k.toArray false) y) Q) Q') [] E m:=WL.nil (G h)
theorem NS {x y:Code} (h:WC c Tryz.prog x (kr (WC c Tryz.prog y Q) Q) E m):WL c Tryz.prog ops (kr (WC c Tryz.prog (.seq x y) Q) Q') [] E m:=WL.nil (WC.seq h)
theorem NQ {K:Env→Mem→Prop} (h:K E m):WL c Tryz.prog ops (kr K Q) [] E m:=WL.nil h
theorem Cl {f:Nat} {args:List AV} {m0 m1:Mem} {out:AV} {fn:Func} (fs:List Nat) (hS:LJ.Spec Tryz.prog f args m0 out m1) (hfn:aE Tryz.prog f fn) (ho:xH c.ntmps E o=some (f,args)) (hsub:dc m m0) (h:lq c.P0 c.KN fs E m m0 out m1 o.dst=some (E',m')) (hk:WL c Tryz.prog ops Q l E' m'):WL c Tryz.prog ops Q (o::l) E m:=by
  unfold xH at ho
  split at ho
  · rename_i p h1 h2 h3
    obtain ⟨a,h4,h5⟩:=Option.map_eq_some_iff.1 ho
    cases h5
    exact WL.call fs hS hfn h3 h4 hsub h h1 h2 hk
  · cases ho
theorem EF {φ:Option Prop} (n:Nat) (h:effX c.P0 c.KN c.ntmps n E m o=some (φ,E',m')) (hp:dJ φ) (hk:WL c Tryz.prog ops Q l E' m'):WL c Tryz.prog ops Q (o::l) E m:=by
  unfold effX at h
  split at h
  · rename_i h1 h2
    exact WL.eff n tk ek eg0 h h1 h2 hp hk
  · cases h
theorem Wd {x:Nat} {C D:Code} {b:Bool} {α:Type} {X Y:Option α} {r:α} (hx:E.get x= .d (.bool b)) (H:cond b X Y=some r) (ht:X=some r→WC c Tryz.prog C Q E m) (hf:Y=some r→WC c Tryz.prog D Q E m):WC c Tryz.prog (.cond (.tmp x) C D) Q E m:=WC.cond hx (fun h=>ht (of_t H h)) (fun h=>hf (of_f H h))
theorem Ef (n:Nat) (h:effX c.P0 c.KN c.ntmps n E m o=some (none,E',m')) (hk:WL c Tryz.prog ops Q l E' m'):WL c Tryz.prog ops Q (o::l) E m:=EF n h trivial hk
end
theorem p1 {α0:Type} {a0:α0} :a0=a0∧True:=⟨rfl,trivial⟩
theorem q1 {a0:AV} :AVle a0 a0∧True:=⟨AVle.of rfl,trivial⟩
theorem p2 {α0 α1:Type} {a0:α0} {a1:α1} :a0=a0∧a1=a1∧True:=⟨rfl,rfl,trivial⟩
theorem q2 {a0 a1:AV} :AVle a0 a0∧AVle a1 a1∧True:=⟨AVle.of rfl,AVle.of rfl,trivial⟩
theorem p3 {α0 α1 α2:Type} {a0:α0} {a1:α1} {a2:α2} :a0=a0∧a1=a1∧a2=a2∧True:=⟨rfl,rfl,rfl,trivial⟩
theorem q3 {a0 a1 a2:AV} :AVle a0 a0∧AVle a1 a1∧AVle a2 a2∧True:=⟨AVle.of rfl,AVle.of rfl,AVle.of rfl,trivial⟩
theorem p4 {α0 α1 α2 α3:Type} {a0:α0} {a1:α1} {a2:α2} {a3:α3} :a0=a0∧a1=a1∧a2=a2∧a3=a3∧True:=⟨rfl,rfl,rfl,rfl,trivial⟩
theorem q4 {a0 a1 a2 a3:AV} :AVle a0 a0∧AVle a1 a1∧AVle a2 a2∧AVle a3 a3∧True:=⟨AVle.of rfl,AVle.of rfl,AVle.of rfl,AVle.of rfl,trivial⟩
theorem p5 {α0 α1 α2 α3 α4:Type} {a0:α0} {a1:α1} {a2:α2} {a3:α3} {a4:α4} :a0=a0∧a1=a1∧a2=a2∧a3=a3∧a4=a4∧True:=⟨rfl,rfl,rfl,rfl,rfl,trivial⟩
theorem q5 {a0 a1 a2 a3 a4:AV} :AVle a0 a0∧AVle a1 a1∧AVle a2 a2∧AVle a3 a3∧AVle a4 a4∧True:=⟨AVle.of rfl,AVle.of rfl,AVle.of rfl,AVle.of rfl,AVle.of rfl,trivial⟩
theorem p6 {α0 α1 α2 α3 α4 α5:Type} {a0:α0} {a1:α1} {a2:α2} {a3:α3} {a4:α4} {a5:α5} :a0=a0∧a1=a1∧a2=a2∧a3=a3∧a4=a4∧a5=a5∧True:=⟨rfl,rfl,rfl,rfl,rfl,rfl,trivial⟩
theorem q6 {a0 a1 a2 a3 a4 a5:AV} :AVle a0 a0∧AVle a1 a1∧AVle a2 a2∧AVle a3 a3∧AVle a4 a4∧AVle a5 a5∧True:=⟨AVle.of rfl,AVle.of rfl,AVle.of rfl,AVle.of rfl,AVle.of rfl,AVle.of rfl,trivial⟩
theorem p7 {α0 α1 α2 α3 α4 α5 α6:Type} {a0:α0} {a1:α1} {a2:α2} {a3:α3} {a4:α4} {a5:α5} {a6:α6} :a0=a0∧a1=a1∧a2=a2∧a3=a3∧a4=a4∧a5=a5∧a6=a6∧True:=⟨rfl,rfl,rfl,rfl,rfl,rfl,rfl,trivial⟩
theorem q7 {a0 a1 a2 a3 a4 a5 a6:AV} :AVle a0 a0∧AVle a1 a1∧AVle a2 a2∧AVle a3 a3∧AVle a4 a4∧AVle a5 a5∧AVle a6 a6∧True:=⟨AVle.of rfl,AVle.of rfl,AVle.of rfl,AVle.of rfl,AVle.of rfl,AVle.of rfl,AVle.of rfl,trivial⟩
theorem p8 {α0 α1 α2 α3 α4 α5 α6 α7:Type} {a0:α0} {a1:α1} {a2:α2} {a3:α3} {a4:α4} {a5:α5} {a6:α6} {a7:α7} :a0=a0∧a1=a1∧a2=a2∧a3=a3∧a4=a4∧a5=a5∧a6=a6∧a7=a7∧True:=⟨rfl,rfl,rfl,rfl,rfl,rfl,rfl,rfl,trivial⟩
theorem q8 {a0 a1 a2 a3 a4 a5 a6 a7:AV} :AVle a0 a0∧AVle a1 a1∧AVle a2 a2∧AVle a3 a3∧AVle a4 a4∧AVle a5 a5∧AVle a6 a6∧AVle a7 a7∧True:=⟨AVle.of rfl,AVle.of rfl,AVle.of rfl,AVle.of rfl,AVle.of rfl,AVle.of rfl,AVle.of rfl,AVle.of rfl,trivial⟩
theorem p9 {α0 α1 α2 α3 α4 α5 α6 α7 α8:Type} {a0:α0} {a1:α1} {a2:α2} {a3:α3} {a4:α4} {a5:α5} {a6:α6} {a7:α7} {a8:α8} :a0=a0∧a1=a1∧a2=a2∧a3=a3∧a4=a4∧a5=a5∧a6=a6∧a7=a7∧a8=a8∧True:=⟨rfl,rfl,rfl,rfl,rfl,rfl,rfl,rfl,rfl,trivial⟩
theorem q9 {a0 a1 a2 a3 a4 a5 a6 a7 a8:AV} :AVle a0 a0∧AVle a1 a1∧AVle a2 a2∧AVle a3 a3∧AVle a4 a4∧AVle a5 a5∧AVle a6 a6∧AVle a7 a7∧AVle a8 a8∧True:=⟨AVle.of rfl,AVle.of rfl,AVle.of rfl,AVle.of rfl,AVle.of rfl,AVle.of rfl,AVle.of rfl,AVle.of rfl,AVle.of rfl,trivial⟩
theorem p10 {α0 α1 α2 α3 α4 α5 α6 α7 α8 α9:Type} {a0:α0} {a1:α1} {a2:α2} {a3:α3} {a4:α4} {a5:α5} {a6:α6} {a7:α7} {a8:α8} {a9:α9} :a0=a0∧a1=a1∧a2=a2∧a3=a3∧a4=a4∧a5=a5∧a6=a6∧a7=a7∧a8=a8∧a9=a9∧True:=⟨rfl,rfl,rfl,rfl,rfl,rfl,rfl,rfl,rfl,rfl,trivial⟩
theorem q10 {a0 a1 a2 a3 a4 a5 a6 a7 a8 a9:AV} :AVle a0 a0∧AVle a1 a1∧AVle a2 a2∧AVle a3 a3∧AVle a4 a4∧AVle a5 a5∧AVle a6 a6∧AVle a7 a7∧AVle a8 a8∧AVle a9 a9∧True:=⟨AVle.of rfl,AVle.of rfl,AVle.of rfl,AVle.of rfl,AVle.of rfl,AVle.of rfl,AVle.of rfl,AVle.of rfl,AVle.of rfl,AVle.of rfl,trivial⟩
theorem p11 {α0 α1 α2 α3 α4 α5 α6 α7 α8 α9 α10:Type} {a0:α0} {a1:α1} {a2:α2} {a3:α3} {a4:α4} {a5:α5} {a6:α6} {a7:α7} {a8:α8} {a9:α9} {a10:α10} :a0=a0∧a1=a1∧a2=a2∧a3=a3∧a4=a4∧a5=a5∧a6=a6∧a7=a7∧a8=a8∧a9=a9∧a10=a10∧True:=⟨rfl,rfl,rfl,rfl,rfl,rfl,rfl,rfl,rfl,rfl,rfl,trivial⟩
theorem q11 {a0 a1 a2 a3 a4 a5 a6 a7 a8 a9 a10:AV} :AVle a0 a0∧AVle a1 a1∧AVle a2 a2∧AVle a3 a3∧AVle a4 a4∧AVle a5 a5∧AVle a6 a6∧AVle a7 a7∧AVle a8 a8∧AVle a9 a9∧AVle a10 a10∧True:=⟨AVle.of rfl,AVle.of rfl,AVle.of rfl,AVle.of rfl,AVle.of rfl,AVle.of rfl,AVle.of rfl,AVle.of rfl,AVle.of rfl,AVle.of rfl,AVle.of rfl,trivial⟩
theorem p12 {α0 α1 α2 α3 α4 α5 α6 α7 α8 α9 α10 α11:Type} {a0:α0} {a1:α1} {a2:α2} {a3:α3} {a4:α4} {a5:α5} {a6:α6} {a7:α7} {a8:α8} {a9:α9} {a10:α10} {a11:α11} :a0=a0∧a1=a1∧a2=a2∧a3=a3∧a4=a4∧a5=a5∧a6=a6∧a7=a7∧a8=a8∧a9=a9∧a10=a10∧a11=a11∧True:=⟨rfl,rfl,rfl,rfl,rfl,rfl,rfl,rfl,rfl,rfl,rfl,rfl,trivial⟩
theorem q12 {a0 a1 a2 a3 a4 a5 a6 a7 a8 a9 a10 a11:AV} :AVle a0 a0∧AVle a1 a1∧AVle a2 a2∧AVle a3 a3∧AVle a4 a4∧AVle a5 a5∧AVle a6 a6∧AVle a7 a7∧AVle a8 a8∧AVle a9 a9∧AVle a10 a10∧AVle a11 a11∧True:=⟨AVle.of rfl,AVle.of rfl,AVle.of rfl,AVle.of rfl,AVle.of rfl,AVle.of rfl,AVle.of rfl,AVle.of rfl,AVle.of rfl,AVle.of rfl,AVle.of rfl,AVle.of rfl,trivial⟩
theorem p13 {α0 α1 α2 α3 α4 α5 α6 α7 α8 α9 α10 α11 α12:Type} {a0:α0} {a1:α1} {a2:α2} {a3:α3} {a4:α4} {a5:α5} {a6:α6} {a7:α7} {a8:α8} {a9:α9} {a10:α10} {a11:α11} {a12:α12} :a0=a0∧a1=a1∧a2=a2∧a3=a3∧a4=a4∧a5=a5∧a6=a6∧a7=a7∧a8=a8∧a9=a9∧a10=a10∧a11=a11∧a12=a12∧True:=⟨rfl,rfl,rfl,rfl,rfl,rfl,rfl,rfl,rfl,rfl,rfl,rfl,rfl,trivial⟩
theorem q13 {a0 a1 a2 a3 a4 a5 a6 a7 a8 a9 a10 a11 a12:AV} :AVle a0 a0∧AVle a1 a1∧AVle a2 a2∧AVle a3 a3∧AVle a4 a4∧AVle a5 a5∧AVle a6 a6∧AVle a7 a7∧AVle a8 a8∧AVle a9 a9∧AVle a10 a10∧AVle a11 a11∧AVle a12 a12∧True:=⟨AVle.of rfl,AVle.of rfl,AVle.of rfl,AVle.of rfl,AVle.of rfl,AVle.of rfl,AVle.of rfl,AVle.of rfl,AVle.of rfl,AVle.of rfl,AVle.of rfl,AVle.of rfl,AVle.of rfl,trivial⟩
theorem p14 {α0 α1 α2 α3 α4 α5 α6 α7 α8 α9 α10 α11 α12 α13:Type} {a0:α0} {a1:α1} {a2:α2} {a3:α3} {a4:α4} {a5:α5} {a6:α6} {a7:α7} {a8:α8} {a9:α9} {a10:α10} {a11:α11} {a12:α12} {a13:α13} :a0=a0∧a1=a1∧a2=a2∧a3=a3∧a4=a4∧a5=a5∧a6=a6∧a7=a7∧a8=a8∧a9=a9∧a10=a10∧a11=a11∧a12=a12∧a13=a13∧True:=⟨rfl,rfl,rfl,rfl,rfl,rfl,rfl,rfl,rfl,rfl,rfl,rfl,rfl,rfl,trivial⟩
theorem q14 {a0 a1 a2 a3 a4 a5 a6 a7 a8 a9 a10 a11 a12 a13:AV} :AVle a0 a0∧AVle a1 a1∧AVle a2 a2∧AVle a3 a3∧AVle a4 a4∧AVle a5 a5∧AVle a6 a6∧AVle a7 a7∧AVle a8 a8∧AVle a9 a9∧AVle a10 a10∧AVle a11 a11∧AVle a12 a12∧AVle a13 a13∧True:=⟨AVle.of rfl,AVle.of rfl,AVle.of rfl,AVle.of rfl,AVle.of rfl,AVle.of rfl,AVle.of rfl,AVle.of rfl,AVle.of rfl,AVle.of rfl,AVle.of rfl,AVle.of rfl,AVle.of rfl,AVle.of rfl,trivial⟩
theorem p15 {α0 α1 α2 α3 α4 α5 α6 α7 α8 α9 α10 α11 α12 α13 α14:Type} {a0:α0} {a1:α1} {a2:α2} {a3:α3} {a4:α4} {a5:α5} {a6:α6} {a7:α7} {a8:α8} {a9:α9} {a10:α10} {a11:α11} {a12:α12} {a13:α13} {a14:α14} :a0=a0∧a1=a1∧a2=a2∧a3=a3∧a4=a4∧a5=a5∧a6=a6∧a7=a7∧a8=a8∧a9=a9∧a10=a10∧a11=a11∧a12=a12∧a13=a13∧a14=a14∧True:=⟨rfl,rfl,rfl,rfl,rfl,rfl,rfl,rfl,rfl,rfl,rfl,rfl,rfl,rfl,rfl,trivial⟩
theorem q15 {a0 a1 a2 a3 a4 a5 a6 a7 a8 a9 a10 a11 a12 a13 a14:AV} :AVle a0 a0∧AVle a1 a1∧AVle a2 a2∧AVle a3 a3∧AVle a4 a4∧AVle a5 a5∧AVle a6 a6∧AVle a7 a7∧AVle a8 a8∧AVle a9 a9∧AVle a10 a10∧AVle a11 a11∧AVle a12 a12∧AVle a13 a13∧AVle a14 a14∧True:=⟨AVle.of rfl,AVle.of rfl,AVle.of rfl,AVle.of rfl,AVle.of rfl,AVle.of rfl,AVle.of rfl,AVle.of rfl,AVle.of rfl,AVle.of rfl,AVle.of rfl,AVle.of rfl,AVle.of rfl,AVle.of rfl,AVle.of rfl,trivial⟩
theorem p16 {α0 α1 α2 α3 α4 α5 α6 α7 α8 α9 α10 α11 α12 α13 α14 α15:Type} {a0:α0} {a1:α1} {a2:α2} {a3:α3} {a4:α4} {a5:α5} {a6:α6} {a7:α7} {a8:α8} {a9:α9} {a10:α10} {a11:α11} {a12:α12} {a13:α13} {a14:α14} {a15:α15} :a0=a0∧a1=a1∧a2=a2∧a3=a3∧a4=a4∧a5=a5∧a6=a6∧a7=a7∧a8=a8∧a9=a9∧a10=a10∧a11=a11∧a12=a12∧a13=a13∧a14=a14∧a15=a15∧True:=⟨rfl,rfl,rfl,rfl,rfl,rfl,rfl,rfl,rfl,rfl,rfl,rfl,rfl,rfl,rfl,rfl,trivial⟩
theorem q16 {a0 a1 a2 a3 a4 a5 a6 a7 a8 a9 a10 a11 a12 a13 a14 a15:AV} :AVle a0 a0∧AVle a1 a1∧AVle a2 a2∧AVle a3 a3∧AVle a4 a4∧AVle a5 a5∧AVle a6 a6∧AVle a7 a7∧AVle a8 a8∧AVle a9 a9∧AVle a10 a10∧AVle a11 a11∧AVle a12 a12∧AVle a13 a13∧AVle a14 a14∧AVle a15 a15∧True:=⟨AVle.of rfl,AVle.of rfl,AVle.of rfl,AVle.of rfl,AVle.of rfl,AVle.of rfl,AVle.of rfl,AVle.of rfl,AVle.of rfl,AVle.of rfl,AVle.of rfl,AVle.of rfl,AVle.of rfl,AVle.of rfl,AVle.of rfl,AVle.of rfl,trivial⟩
theorem lN (a0:List (List aa)) {r:List (List aa)} (H:gC a0=some r):LJ.Spec Tryz.prog 15 [.d (slT aw a0)] [] (.d (slT aw r)) []:=by
 refine LJ.Spec.code Tryz.func15 rfl 33 rfl rfl [] rfl fun w0 F0 S0 B0=>?_
 unfold gC at H
 refine G (R 1 rfl (N (Ef 106 rfl (R 1 rfl (NS (G (R 1 rfl (NQ (Wb (Wl (ι:= {x:Nat×(Int×(List (List aa))) //cL a0 x.1 x.2=some r}) (fun x=>[(0, .d (slT aw a0)),(3, .own 106),(4, .d (.int .i64 x.1.2.1))]) (fun x=>[(106, .row 76 1 (x.1.2.2.map aw))]) (fun x=>x.1.1) ⟨(fuel,(0,([]:List (List aa)))),H⟩ (Lm p3 p1) fun x=>?_))))))))))
 obtain ⟨⟨k2,s1⟩,H⟩:=x
 rcases k2 with _ | k2
 ·exact aO H
 rw [cL] at H
 refine Ws (G (R 5 rfl (Wx 2 4 true tk sg0 rfl rfl (fun _=>tv) (RS 1 rfl ⟨by first | exact id | exact fun h=>by rw [h];rfl | simp_all,tv⟩ (NQ (Wd rfl H (fun H=>?_) (fun H=>?_)))))))
 ·refine Wk (Qn (Ws (Wb (G ?_))))
  obtain ⟨g4,H⟩:=aq H
  refine RS 5 rfl ⟨⟨(av g4).1,(av g4).2,rfl⟩,tv⟩ (NS (G (R 3 rfl (NQ (Wd rfl H (fun H=>?_) (fun H=>?_))))))
  ·refine Wg (R 1 rfl ?_)
   obtain ⟨g6,H⟩:=aq H
   refine WL.yv (LJ.Y.sliceT aN (a0.getD s1.1.toNat default) tk rfl (fun _=>rfl) none (some (.const (.int .i64 6))) (0:Int) (6:Int) rfl rfl ⟨_,rfl⟩ rfl rfl (lp g6)) rfl rfl rfl (R 1 rfl (NQ (Wg (R 1 rfl (Ef 127 rfl (R 1 rfl (WL.row 127 (([]:List aa).map aN) rfl rfl rfl ?_)))))))
   obtain ⟨g7,H⟩:=aq H
   refine WL.appT aN ([]:List aa) (((a0.getD s1.1.toNat default).take (6:Int).toNat).drop (0:Int).toNat) tk ek rfl rfl (fun _=>rfl) (fun _=>rfl) rfl rfl rfl rfl (bO g7) rfl rfl rfl rfl rfl ?_
   refine WL.freezeT 127 aN (([]:List aa)++(((a0.getD s1.1.toNat default).take (6:Int).toNat).drop (0:Int).toNat)) rfl rfl rfl rfl (Ef 130 rfl (WL.freezeT 130 aw ([([]:List aa)++(((a0.getD s1.1.toNat default).take (6:Int).toNat).drop (0:Int).toNat)]:List (List aa)) rfl rfl rfl rfl ?_))
   obtain ⟨g8,H⟩:=aq H
   refine WL.appT aw s1.2 ([([]:List aa)++(((a0.getD s1.1.toNat default).take (6:Int).toNat).drop (0:Int).toNat)]:List (List aa)) tk ek rfl rfl (fun _=>rfl) (fun _=>rfl) rfl rfl rfl rfl (bO g8) rfl rfl rfl rfl rfl ?_
   refine R 1 rfl (Wn (Qb (Qn ?_)))
   exact Wg (R 3 rfl (NQ (⟨⟨(k2,(IntKind.i64.wrap (s1.1+1),s1.2++([([]:List aa)++(((a0.getD s1.1.toNat default).take (6:Int).toNat).drop (0:Int).toNat)]:List (List aa)))),H⟩,Z,Lm p3 p1⟩)))
  refine Wk (Qn (Wg (R 1 rfl (Ef 127 rfl (R 1 rfl (WL.row 127 (([]:List aa).map aN) rfl rfl rfl ?_))))))
  obtain ⟨g9,H⟩:=aq H
  refine WL.appT aN ([]:List aa) (a0.getD s1.1.toNat default) tk ek rfl rfl (fun _=>rfl) (fun _=>rfl) rfl rfl rfl rfl (bO g9) rfl rfl rfl rfl rfl ?_
  refine WL.freezeT 127 aN (([]:List aa)++(a0.getD s1.1.toNat default)) rfl rfl rfl rfl (Ef 130 rfl (WL.freezeT 130 aw ([([]:List aa)++(a0.getD s1.1.toNat default)]:List (List aa)) rfl rfl rfl rfl ?_))
  obtain ⟨g10,H⟩:=aq H
  refine WL.appT aw s1.2 ([([]:List aa)++(a0.getD s1.1.toNat default)]:List (List aa)) tk ek rfl rfl (fun _=>rfl) (fun _=>rfl) rfl rfl rfl rfl (bO g10) rfl rfl rfl rfl rfl ?_
  refine R 1 rfl (Wn (Qb (Qn ?_)))
  exact Wg (R 3 rfl (NQ (⟨⟨(k2,(IntKind.i64.wrap (s1.1+1),s1.2++([([]:List aa)++(a0.getD s1.1.toNat default)]:List (List aa)))),H⟩,Z,Lm p3 p1⟩)))
 refine WC.exit (Qx (Qx (Qh (Qn ?_))))
 refine G (R 2 rfl (NQ (WC.freezeT 106 aw s1.2 rfl rfl rfl rfl (Wt ?_))))
 cases H
 exact Ea rfl rfl rfl tv
theorem lO:aE Tryz.prog 15 Tryz.f15:=⟨Tryz.func15,rfl,by kernel_rfl⟩
theorem qA (a0:ab) {r:ab} (H:eY a0=some r):LJ.Spec Tryz.prog 6 [.d (.agg [slT ai a0.Decls,slT ae a0.Waits,slT ak a0.Funcs])] [] (.d (.agg [slT ai r.Decls,slT ae r.Waits,slT ak r.Funcs])) []:=by
 refine LJ.Spec.code Tryz.func6 rfl 113 rfl rfl [] rfl fun w0 F0 S0 B0=>?_
 unfold eY at H
 refine G (Ef 101 rfl (Wa 102 tk rfl rfl rfl (N (R 1 rfl (Wa 103 tk rfl rfl rfl (Ef 0 rfl (NS (G (R 1 rfl (NQ (Wb (WC.nilF 103 0 1022 44 3 rfl (Wl (ι:= {x:Nat×(Int×(List af)) //dh a0 x.1 x.2=some r}) (fun x=>[(1, .ptr 101 0),(2, .ptr 102 0),(3, .ptr 103 0),(4, .d (.int .i64 x.1.2.1))]) (fun x=>[(101, .box 26 [.d (slT ai a0.Decls), .d (slT ae a0.Waits), .d (slT ak a0.Funcs)]),(102, .box 26 [.d (.nils), .d (.nils), .d (.nils)]),(103, .box 26 [.own 1022, .d (.nils), .d (.nils)]),(1022, .row 44 3 (x.1.2.2.map ai))]) (fun x=>x.1.1) ⟨(fuel,(0,([]:List af))),H⟩ (Lm p4 p4) fun x=>?_)))))))))))))
 obtain ⟨⟨k3,s2⟩,H⟩:=x
 rcases k3 with _ | k3
 ·exact aO H
 rw [dh] at H
 refine Ws (G (R 6 rfl (Wx 2 5 true tk sg0 rfl rfl (fun _=>tv) (RS 1 rfl ⟨by first | exact id | exact fun h=>by rw [h];rfl | simp_all,tv⟩ (NQ (Wd rfl H (fun H=>?_) (fun H=>?_)))))))
 ·refine Wk (Qn (Ws (Wb ?_)))
  obtain ⟨g5_5_1,H⟩:=aq H
  obtain ⟨g5_8_1,H⟩:=aq H
  refine WC.heldF [(1, .ptr 101 0),(2, .ptr 102 0),(3, .ptr 103 0),(4, .d (.int .i64 s2.1))] [(101, .box 26 [.d (slT ai a0.Decls), .d (slT ae a0.Waits), .d (slT ak a0.Funcs)]),(102, .box 26 [.d (.nils), .d (.nils), .d (.nils)]),(103, .box 26 [.own 1022, .d (.nils), .d (.nils)]),(1022, .row 44 3 ((s2.2++([(a0.Decls.getD s2.1.toNat default)]:List af)).map ai))] (sT 0 (sT 2 (sT 3 (sT 4 (sT 5 (sT 6 (fk (sf 1 (sf 7 (sf 8 (sT 9 (sf 10 sd))))) (sf 7 (sf 1 (sf 8 (sT 9 (sf 10 sd)))))))))))) [101,102,103] [101,102] rfl (by kernel_rfl) rfl (by kernel_rfl) rfl rfl (fun _ h=>h) rfl rfl rfl (fun FK NK wK K=>?_) ?_
  ·refine Hr 6 tk rfl rfl rfl rfl ⟨⟨(av g5_5_1).1,(av g5_5_1).2,rfl⟩,tv⟩ (WH.fork ?_ ?_)
   ·refine WH.val tk rfl rfl rfl rfl rfl tv rfl rfl (He 128 tk ek rfl rfl rfl rfl tv rfl rfl (WH.freezeT 128 ai ([(a0.Decls.getD s2.1.toNat default)]:List af) rfl rfl rfl rfl (WH.appT ai s2.2 ([(a0.Decls.getD s2.1.toNat default)]:List af) tk ek rfl rfl (fun _=>rfl) (fun _=>rfl) rfl rfl rfl rfl rfl (bO g5_8_1) rfl rfl rfl rfl rfl rfl rfl ?_)))
    exact Hr 1 tk rfl rfl rfl rfl tv (He 0 tk ek rfl rfl rfl rfl tv rfl rfl (Hn rfl (Lw q4 p4)))
   ·refine He 128 tk ek rfl rfl rfl rfl tv rfl rfl (WH.freezeT 128 ai ([(a0.Decls.getD s2.1.toNat default)]:List af) rfl rfl rfl rfl (WH.val tk rfl rfl rfl rfl rfl tv rfl rfl (WH.appT ai s2.2 ([(a0.Decls.getD s2.1.toNat default)]:List af) tk ek rfl rfl (fun _=>rfl) (fun _=>rfl) rfl rfl rfl rfl rfl (bO g5_8_1) rfl rfl rfl rfl rfl rfl rfl ?_)))
    exact Hr 1 tk rfl rfl rfl rfl tv (He 0 tk ek rfl rfl rfl rfl tv rfl rfl (Hn rfl (Lw q4 p4)))
  ·refine Qb (Qn ?_)
   exact Wg (R 3 rfl (NQ (⟨⟨(k3,(IntKind.i64.wrap (s2.1+1),s2.2++([(a0.Decls.getD s2.1.toNat default)]:List af))),H⟩,Z,Lm p4 p4⟩)))
 refine WC.exit (Qx (Qx (Qh (Qn ?_))))
 refine Ws (G (R 1 rfl (NQ (Wb (WC.nilF 103 1 1043 45 1 rfl (Wl (ι:= {x:Nat×(Int×(List (List (List aa)))) //dg a0 s2 x.1 x.2=some r}) (fun x=>[(1, .ptr 101 0),(2, .ptr 102 0),(3, .ptr 103 0),(5, .d (.int .i64 x.1.2.1))]) (fun x=>[(101, .box 26 [.d (slT ai a0.Decls), .d (slT ae a0.Waits), .d (slT ak a0.Funcs)]),(102, .box 26 [.d (.nils), .d (.nils), .d (.nils)]),(103, .box 26 [.own 1022, .own 1043, .d (.nils)]),(1022, .row 44 3 (s2.2.map ai)),(1043, .row 45 1 (x.1.2.2.map ae))]) (fun x=>x.1.1) ⟨(fuel,(0,([]:List (List (List aa))))),H⟩ (Lm p4 p5) fun x=>?_))))))
 obtain ⟨⟨k7,s6⟩,H⟩:=x
 rcases k7 with _ | k7
 ·exact aO H
 rw [dg] at H
 refine Ws (G (R 6 rfl (Wx 2 5 true tk sg0 rfl rfl (fun _=>tv) (RS 1 rfl ⟨by first | exact id | exact fun h=>by rw [h];rfl | simp_all,tv⟩ (NQ (Wd rfl H (fun H=>?_) (fun H=>?_)))))))
 ·refine Wk (Qn (Ws (Wb ?_)))
  obtain ⟨g9_5_1,H⟩:=aq H
  obtain ⟨x9_7_1,hx9_7_1,H⟩:=ar H
  obtain ⟨g9_9_1,H⟩:=aq H
  refine WC.heldF [(1, .ptr 101 0),(2, .ptr 102 0),(3, .ptr 103 0),(5, .d (.int .i64 s6.1))] [(101, .box 26 [.d (slT ai a0.Decls), .d (slT ae a0.Waits), .d (slT ak a0.Funcs)]),(102, .box 26 [.d (.nils), .d (.nils), .d (.nils)]),(103, .box 26 [.own 1022, .own 1043, .d (.nils)]),(1022, .row 44 3 (s2.2.map ai)),(1043, .row 45 1 ((s6.2++([x9_7_1]:List (List (List aa)))).map ae))] (sT 0 (sT 2 (sT 3 (sT 4 (sT 5 (sT 6 (fk (sf 1 (sf 7 (sf 8 (sf 9 (sT 10 (sf 11 sd)))))) (sf 7 (fk (sf 1 (sf 8 (sf 9 (sT 10 (sf 11 sd))))) (sf 8 (sf 1 (sf 9 (sT 10 (sf 11 sd)))))))))))))) [101,102,103] [101,102] rfl (by kernel_rfl) rfl (by kernel_rfl) rfl rfl (fun _ h=>h) rfl rfl rfl (fun FK NK wK K=>?_) ?_
  ·refine Hr 6 tk rfl rfl rfl rfl ⟨⟨(av g9_5_1).1,(av g9_5_1).2,rfl⟩,tv⟩ (WH.fork ?_ ?_)
   ·refine WH.val tk rfl rfl rfl rfl rfl tv rfl rfl (WH.call [] rfl (lN _ hx9_7_1) lO rfl rfl tv rfl rfl rfl rfl rfl (He 150 tk ek rfl rfl rfl rfl tv rfl rfl (WH.freezeT 150 ae ([x9_7_1]:List (List (List aa))) rfl rfl rfl rfl (WH.appT ae s6.2 ([x9_7_1]:List (List (List aa))) tk ek rfl rfl (fun _=>rfl) (fun _=>rfl) rfl rfl rfl rfl rfl (bO g9_9_1) rfl rfl rfl rfl rfl rfl rfl ?_))))
    exact Hr 1 tk rfl rfl rfl rfl tv (He 0 tk ek rfl rfl rfl rfl tv rfl rfl (Hn rfl (Lw q4 p5)))
   ·refine WH.call [] rfl (lN _ hx9_7_1) lO rfl rfl tv rfl rfl rfl rfl rfl (WH.fork ?_ ?_)
    ·refine WH.val tk rfl rfl rfl rfl rfl tv rfl rfl (He 150 tk ek rfl rfl rfl rfl tv rfl rfl (WH.freezeT 150 ae ([x9_7_1]:List (List (List aa))) rfl rfl rfl rfl (WH.appT ae s6.2 ([x9_7_1]:List (List (List aa))) tk ek rfl rfl (fun _=>rfl) (fun _=>rfl) rfl rfl rfl rfl rfl (bO g9_9_1) rfl rfl rfl rfl rfl rfl rfl ?_)))
     exact Hr 1 tk rfl rfl rfl rfl tv (He 0 tk ek rfl rfl rfl rfl tv rfl rfl (Hn rfl (Lw q4 p5)))
    ·refine He 150 tk ek rfl rfl rfl rfl tv rfl rfl (WH.freezeT 150 ae ([x9_7_1]:List (List (List aa))) rfl rfl rfl rfl (WH.val tk rfl rfl rfl rfl rfl tv rfl rfl (WH.appT ae s6.2 ([x9_7_1]:List (List (List aa))) tk ek rfl rfl (fun _=>rfl) (fun _=>rfl) rfl rfl rfl rfl rfl (bO g9_9_1) rfl rfl rfl rfl rfl rfl rfl ?_)))
     exact Hr 1 tk rfl rfl rfl rfl tv (He 0 tk ek rfl rfl rfl rfl tv rfl rfl (Hn rfl (Lw q4 p5)))
  ·refine Qb (Qn ?_)
   exact Wg (R 3 rfl (NQ (⟨⟨(k7,(IntKind.i64.wrap (s6.1+1),s6.2++([x9_7_1]:List (List (List aa))))),H⟩,Z,Lm p4 p5⟩)))
 refine WC.exit (Qx (Qx (Qh (Qn ?_))))
 refine Ws (G (R 1 rfl (NQ (Wb (WC.nilF 103 2 1107 49 3 rfl (Wl (ι:= {x:Nat×(Int×(List al)) //ct a0 s2 s6 x.1 x.2=some r}) (fun x=>[(1, .ptr 101 0),(2, .ptr 102 0),(3, .ptr 103 0),(6, .d (.int .i64 x.1.2.1))]) (fun x=>[(101, .box 26 [.d (slT ai a0.Decls), .d (slT ae a0.Waits), .d (slT ak a0.Funcs)]),(102, .box 26 [.d (.nils), .d (.nils), .d (.nils)]),(103, .box 26 [.own 1022, .own 1043, .own 1107]),(1022, .row 44 3 (s2.2.map ai)),(1043, .row 45 1 (s6.2.map ae)),(1107, .row 49 3 (x.1.2.2.map ak))]) (fun x=>x.1.1) ⟨(fuel,(0,([]:List al))),H⟩ (Lm p4 p6) fun x=>?_))))))
 obtain ⟨⟨k11,s10⟩,H⟩:=x
 rcases k11 with _ | k11
 ·exact aO H
 rw [ct] at H
 refine Ws (G (R 6 rfl (Wx 2 5 true tk sg0 rfl rfl (fun _=>tv) (RS 1 rfl ⟨by first | exact id | exact fun h=>by rw [h];rfl | simp_all,tv⟩ (NQ (Wd rfl H (fun H=>?_) (fun H=>?_)))))))
 ·refine Wk (Qn ?_)
  obtain ⟨K13,hK13,H⟩:=du H
  refine WC.cut (fun E m=>∃ s14:List al,K13 s14=some r∧gu E m [(1, .ptr 101 0),(2, .ptr 102 0),(3, .ptr 103 0),(6, .d (.int .i64 s10.1))] [(101, .box 26 [.d (slT ai a0.Decls), .d (slT ae a0.Waits), .d (slT ak a0.Funcs)]),(102, .box 26 [.d (.nils), .d (.nils), .d (.nils)]),(103, .box 26 [.own 1022, .own 1043, .own 1107]),(1022, .row 44 3 (s2.2.map ai)),(1043, .row 45 1 (s6.2.map ae)),(1107, .row 49 3 (s14.map ak))]) ?_ ?_
  ·refine Wb (Ws (Hp (.one 0 true (.one 1 true (.one 2 true (.one 3 true (.one 4 true (.one 5 true (.one 6 true (.one 7 true (.one 8 true (.one 9 true (.one 10 true (.one 11 true (.one 12 true (.one 13 false (.one 14 false .done))))))))))))))) [101,102,103] [101,102,103] rfl (by kernel_rfl) rfl (by kernel_rfl) rfl rfl (fun _ h=>h) rfl rfl rfl (fun _ _ _ h=>h) fun FK NK wK K=>?_))
   obtain ⟨g15,H⟩:=aq H
   obtain ⟨g16,H⟩:=aq H
   refine Hr 13 tk rfl rfl rfl rfl ⟨⟨(av g15).1,(av g15).2,rfl⟩,⟨(av g16).1,(av g16).2,rfl⟩,tv⟩ (WH.alloc 107 tk rfl rfl rfl rfl rfl rfl (He 0 tk ek rfl rfl rfl rfl tv rfl rfl (WH.nil rfl (Qn (Ws (G (R 1 rfl (NQ (Wb (WC.nilF 107 2 1093 28 3 rfl (Wl (ι:= {x:Nat×(Int×(List ao)) //cO a0 s10 K13 x.1 x.2=some r}) (fun x=>[(1, .ptr 101 0),(2, .ptr 102 0),(3, .ptr 103 0),(6, .d (.int .i64 s10.1)),(7, .ptr 107 0),(8, .d (.int .i64 x.1.2.1))]) (fun x=>[(101, .box 26 [.d (slT ai a0.Decls), .d (slT ae a0.Waits), .d (slT ak a0.Funcs)]),(102, .box 26 [.d (.nils), .d (.nils), .d (.nils)]),(103, .box 26 [.own 1022, .own 1043, .own 1107]),(107, .box 49 [.d (.int .i64 ((a0.Funcs.getD s10.1.toNat default).Args)), .d (.int .i64 ((a0.Funcs.getD s10.1.toNat default).Locals)), .own 1093]),(1022, .row 44 3 (s2.2.map ai)),(1043, .row 45 1 (s6.2.map ae)),(1093, .row 28 3 (x.1.2.2.map ay)),(1107, .row 49 3 (s10.2.map ak))]) (fun x=>x.1.1) ⟨(fuel,(0,([]:List ao))),H⟩ (Lm p6 p8) fun x=>?_)))))))))))
   obtain ⟨⟨k19,s18⟩,H⟩:=x
   rcases k19 with _ | k19
   ·exact aO H
   rw [cO] at H
   refine Ws (G ?_)
   obtain ⟨g20,H⟩:=aq H
   refine RS 10 rfl ⟨⟨(av g20).1,(av g20).2,rfl⟩,tv⟩ (Wx 2 9 true tk sg0 rfl rfl (fun _=>tv) (RS 1 rfl ⟨by first | exact id | exact fun h=>by rw [h];rfl | simp_all,tv⟩ (NQ (Wd rfl H (fun H=>?_) (fun H=>?_)))))
   ·refine Wk (Qn (Ws (Wb ?_)))
    obtain ⟨g17_5_1,H⟩:=aq H
    obtain ⟨g17_9_1,H⟩:=aq H
    obtain ⟨g17_12_1,H⟩:=aq H
    refine WC.heldF [(1, .ptr 101 0),(2, .ptr 102 0),(3, .ptr 103 0),(6, .d (.int .i64 s10.1)),(7, .ptr 107 0),(8, .d (.int .i64 s18.1))] [(101, .box 26 [.d (slT ai a0.Decls), .d (slT ae a0.Waits), .d (slT ak a0.Funcs)]),(102, .box 26 [.d (.nils), .d (.nils), .d (.nils)]),(103, .box 26 [.own 1022, .own 1043, .own 1107]),(107, .box 49 [.d (.int .i64 ((a0.Funcs.getD s10.1.toNat default).Args)), .d (.int .i64 ((a0.Funcs.getD s10.1.toNat default).Locals)), .own 1093]),(1022, .row 44 3 (s2.2.map ai)),(1043, .row 45 1 (s6.2.map ae)),(1093, .row 28 3 ((s18.2++([(((a0.Funcs.getD s10.1.toNat default).Code).getD s18.1.toNat default)]:List ao)).map ay)),(1107, .row 49 3 (s10.2.map ak))] (sT 0 (sT 2 (sT 3 (sT 4 (sT 5 (sT 6 (sT 7 (sT 8 (sT 9 (sT 10 (fk (sf 1 (sf 11 (sf 12 (sT 13 (sf 14 sd))))) (sf 11 (sf 1 (sf 12 (sT 13 (sf 14 sd)))))))))))))))) [101,102,103,107] [101,102,103] rfl (by kernel_rfl) rfl (by kernel_rfl) rfl rfl (fun _ h=>h) rfl rfl rfl (fun FK NK wK K=>?_) ?_
    ·refine Hr 10 tk rfl rfl rfl rfl ⟨⟨(av g17_5_1).1,(av g17_5_1).2,rfl⟩,⟨(av g17_9_1).1,(av g17_9_1).2,rfl⟩,tv⟩ (WH.fork ?_ ?_)
     ·refine WH.val tk rfl rfl rfl rfl rfl tv rfl rfl (He 203 tk ek rfl rfl rfl rfl tv rfl rfl (WH.freezeT 203 ay ([(((a0.Funcs.getD s10.1.toNat default).Code).getD s18.1.toNat default)]:List ao) rfl rfl rfl rfl (WH.appT ay s18.2 ([(((a0.Funcs.getD s10.1.toNat default).Code).getD s18.1.toNat default)]:List ao) tk ek rfl rfl (fun _=>rfl) (fun _=>rfl) rfl rfl rfl rfl rfl (bO g17_12_1) rfl rfl rfl rfl rfl rfl rfl ?_)))
      exact Hr 1 tk rfl rfl rfl rfl tv (He 0 tk ek rfl rfl rfl rfl tv rfl rfl (Hn rfl (Lw q6 p8)))
     ·refine He 203 tk ek rfl rfl rfl rfl tv rfl rfl (WH.freezeT 203 ay ([(((a0.Funcs.getD s10.1.toNat default).Code).getD s18.1.toNat default)]:List ao) rfl rfl rfl rfl (WH.val tk rfl rfl rfl rfl rfl tv rfl rfl (WH.appT ay s18.2 ([(((a0.Funcs.getD s10.1.toNat default).Code).getD s18.1.toNat default)]:List ao) tk ek rfl rfl (fun _=>rfl) (fun _=>rfl) rfl rfl rfl rfl rfl (bO g17_12_1) rfl rfl rfl rfl rfl rfl rfl ?_)))
      exact Hr 1 tk rfl rfl rfl rfl tv (He 0 tk ek rfl rfl rfl rfl tv rfl rfl (Hn rfl (Lw q6 p8)))
    ·refine Qb (Qn ?_)
     exact Wg (R 3 rfl (NQ (⟨⟨(k19,(IntKind.i64.wrap (s18.1+1),s18.2++([(((a0.Funcs.getD s10.1.toNat default).Code).getD s18.1.toNat default)]:List ao))),H⟩,Z,Lm p6 p8⟩)))
   refine WC.exit (Qx (Qx (Qh (Qn ?_))))
   refine Wg (R 2 rfl (WL.freezeT 1093 ay s18.2 rfl rfl rfl rfl (R 1 rfl (Ef 209 rfl (WL.freezeT 209 ak ([(⟨(a0.Funcs.getD s10.1.toNat default).Args,(a0.Funcs.getD s10.1.toNat default).Locals,s18.2⟩:al)]:List al) rfl rfl rfl rfl ?_)))))
   obtain ⟨g22,H⟩:=aq H
   refine WL.appT ak s10.2 ([(⟨(a0.Funcs.getD s10.1.toNat default).Args,(a0.Funcs.getD s10.1.toNat default).Locals,s18.2⟩:al)]:List al) tk ek rfl rfl (fun _=>rfl) (fun _=>rfl) rfl rfl rfl rfl (bO g22) rfl rfl rfl rfl rfl ?_
   refine R 1 rfl (Ef 0 rfl (Wn (Qb (Qn ?_))))
   exact ⟨s10.2++([(⟨(a0.Funcs.getD s10.1.toNat default).Args,(a0.Funcs.getD s10.1.toNat default).Locals,s18.2⟩:al)]:List al),H,Lw q4 p6⟩
  ·rintro E m ⟨s14,H,hl⟩
   refine WC.lessW hl ?_
   replace H:=(hK13 _).symm.trans H
   try dsimp only at H
   exact Wg (R 3 rfl (NQ (⟨⟨(k11,(IntKind.i64.wrap (s10.1+1),s14)),H⟩,Z,Lm p4 p6⟩)))
 refine WC.exit (Qx (Qx (Qh (Qn ?_))))
 refine G (WL.freezeT 1022 ai s2.2 rfl rfl rfl rfl (WL.freezeT 1043 ae s6.2 rfl rfl rfl rfl (WL.freezeT 1107 ak s10.2 rfl rfl rfl rfl (R 1 rfl (Ef 0 rfl (NQ (Wt ?_)))))))
 cases H
 exact Ends.autoC tk rfl rfl rfl tv
theorem qB:aE Tryz.prog 6 Tryz.f6:=⟨Tryz.func6,rfl,by kernel_rfl⟩
theorem kc (a0:Int) {r:Bool} (H:fv a0=some r):LJ.Spec Tryz.prog 51 [.d (.int .i64 a0)] [] (.d (.bool r)) []:=by
 refine LJ.Spec.code Tryz.func51 rfl 9 rfl rfl [] rfl fun w0 F0 S0 B0=>?_
 unfold fv at H
 refine G (R 1 rfl (N (R 3 rfl (Wx 2 2 true tk sg0 rfl rfl (fun _=>tv) (RS 2 rfl ⟨by first | exact id | exact fun h=>by rw [h];rfl | simp_all,tv⟩ (NQ (Wt ?_)))))))
 cases H
 exact Ea rfl rfl rfl tv
theorem kd:aE Tryz.prog 51 Tryz.f51:=⟨Tryz.func51,rfl,by kernel_rfl⟩
theorem n9 (a0:Int) {r:List Int} (H:eZ a0=some r):LJ.Spec Tryz.prog 79 [.d (.int .u8 a0)] [] (.d (slT bN r)) []:=by
 refine LJ.Spec.code Tryz.func79 rfl 30 rfl rfl [] rfl fun w0 F0 S0 B0=>?_
 unfold eZ at H
 refine G (R 1 rfl (N (R 1 rfl (N (Ef 106 rfl (WL.freezeT 106 bN ([1,2]:List Int) rfl rfl rfl rfl (Ef 107 rfl (WL.freezeT 107 bN ([3]:List Int) rfl rfl rfl rfl (Ef 108 rfl (WL.freezeT 108 bN ([6]:List Int) rfl rfl rfl rfl (Ef 109 rfl ?_)))))))))))
 refine WL.freezeT 109 bN ([4]:List Int) rfl rfl rfl rfl (Ef 110 rfl (WL.freezeT 110 bN ([1]:List Int) rfl rfl rfl rfl (Ef 111 rfl (WL.freezeT 111 bN ([5]:List Int) rfl rfl rfl rfl (Ef 112 rfl (WL.freezeT 112 bN ([7]:List Int) rfl rfl rfl rfl (Ef 113 rfl (WL.freezeT 113 bN ([1,6]:List Int) rfl rfl rfl rfl ?_))))))))
 refine Ef 114 rfl (WL.freezeT 114 mN ([([1,2]:List Int),([3]:List Int),([6]:List Int),([4]:List Int),([1]:List Int),([5]:List Int),([7]:List Int),([1,6]:List Int)]:List (List Int)) rfl rfl rfl rfl (R 1 rfl (NS (G (R 1 rfl (NQ (Wb (Wl (ι:= {x:Nat×Int //bT a0 x.1 x.2=some r}) (fun x=>[(0, .d (.int .u8 a0)),(3, .d (.str (⟨#[117,115,112,99,109,98,118,113]⟩:ByteArray))),(4, .d (slT mN ([([1,2]:List Int),([3]:List Int),([6]:List Int),([4]:List Int),([1]:List Int),([5]:List Int),([7]:List Int),([1,6]:List Int)]:List (List Int)))),(5, .d (.int .i64 x.1.2))]) (fun x=>[]) (fun x=>x.1.1) ⟨(fuel,0),H⟩ (Lm p4 tv) fun x=>?_))))))))
 obtain ⟨⟨k2,s1⟩,H⟩:=x
 rcases k2 with _ | k2
 ·exact aO H
 rw [bT] at H
 refine Ws (G (R 4 rfl (NQ (Wd rfl H (fun H=>?_) (fun H=>?_)))))
 ·refine Wk (Qn (Ws (Wb (G ?_))))
  obtain ⟨g4,H⟩:=aq H
  refine RS 5 rfl ⟨(av g4),tv⟩ (NQ (Wd rfl H (fun H=>?_) (fun H=>?_)))
  ·refine G ?_
   obtain ⟨g6,H⟩:=aq H
   refine RS 5 rfl ⟨⟨(av g6).1,(av g6).2,rfl⟩,tv⟩ (NQ (Wt (QB.r (QT.r (QT.r (QB.r (QT.r ?_)))))))
   cases H
   exact Ea rfl rfl rfl tv
  refine Wk (Qb (Qn ?_))
  exact Wg (R 3 rfl (NQ (⟨⟨(k2,IntKind.i64.wrap (s1+1)),H⟩,Z,Lm p4 tv⟩)))
 refine WC.exit (Qx (Qx (Qh (Qn ?_))))
 refine G (R 1 rfl (NQ (WC.nilT 2 bN rfl (Wt ?_))))
 cases H
 exact Ea rfl rfl rfl tv
theorem oa:aE Tryz.prog 79 Tryz.f79:=⟨Tryz.func79,rfl,by kernel_rfl⟩
theorem pw (a0:List af) (a1:Int) (a2:Int) {r:Bool} (H:fw a0 a1 a2=some r):LJ.Spec Tryz.prog 64 [.d (slT ai a0), .d (.int .u8 a1), .d (.int .i64 a2)] [] (.d (.bool r)) []:=by
 refine LJ.Spec.code Tryz.func64 rfl 37 rfl rfl [] rfl fun w0 F0 S0 B0=>?_
 unfold fw at H
 refine G (R 1 rfl (N (R 1 rfl ?_)))
 obtain ⟨x1,hx1,H⟩:=ar H
 refine Cl [] (n9 _ hx1) oa rfl tv rfl (R 1 rfl (NS (G (R 1 rfl (NQ (Wb (Wl (ι:= {x:Nat×Int //cu a0 a2 x1 x.1 x.2=some r}) (fun x=>[(0, .d (slT ai a0)),(2, .d (.int .i64 a2)),(7, .d (slT bN x1)),(8, .d (.int .i64 x.1.2))]) (fun x=>[]) (fun x=>x.1.1) ⟨(fuel,0),H⟩ (Lm p4 tv) fun x=>?_)))))))
 obtain ⟨⟨k3,s2⟩,H⟩:=x
 rcases k3 with _ | k3
 ·exact aO H
 rw [cu] at H
 refine Ws (G (R 5 rfl (Wx 2 4 true tk sg0 rfl rfl (fun _=>tv) (RS 2 rfl ⟨by first | exact id | exact fun h=>by rw [h];rfl | simp_all,tv⟩ (Wx 4 8 true tk sg0 rfl rfl (fun _=>tv) (RS 1 rfl ⟨by first | exact id | exact fun h=>by rw [h];rfl | simp_all,tv⟩ (NQ (Wd rfl H (fun H=>?_) (fun H=>?_)))))))))
 ·refine Wk (Qn (Ws (Wb (Ws (Hp (.one 0 true (.one 1 true (.one 2 true (.one 3 true (.one 4 true (.one 5 true (.one 6 true (.one 7 true (.one 8 true (.one 9 true .done)))))))))) [] [] rfl (by kernel_rfl) rfl (by kernel_rfl) rfl rfl (fun _ h=>h) rfl rfl rfl (fun _ _ _ h=>h) fun FK NK wK K=>?_)))))
  obtain ⟨g5,H⟩:=aq H
  obtain ⟨g6,H⟩:=aq H
  refine Hr 10 tk rfl rfl rfl rfl ⟨⟨(av g5).1,(av g5).2,rfl⟩,⟨(av g6).1,(av g6).2,rfl⟩,tv⟩ (WH.nil rfl (Qn (Wd rfl H (fun H=>?_) (fun H=>?_))))
  ·refine G (R 1 rfl (NQ (Wt (QB.r (QT.r (QT.r (QB.r (QT.r ?_))))))))
   cases H
   exact Ea rfl rfl rfl tv
  refine Wk (Qb (Qn ?_))
  exact Wg (R 3 rfl (NQ (⟨⟨(k3,IntKind.i64.wrap (s2+1)),H⟩,Z,Lm p4 tv⟩)))
 refine WC.exit (Qx (Qx (Qh (Qn ?_))))
 refine G (R 1 rfl (NQ (Wt ?_)))
 cases H
 exact Ea rfl rfl rfl tv
theorem px:aE Tryz.prog 64 Tryz.f64:=⟨Tryz.func64,rfl,by kernel_rfl⟩
theorem qC (a0:List af) (a1:af) {r:Int} (H:gD a0 a1=some r):LJ.Spec Tryz.prog 35 [.d (slT ai a0), .d (.agg [.int .i64 a1.Kind, .int .i64 a1.A, .int .i64 a1.B])] [] (.d (.int .i64 r)) []:=by
 refine LJ.Spec.code Tryz.func35 rfl 100 rfl rfl [] rfl fun w0 F0 S0 B0=>?_
 unfold gD at H
 refine G (Ef 103 rfl (R 1 rfl (NS (G (R 4 rfl (Wx 3 3 false tk sg0 rfl rfl (fun _=>tv) (RS 1 rfl ⟨by first | exact id | exact fun h=>by rw [h];rfl | simp_all,tv⟩ (NQ (Wd rfl H (fun H=>?_) (fun H=>?_))))))))))
 ·refine G (R 1 rfl (NQ (Wt (QT.r ?_))))
  cases H
  exact Ea rfl rfl rfl tv
 refine Wk (Qn (Ws (G (R 4 rfl (Wx 4 3 true tk sg0 rfl rfl (fun _=>tv) (Wx 3 7 false tk sg0 rfl rfl (fun _=>tv) (Wx 2 3 true tk sg0 rfl rfl (fun hb=>⟨by first | exact id | exact ⟨hb,fun h=>by rw [hb,h];rfl⟩ | exact ⟨hb,id⟩ | exact fun h=>by rw [hb,h];rfl | exact fun h=>by rw [h];rfl | simp_all,tv⟩) (Wx 3 12 false tk sg0 rfl rfl (fun _=>tv) (Wx 2 3 true tk sg0 rfl rfl (fun hb=>⟨by first | exact id | exact ⟨hb,fun h=>by rw [hb,h];rfl⟩ | exact ⟨hb,id⟩ | exact fun h=>by rw [hb,h];rfl | exact fun h=>by rw [h];rfl | simp_all,tv⟩) (Wx 5 17 false tk sg0 rfl rfl (fun _=>tv) (Wx 1 3 true tk sg0 rfl rfl (fun hb=>⟨by first | exact id | exact ⟨hb,fun h=>by rw [hb,h];rfl⟩ | exact ⟨hb,id⟩ | exact fun h=>by rw [hb,h];rfl | exact fun h=>by rw [h];rfl | simp_all,tv⟩) (RS 1 rfl ⟨by first | exact id | exact fun h=>by rw [h];rfl | simp_all,tv⟩ ?_))))))))))))
 refine NQ (Wd rfl H (fun H=>?_) (fun H=>?_))
 ·refine G (R 1 rfl (NQ (Wt (QT.r ?_))))
  cases H
  exact Ea rfl rfl rfl tv
 refine Wk (Qn (Ws (G (R 4 rfl (Wx 4 3 true tk sg0 rfl rfl (fun _=>tv) (Wx 3 7 false tk sg0 rfl rfl (fun _=>tv) (Wx 1 3 true tk sg0 rfl rfl (fun hb=>⟨by first | exact id | exact ⟨hb,fun h=>by rw [hb,h];rfl⟩ | exact ⟨hb,id⟩ | exact fun h=>by rw [hb,h];rfl | exact fun h=>by rw [h];rfl | simp_all,tv⟩) (RS 1 rfl ⟨by first | exact id | exact fun h=>by rw [h];rfl | simp_all,tv⟩ (NQ (Wd rfl H (fun H=>?_) (fun H=>?_)))))))))))
 ·refine G (R 1 rfl (NQ (Wt (QT.r ?_))))
  cases H
  exact Ea rfl rfl rfl tv
 refine Wk (Qn (Ws (G (R 4 rfl ?_))))
 obtain ⟨x4,hx4,H⟩:=ar H
 refine Wx 5 3 true tk [PSig.at' kd ((iEq a1.Kind 7)=true) rfl (fun hb=>kc _ (of_t hx4 hb))] rfl rfl (fun hb=>⟨⟨hb,rfl⟩,tv⟩) ?_
 obtain ⟨x5,hx5,H⟩:=ar H
 refine Wx 5 8 false tk [PSig.at' px (((iEq a1.Kind 7)&& !(!x4))=true) rfl (fun hb=>pw _ _ _ (of_t hx5 hb))] rfl rfl (fun hb=>⟨⟨hb,rfl⟩,tv⟩) (Wx 1 3 true tk sg0 rfl rfl (fun hb=>⟨by first | exact id | exact ⟨hb,fun h=>by rw [hb,h];rfl⟩ | exact ⟨hb,id⟩ | exact fun h=>by rw [hb,h];rfl | exact fun h=>by rw [h];rfl | simp_all,tv⟩) (RS 1 rfl ⟨by first | exact id | exact fun h=>by rw [h];rfl | simp_all,tv⟩ (NQ (Wd rfl H (fun H=>?_) (fun H=>?_)))))
 ·refine G (R 1 rfl (NQ (Wt (QT.r ?_))))
  cases H
  exact Ea rfl rfl rfl tv
 refine Wk (Qn (Ws (G (R 4 rfl (Wx 3 3 true tk sg0 rfl rfl (fun _=>tv) (RS 2 rfl ⟨by first | exact id | exact fun h=>by rw [h];rfl | simp_all,tv⟩ (Wx 3 8 true tk sg0 rfl rfl (fun _=>tv) (RS 2 rfl ⟨by first | exact id | exact fun h=>by rw [h];rfl | simp_all,tv⟩ (Wx 4 13 false tk sg0 rfl rfl (fun _=>tv) (Wx 3 17 true tk sg0 rfl rfl (fun _=>tv) (Wx 2 13 false tk sg0 rfl rfl (fun hb=>⟨by first | exact id | exact ⟨hb,fun h=>by rw [hb,h];rfl⟩ | exact ⟨hb,id⟩ | exact fun h=>by rw [hb,h];rfl | exact fun h=>by rw [h];rfl | simp_all,tv⟩) (Wx 3 22 true tk sg0 rfl rfl (fun _=>tv) ?_))))))))))))
 refine Wx 2 13 false tk sg0 rfl rfl (fun hb=>⟨by first | exact id | exact ⟨hb,fun h=>by rw [hb,h];rfl⟩ | exact ⟨hb,id⟩ | exact fun h=>by rw [hb,h];rfl | exact fun h=>by rw [h];rfl | simp_all,tv⟩) (Wx 3 27 true tk sg0 rfl rfl (fun _=>tv) (Wx 1 13 false tk sg0 rfl rfl (fun hb=>⟨by first | exact id | exact ⟨hb,fun h=>by rw [hb,h];rfl⟩ | exact ⟨hb,id⟩ | exact fun h=>by rw [hb,h];rfl | exact fun h=>by rw [h];rfl | simp_all,tv⟩) (RS 1 rfl ⟨by first | exact id | exact fun h=>by rw [h];rfl | simp_all,tv⟩ (NQ (Wd rfl H (fun H=>?_) (fun H=>?_))))))
 ·refine G (R 1 rfl (NQ (Wt (QT.r ?_))))
  cases H
  exact Ea rfl rfl rfl tv
 refine Wk (Qn (G (R 1 rfl (NQ (Wt ?_)))))
 cases H
 exact Ea rfl rfl rfl tv
theorem qD:aE Tryz.prog 35 Tryz.f35:=⟨Tryz.func35,rfl,by kernel_rfl⟩
theorem ob (a0:List af) {r:Int×Int} (H:e7 a0=some r):LJ.Spec Tryz.prog 16 [.d (slT ai a0)] [] (.tup [.d (.int .i64 r.1), .d (.int .i64 r.2)]) []:=by
 refine LJ.Spec.code Tryz.func16 rfl 25 rfl rfl [] rfl fun w0 F0 S0 B0=>?_
 unfold e7 at H
 refine G (R 2 rfl (NS (G (R 3 rfl (NQ (Wd rfl H (fun H=>?_) (fun H=>?_)))))))
 ·refine G (R 2 rfl (NQ (Wt (QT.r ?_))))
  cases H
  exact Ea rfl rfl rfl tv
 refine Wk (Qn (Ws (G (R 1 rfl (NQ (Wb (Wl (ι:= {x:Nat×Int //cz a0 x.1 x.2=some r}) (fun x=>[(0, .d (slT ai a0)),(4, .d (.int .i64 x.1.2))]) (fun x=>[]) (fun x=>x.1.1) ⟨(fuel,0),H⟩ (Lm p2 tv) fun x=>?_)))))))
 obtain ⟨⟨k3,s2⟩,H⟩:=x
 rcases k3 with _ | k3
 ·exact aO H
 rw [cz] at H
 refine Ws (G (R 4 rfl (NQ (Wd rfl H (fun H=>?_) (fun H=>?_)))))
 ·refine Wk (Qn (Ws (Wb (G ?_))))
  obtain ⟨g5,H⟩:=aq H
  refine RS 5 rfl ⟨⟨(av g5).1,(av g5).2,rfl⟩,tv⟩ ?_
  obtain ⟨x6,hx6,H⟩:=ar H
  refine Cl [] (qC _ _ hx6) qD rfl tv rfl (R 1 rfl (N (R 2 rfl (NQ (Wd rfl H (fun H=>?_) (fun H=>?_))))))
  ·refine G (R 4 rfl (NQ (Wt (QB.r (QT.r (QT.r (QB.r (QT.r ?_))))))))
   cases H
   exact Ea rfl rfl rfl tv
  refine Wk (Qb (Qn ?_))
  exact Wg (R 3 rfl (NQ (⟨⟨(k3,IntKind.i64.wrap (s2+1)),H⟩,Z,Lm p2 tv⟩)))
 refine WC.exit (Qx (Qx (Qh (Qn ?_))))
 refine G (R 2 rfl (NQ (Wt ?_)))
 cases H
 exact Ea rfl rfl rfl tv
theorem oc:aE Tryz.prog 16 Tryz.f16:=⟨Tryz.func16,rfl,by kernel_rfl⟩
theorem qE (a0:List af) (a1:aa) {r:Int} (H:gG a0 a1=some r):LJ.Spec Tryz.prog 36 [.d (slT ai a0), .d (.agg [.int .i64 a1.Kind, .int .i64 a1.Obj, .int .i64 a1.N])] [] (.d (.int .i64 r)) []:=by
 refine LJ.Spec.code Tryz.func36 rfl 69 rfl rfl [] rfl fun w0 F0 S0 B0=>?_
 unfold gG at H
 refine G (Ef 103 rfl (R 1 rfl (NS (G (R 4 rfl (Wx 3 3 false tk sg0 rfl rfl (fun _=>tv) (RS 1 rfl ⟨by first | exact id | exact fun h=>by rw [h];rfl | simp_all,tv⟩ (NQ (Wd rfl H (fun H=>?_) (fun H=>?_))))))))))
 ·refine G (R 1 rfl (NQ (Wt (QT.r ?_))))
  cases H
  exact Ea rfl rfl rfl tv
 refine Wk (Qn (G (Ef 116 rfl (WL.freezeT 116 bN ([0,1,2,2,3,6]:List Int) rfl rfl rfl rfl (R 1 rfl (NS (Ws (Hp (.one 0 true (.one 1 true (.one 2 true (.one 3 true (.one 4 true (.one 5 true (.one 6 true (.one 7 true (.one 8 true (.one 9 true (.one 10 true (.one 11 true (.one 12 true (.one 13 true (.one 14 true (.one 15 true (.one 16 true (.one 17 true (.one 18 true (.one 19 true (.one 20 true (.one 21 true (.one 22 true (.one 23 true .done)))))))))))))))))))))))) [103] [103] rfl (by kernel_rfl) rfl (by kernel_rfl) rfl rfl (fun _ h=>h) rfl rfl rfl (fun _ _ _ h=>h) fun FK NK wK K=>(Hr 4 tk rfl rfl rfl rfl tv (WH.sect 5 3 false tk rfl rfl rfl rfl (fun _=>tv) (Hr 2 tk rfl rfl rfl rfl ⟨by first | exact id | exact fun h=>by rw [h];rfl | simp_all,tv⟩ ?_)))))))))))
 obtain ⟨g2,H⟩:=en H
 obtain ⟨g3,H⟩:=en H
 refine WH.sect 12 10 false tk rfl rfl rfl rfl (fun hb=>⟨⟨(av (g2 hb)).1,(av (g2 hb)).2,rfl⟩,⟨(av (g3 hb)).1,(av (g3 hb)).2,rfl⟩,tv⟩) (Hr 1 tk rfl rfl rfl rfl ⟨by first | exact id | exact fun h=>by rw [h];rfl | simp_all,tv⟩ (WH.nil rfl (Qn (Wd rfl H (fun H=>?_) (fun H=>?_)))))
 ·refine G (R 1 rfl (NQ (Wt (QT.r ?_))))
  cases H
  exact Ea rfl rfl rfl tv
 refine Wk (Qn (G (R 2 rfl (NS (G (R 3 rfl (NQ (Wd rfl H (fun H=>?_) (fun H=>?_)))))))))
 ·refine Hp (.one 0 true (.one 1 true (.one 2 true (.one 3 true (.one 4 true (.one 5 true (.one 6 true (.one 7 true .done)))))))) [103] [103] rfl (by kernel_rfl) rfl (by kernel_rfl) rfl rfl (fun _ h=>h) rfl rfl rfl (fun _ _ _ h=>h) fun FK NK wK K=>?_
  obtain ⟨g6,H⟩:=aq H
  refine Hr 8 tk rfl rfl rfl rfl ⟨⟨(av g6).1,(av g6).2,rfl⟩,tv⟩ (WH.nil rfl (Qn (Ws (G (R 3 rfl (NQ (Wd rfl H (fun H=>?_) (fun H=>?_))))))))
  ·refine Hp (.one 0 true (.one 1 true (.one 2 true (.one 3 true (.one 4 true (.one 5 true (.one 6 true (.one 7 true .done)))))))) [103] [103] rfl (by kernel_rfl) rfl (by kernel_rfl) rfl rfl (fun _ h=>h) rfl rfl rfl (fun _ _ _ h=>h) fun FK NK wK K=>?_
   obtain ⟨g8,H⟩:=aq H
   refine Hr 8 tk rfl rfl rfl rfl ⟨⟨(av g8).1,(av g8).2,rfl⟩,tv⟩ (WH.nil rfl (Qn (Ws (G (R 5 rfl (Wx 4 4 false tk sg0 rfl rfl (fun _=>tv) (RS 1 rfl ⟨by first | exact id | exact fun h=>by rw [h];rfl | simp_all,tv⟩ (NQ (Wd rfl H (fun H=>?_) (fun H=>?_))))))))))
   ·refine G (R 1 rfl (NQ (Wt (QT.r ?_))))
    cases H
    exact Ea rfl rfl rfl tv
   refine Wk (Qn (G (R 1 rfl (NQ (Wt ?_)))))
   cases H
   exact Ea rfl rfl rfl tv
  refine Wk (Qn (Ws (G (R 5 rfl (Wx 4 4 false tk sg0 rfl rfl (fun _=>tv) (RS 1 rfl ⟨by first | exact id | exact fun h=>by rw [h];rfl | simp_all,tv⟩ (NQ (Wd rfl H (fun H=>?_) (fun H=>?_)))))))))
  ·refine G (R 1 rfl (NQ (Wt (QT.r ?_))))
   cases H
   exact Ea rfl rfl rfl tv
  refine Wk (Qn (G (R 1 rfl (NQ (Wt ?_)))))
  cases H
  exact Ea rfl rfl rfl tv
 refine Wk (Qn (Ws (G (R 3 rfl (NQ (Wd rfl H (fun H=>?_) (fun H=>?_)))))))
 ·refine Hp (.one 0 true (.one 1 true (.one 2 true (.one 3 true (.one 4 true (.one 5 true (.one 6 true (.one 7 true .done)))))))) [103] [103] rfl (by kernel_rfl) rfl (by kernel_rfl) rfl rfl (fun _ h=>h) rfl rfl rfl (fun _ _ _ h=>h) fun FK NK wK K=>?_
  obtain ⟨g12,H⟩:=aq H
  refine Hr 8 tk rfl rfl rfl rfl ⟨⟨(av g12).1,(av g12).2,rfl⟩,tv⟩ (WH.nil rfl (Qn (Ws (G (R 5 rfl (Wx 4 4 false tk sg0 rfl rfl (fun _=>tv) (RS 1 rfl ⟨by first | exact id | exact fun h=>by rw [h];rfl | simp_all,tv⟩ (NQ (Wd rfl H (fun H=>?_) (fun H=>?_))))))))))
  ·refine G (R 1 rfl (NQ (Wt (QT.r ?_))))
   cases H
   exact Ea rfl rfl rfl tv
  refine Wk (Qn (G (R 1 rfl (NQ (Wt ?_)))))
  cases H
  exact Ea rfl rfl rfl tv
 refine Wk (Qn (Ws (G (R 5 rfl (Wx 4 4 false tk sg0 rfl rfl (fun _=>tv) (RS 1 rfl ⟨by first | exact id | exact fun h=>by rw [h];rfl | simp_all,tv⟩ (NQ (Wd rfl H (fun H=>?_) (fun H=>?_)))))))))
 ·refine G (R 1 rfl (NQ (Wt (QT.r ?_))))
  cases H
  exact Ea rfl rfl rfl tv
 refine Wk (Qn (G (R 1 rfl (NQ (Wt ?_)))))
 cases H
 exact Ea rfl rfl rfl tv
theorem qF:aE Tryz.prog 36 Tryz.f36:=⟨Tryz.func36,rfl,by kernel_rfl⟩
theorem od (a0:List af) (a1:List (List aa)) {r:Int} (H:e8 a0 a1=some r):LJ.Spec Tryz.prog 17 [.d (slT ai a0), .d (slT aw a1)] [] (.d (.int .i64 r)) []:=by
 refine LJ.Spec.code Tryz.func17 rfl 86 rfl rfl [] rfl fun w0 F0 S0 B0=>?_
 unfold e8 at H
 refine G (R 1 rfl (NS (G (R 3 rfl (NQ (Wd rfl H (fun H=>?_) (fun H=>?_)))))))
 ·refine G (R 1 rfl (NQ (Wt (QT.r ?_))))
  cases H
  exact Ea rfl rfl rfl tv
 refine Wk (Qn (Ws (G (R 3 rfl (NQ (Wd rfl H (fun H=>?_) (fun H=>?_)))))))
 ·refine G (R 1 rfl (NQ (Wt (QT.r ?_))))
  cases H
  exact Ea rfl rfl rfl tv
 refine Wk (Qn (Ws (G (R 1 rfl (NQ (Wb (Wl (ι:= {x:Nat×Int //bU a0 a1 x.1 x.2=some r}) (fun x=>[(0, .d (slT ai a0)),(1, .d (slT aw a1)),(5, .d (.int .i64 x.1.2))]) (fun x=>[]) (fun x=>x.1.1) ⟨(fuel,0),H⟩ (Lm p3 tv) fun x=>?_)))))))
 obtain ⟨⟨k4,s3⟩,H⟩:=x
 rcases k4 with _ | k4
 ·exact aO H
 rw [bU] at H
 refine Ws (G (R 4 rfl (NQ (Wd rfl H (fun H=>?_) (fun H=>?_)))))
 ·refine Wk (Qn ?_)
  obtain ⟨K6,hK6,H⟩:=du H
  refine WC.cut (fun E m=>∃ s7:Unit,K6 s7=some r∧gu E m [(0, .d (slT ai a0)),(1, .d (slT aw a1)),(5, .d (.int .i64 s3))] []) ?_ ?_
  ·refine Wb (G ?_)
   obtain ⟨g8,H⟩:=aq H
   refine RS 5 rfl ⟨⟨(av g8).1,(av g8).2,rfl⟩,tv⟩ (NS (G (R 3 rfl (NQ (Wd rfl H (fun H=>?_) (fun H=>?_))))))
   ·refine G (R 1 rfl (NQ (Wt (QT.r (QB.r (QT.r (QT.r (QB.r (QT.r ?_)))))))))
    cases H
    exact Ea rfl rfl rfl tv
   refine Wk (Qn (Ws (G (R 3 rfl (NQ (Wd rfl H (fun H=>?_) (fun H=>?_)))))))
   ·refine G (R 1 rfl (NQ (Wt (QT.r (QB.r (QT.r (QT.r (QB.r (QT.r ?_)))))))))
    cases H
    exact Ea rfl rfl rfl tv
   refine Wk (Qn (Ws (G (R 1 rfl (NQ (Wb (Wl (ι:= {x:Nat×Int //ca a0 a1 s3 K6 x.1 x.2=some r}) (fun x=>[(0, .d (slT ai a0)),(1, .d (slT aw a1)),(5, .d (.int .i64 s3)),(6, .d (slT aN (a1.getD s3.toNat default))),(7, .d (.int .i64 x.1.2))]) (fun x=>[]) (fun x=>x.1.1) ⟨(fuel,0),H⟩ (Lm p5 tv) fun x=>?_)))))))
   obtain ⟨⟨k12,s11⟩,H⟩:=x
   rcases k12 with _ | k12
   ·exact aO H
   rw [ca] at H
   refine Ws (G (R 4 rfl (NQ (Wd rfl H (fun H=>?_) (fun H=>?_)))))
   ·refine Wk (Qn (Ws (Wb (G ?_))))
    obtain ⟨g14,H⟩:=aq H
    refine RS 5 rfl ⟨⟨(av g14).1,(av g14).2,rfl⟩,tv⟩ ?_
    obtain ⟨x15,hx15,H⟩:=ar H
    refine Cl [] (qE _ _ hx15) qF rfl tv rfl (R 1 rfl (N (R 2 rfl (NQ (Wd rfl H (fun H=>?_) (fun H=>?_))))))
    ·refine G (R 2 rfl (NQ (Wt (QB.r (QT.r (QT.r (QB.r (QT.r (QB.r (QT.r (QT.r (QB.r (QT.r ?_)))))))))))))
     cases H
     exact Ea rfl rfl rfl tv
    refine Wk (Qb (Qn ?_))
    exact Wg (R 3 rfl (NQ (⟨⟨(k12,IntKind.i64.wrap (s11+1)),H⟩,Z,Lm p5 tv⟩)))
   refine WC.exit (Qx (Qx (Qh (Qn ?_))))
   refine G (R 1 rfl (NQ (Wb (Wl (ι:= {x:Nat×Int //bK a1 s3 K6 x.1 x.2=some r}) (fun x=>[(0, .d (slT ai a0)),(1, .d (slT aw a1)),(5, .d (.int .i64 s3)),(6, .d (slT aN (a1.getD s3.toNat default))),(9, .d (.int .i64 x.1.2))]) (fun x=>[]) (fun x=>x.1.1) ⟨(fuel,0),H⟩ (Lm p5 tv) fun x=>?_))))
   obtain ⟨⟨k18,s17⟩,H⟩:=x
   rcases k18 with _ | k18
   ·exact aO H
   rw [bK] at H
   refine Ws (G (R 4 rfl (NQ (Wd rfl H (fun H=>?_) (fun H=>?_)))))
   ·refine Wk (Qn ?_)
    obtain ⟨K20,hK20,H⟩:=du H
    refine WC.cut (fun E m=>∃ s21:Unit,K20 s21=some r∧gu E m [(0, .d (slT ai a0)),(1, .d (slT aw a1)),(5, .d (.int .i64 s3)),(6, .d (slT aN (a1.getD s3.toNat default))),(9, .d (.int .i64 s17))] []) ?_ ?_
    ·refine Wb (G (R 1 rfl (NQ (Wb (Wl (ι:= {x:Nat×Int //b9 a1 s3 s17 K20 x.1 x.2=some r}) (fun x=>[(0, .d (slT ai a0)),(1, .d (slT aw a1)),(5, .d (.int .i64 s3)),(6, .d (slT aN (a1.getD s3.toNat default))),(9, .d (.int .i64 s17)),(10, .d (.int .i64 x.1.2))]) (fun x=>[]) (fun x=>x.1.1) ⟨(fuel,0),H⟩ (Lm p6 tv) fun x=>?_)))))
     obtain ⟨⟨k23,s22⟩,H⟩:=x
     rcases k23 with _ | k23
     ·exact aO H
     rw [b9] at H
     refine Ws (G (R 3 rfl (NQ (Wd rfl H (fun H=>?_) (fun H=>?_)))))
     ·refine Wk (Qn (Ws (Wb (Ws (Hp (.one 0 true (.one 1 true (.one 2 true (.one 3 true (.one 4 true (.one 5 true (.one 6 true (.one 7 true (.one 8 true (.one 9 true (.one 10 true (.one 11 true (.one 12 true (.one 13 true (.one 14 true (.one 15 true (.one 16 true (.one 17 true (.one 18 true (.one 19 true (.one 20 true (.one 21 true (.one 22 true (.one 23 true (.one 24 true (.one 25 true (.one 26 true .done))))))))))))))))))))))))))) [] [] rfl (by kernel_rfl) rfl (by kernel_rfl) rfl rfl (fun _ h=>h) rfl rfl rfl (fun _ _ _ h=>h) fun FK NK wK K=>?_)))))
      obtain ⟨g25,H⟩:=aq H
      obtain ⟨g26,H⟩:=aq H
      refine Hr 12 tk rfl rfl rfl rfl ⟨⟨(av g25).1,(av g25).2,rfl⟩,⟨(av g26).1,(av g26).2,rfl⟩,tv⟩ ?_
      obtain ⟨g27,H⟩:=en H
      refine WH.sect 6 11 false tk rfl rfl rfl rfl (fun hb=>⟨⟨(av (g27 hb)).1,(av (g27 hb)).2,rfl⟩,tv⟩) (Hr 2 tk rfl rfl rfl rfl ⟨by first | exact id | exact fun h=>by rw [h];rfl | simp_all,tv⟩ ?_)
      obtain ⟨g28,H⟩:=en H
      refine WH.sect 6 19 false tk rfl rfl rfl rfl (fun hb=>⟨⟨(av (g28 hb)).1,(av (g28 hb)).2,rfl⟩,tv⟩) (Hr 1 tk rfl rfl rfl rfl ⟨by first | exact id | exact fun h=>by rw [h];rfl | simp_all,tv⟩ (WH.nil rfl (Qn (Wd rfl H (fun H=>?_) (fun H=>?_)))))
      ·refine G (R 1 rfl (NQ (Wt (QB.r (QT.r (QT.r (QB.r (QB.r (QT.r (QT.r (QB.r (QB.r (QT.r (QT.r (QB.r (QT.r ?_))))))))))))))))
       cases H
       exact Ea rfl rfl rfl tv
      refine Wk (Qb (Qn ?_))
      exact Wg (R 3 rfl (NQ (⟨⟨(k23,IntKind.i64.wrap (s22+1)),H⟩,Z,Lm p6 tv⟩)))
     refine WC.exit (Qx (Qx (Qh (Qb (Qn ?_)))))
     exact ⟨Unit.unit,H,Lw q5 tv⟩
    ·rintro E m ⟨s21,H,hl⟩
     refine WC.lessW hl ?_
     replace H:=(hK20 _).symm.trans H
     try dsimp only at H
     exact Wg (R 3 rfl (NQ (⟨⟨(k18,IntKind.i64.wrap (s17+1)),H⟩,Z,Lm p5 tv⟩)))
   refine WC.exit (Qx (Qx (Qh (Qb (Qn ?_)))))
   exact ⟨Unit.unit,H,Lw q3 tv⟩
  ·rintro E m ⟨s7,H,hl⟩
   refine WC.lessW hl ?_
   replace H:=(hK6 _).symm.trans H
   try dsimp only at H
   exact Wg (R 3 rfl (NQ (⟨⟨(k4,IntKind.i64.wrap (s3+1)),H⟩,Z,Lm p3 tv⟩)))
 refine WC.exit (Qx (Qx (Qh (Qn ?_))))
 refine G (R 1 rfl (NQ (Wt ?_)))
 cases H
 exact Ea rfl rfl rfl tv
theorem oe:aE Tryz.prog 17 Tryz.f17:=⟨Tryz.func17,rfl,by kernel_rfl⟩
theorem ju (a0:Int) {r:Bool} (H:dX a0=some r):LJ.Spec Tryz.prog 49 [.d (.int .i64 a0)] [] (.d (.bool r)) []:=by
 refine LJ.Spec.code Tryz.func49 rfl 9 rfl rfl [] rfl fun w0 F0 S0 B0=>?_
 unfold dX at H
 refine G (R 1 rfl (N (R 3 rfl (Wx 2 2 true tk sg0 rfl rfl (fun _=>tv) (RS 2 rfl ⟨by first | exact id | exact fun h=>by rw [h];rfl | simp_all,tv⟩ (NQ (Wt ?_)))))))
 cases H
 exact Ea rfl rfl rfl tv
theorem jv:aE Tryz.prog 49 Tryz.f49:=⟨Tryz.func49,rfl,by kernel_rfl⟩
theorem og {r:List ByteArray} (H:fT=some r):LJ.Spec Tryz.prog 72 [] [] (.d (slT bJ r)) []:=by
 refine LJ.Spec.code Tryz.func72 rfl 2 rfl rfl [] rfl fun w0 F0 S0 B0=>?_
 unfold fT at H
 refine G (R 1 rfl (N (Ef 101 rfl (WL.freezeT 101 bJ ([(⟨#[110]⟩:ByteArray),(⟨#[107]⟩:ByteArray),(⟨#[107]⟩:ByteArray),ByteArray.empty,ByteArray.empty,ByteArray.empty,ByteArray.empty,ByteArray.empty,ByteArray.empty,ByteArray.empty,ByteArray.empty,ByteArray.empty,ByteArray.empty,ByteArray.empty,ByteArray.empty,ByteArray.empty,ByteArray.empty,ByteArray.empty,(⟨#[116]⟩:ByteArray),(⟨#[116]⟩:ByteArray),(⟨#[102]⟩:ByteArray),ByteArray.empty,ByteArray.empty,ByteArray.empty,ByteArray.empty,ByteArray.empty,(⟨#[119]⟩:ByteArray),(⟨#[119]⟩:ByteArray),ByteArray.empty,(⟨#[117]⟩:ByteArray),(⟨#[115]⟩:ByteArray),(⟨#[112]⟩:ByteArray),(⟨#[99,109]⟩:ByteArray),(⟨#[99,109]⟩:ByteArray),(⟨#[99]⟩:ByteArray),(⟨#[99]⟩:ByteArray),(⟨#[98]⟩:ByteArray),(⟨#[98]⟩:ByteArray),(⟨#[98]⟩:ByteArray),(⟨#[98]⟩:ByteArray),(⟨#[102]⟩:ByteArray),(⟨#[106,106]⟩:ByteArray),(⟨#[106,106]⟩:ByteArray),ByteArray.empty,ByteArray.empty,(⟨#[118]⟩:ByteArray),(⟨#[118]⟩:ByteArray),ByteArray.empty,ByteArray.empty,(⟨#[113]⟩:ByteArray),(⟨#[109]⟩:ByteArray),(⟨#[109]⟩:ByteArray)]:List ByteArray) rfl rfl rfl rfl (R 1 rfl (NQ (Wt ?_)))))))
 cases H
 exact Ea rfl rfl rfl tv
theorem oh:aE Tryz.prog 72 Tryz.f72:=⟨Tryz.func72,rfl,by kernel_rfl⟩
theorem ke (a0:Int) {r:ByteArray} (H:eW a0=some r):LJ.Spec Tryz.prog 50 [.d (.int .i64 a0)] [] (.d (.str r)) []:=by
 refine LJ.Spec.code Tryz.func50 rfl 10 rfl rfl [] rfl fun w0 F0 S0 B0=>?_
 unfold eW at H
 refine G (R 1 rfl (NS (G (R 1 rfl ?_))))
 obtain ⟨x1,hx1,H⟩:=ar H
 refine Cl [] (ju _ hx1) jv rfl tv rfl (R 1 rfl (NQ (Wd rfl H (fun H=>?_) (fun H=>?_))))
 ·refine G (R 1 rfl (NQ (Wt (QT.r ?_))))
  cases H
  exact Ea rfl rfl rfl tv
 refine Wk (Qn (G ?_))
 obtain ⟨x3,hx3,H⟩:=ar H
 refine Cl [] (og hx3) oh rfl tv rfl ?_
 obtain ⟨g4,H⟩:=aq H
 refine RS 4 rfl ⟨⟨(av g4).1,(av g4).2,rfl⟩,tv⟩ (NQ (Wt ?_))
 cases H
 exact Ea rfl rfl rfl tv
theorem kf:aE Tryz.prog 50 Tryz.f50:=⟨Tryz.func50,rfl,by kernel_rfl⟩
theorem jw (a0:Int) {r:Int} (H:dY a0=some r):LJ.Spec Tryz.prog 52 [.d (.int .u8 a0)] [] (.d (.int .i64 r)) []:=by
 refine LJ.Spec.code Tryz.func52 rfl 5 rfl rfl [] rfl fun w0 F0 S0 B0=>?_
 unfold dY at H
 refine G (R 1 rfl (NS (G (R 2 rfl (NQ (Wd rfl H (fun H=>?_) (fun H=>?_)))))))
 ·refine G (R 1 rfl (NQ (Wt (QT.r ?_))))
  cases H
  exact Ea rfl rfl rfl tv
 refine Wk (Qn (G (R 1 rfl (NQ (Wt ?_)))))
 cases H
 exact Ea rfl rfl rfl tv
theorem jx:aE Tryz.prog 52 Tryz.f52:=⟨Tryz.func52,rfl,by kernel_rfl⟩
theorem kg (a0:Int) {r:Int} (H:eX a0=some r):LJ.Spec Tryz.prog 53 [.d (.int .u8 a0)] [] (.d (.int .i64 r)) []:=by
 refine LJ.Spec.code Tryz.func53 rfl 12 rfl rfl [] rfl fun w0 F0 S0 B0=>?_
 unfold eX at H
 refine G (R 1 rfl (NS (G (R 1 rfl (NQ (Wb (G (R 2 rfl (NQ (Wd rfl H (fun H=>?_) (fun H=>?_)))))))))))
 ·refine G (R 1 rfl (NQ (Wt (QB.r (QT.r ?_)))))
  cases H
  exact Ea rfl rfl rfl tv
 refine G (R 2 rfl (NQ (Wd rfl H (fun H=>?_) (fun H=>?_))))
 ·refine G (R 1 rfl (NQ (Wt (QB.r (QT.r ?_)))))
  cases H
  exact Ea rfl rfl rfl tv
 refine G (R 2 rfl (NQ (Wd rfl H (fun H=>?_) (fun H=>?_))))
 ·refine G (R 1 rfl (NQ (Wt (QB.r (QT.r ?_)))))
  cases H
  exact Ea rfl rfl rfl tv
 refine G (R 2 rfl (NQ (Wd rfl H (fun H=>?_) (fun H=>?_))))
 ·refine G (R 1 rfl (NQ (Wt (QB.r (QT.r ?_)))))
  cases H
  exact Ea rfl rfl rfl tv
 refine Wk (Qb (Qn ?_))
 refine G (R 1 rfl (NQ (Wt ?_)))
 cases H
 exact Ea rfl rfl rfl tv
theorem kh:aE Tryz.prog 53 Tryz.f53:=⟨Tryz.func53,rfl,by kernel_rfl⟩
theorem oi (a0:ao) {r:Int} (H:dZ a0=some r):LJ.Spec Tryz.prog 27 [.d (.agg [.int .i64 a0.Op, .int .i64 a0.A, .int .i64 a0.B])] [] (.d (.int .i64 r)) []:=by
 refine LJ.Spec.code Tryz.func27 rfl 85 rfl rfl [] rfl fun w0 F0 S0 B0=>?_
 unfold dZ at H
 refine G (Ef 101 rfl (R 1 rfl (NS (G (R 2 rfl ?_)))))
 obtain ⟨x1,hx1,H⟩:=ar H
 refine Cl [] (ju _ hx1) jv rfl tv rfl (R 1 rfl (NQ (Wd rfl H (fun H=>?_) (fun H=>?_))))
 ·refine G (R 1 rfl (NQ (Wt (QT.r ?_))))
  cases H
  exact Ea rfl rfl rfl tv
 refine Wk (Qn (Ws ?_))
 obtain ⟨x3_2_1,hx3_2_1,H⟩:=ar H
 refine WC.heldF [(1, .ptr 101 0),(3, .d (.str x3_2_1)),(4, .d (slT bN ([a0.A,a0.B]:List Int)))] [(101, .box 28 [.d (.int .i64 a0.Op), .d (.int .i64 a0.A), .d (.int .i64 a0.B)])] (sT 0 (sT 1 (sT 3 (sT 4 (sT 5 (sT 6 (fk (sf 2 (sT 8 (sf 7 (sT 9 sd)))) (sf 7 (sf 2 (sT 8 (sT 9 sd))))))))))) [101] [101] rfl (by kernel_rfl) rfl (by kernel_rfl) rfl rfl (fun _ h=>h) rfl rfl rfl (fun FK NK wK K=>?_) ?_
 ·refine Hr 6 tk rfl rfl rfl rfl tv (WH.fork ?_ ?_)
  ·exact WH.call [] rfl (ke _ hx3_2_1) kf rfl rfl tv rfl rfl rfl rfl rfl (Hr 1 tk rfl rfl rfl rfl tv (He 118 tk ek rfl rfl rfl rfl tv rfl rfl (WH.freezeT 118 bN ([a0.A,a0.B]:List Int) rfl rfl rfl rfl (WH.mv rfl rfl rfl rfl rfl rfl rfl rfl rfl (Hn rfl (Lw q3 p1))))))
  ·exact He 118 tk ek rfl rfl rfl rfl tv rfl rfl (WH.freezeT 118 bN ([a0.A,a0.B]:List Int) rfl rfl rfl rfl (WH.call [] rfl (ke _ hx3_2_1) kf rfl rfl tv rfl rfl rfl rfl rfl (Hr 1 tk rfl rfl rfl rfl tv (WH.mv rfl rfl rfl rfl rfl rfl rfl rfl rfl (Hn rfl (Lw q3 p1))))))
 ·refine Qn (Ws (G (R 1 rfl (NQ (Wb (Wl (ι:= {x:Nat×Int //ba a0 x3_2_1 x.1 x.2=some r}) (fun x=>[(1, .ptr 101 0),(3, .d (.str x3_2_1)),(4, .d (slT bN ([a0.A,a0.B]:List Int))),(5, .d (.int .i64 x.1.2))]) (fun x=>[(101, .box 28 [.d (.int .i64 a0.Op), .d (.int .i64 a0.A), .d (.int .i64 a0.B)])]) (fun x=>x.1.1) ⟨(fuel,0),H⟩ (Lm p4 p1) fun x=>?_))))))
  obtain ⟨⟨k4,s3⟩,H⟩:=x
  rcases k4 with _ | k4
  ·exact aO H
  rw [ba] at H
  refine Ws (G (R 4 rfl (NQ (Wd rfl H (fun H=>?_) (fun H=>?_)))))
  ·refine Wk (Qn (Ws (Wb (Ws (Hp (.one 0 true (.one 1 true (.one 2 true (.one 3 true (.one 4 true (.one 5 true (.one 6 true (.one 7 true (.one 8 true (.one 9 false (.one 10 true (.one 11 true (.one 12 true (.one 13 true (.one 14 true (.one 15 true (.one 16 true (.one 17 true (.one 18 true (.one 19 true (.one 20 true (.one 21 true (.one 22 true (.one 23 true (.one 24 true (.one 25 false (.one 26 true (.one 27 true (.one 28 true (.one 29 true (.one 30 true (.one 31 true (.one 32 true (.one 33 true (.one 34 true (.one 35 false (.one 36 true (.one 37 true (.one 38 true (.one 39 true .done)))))))))))))))))))))))))))))))))))))))) [101] [101] rfl (by kernel_rfl) rfl (by kernel_rfl) rfl rfl (fun _ h=>h) rfl rfl rfl (fun _ _ _ h=>h) fun FK NK wK K=>?_)))))
   obtain ⟨g6,H⟩:=aq H
   refine Hr 5 tk rfl rfl rfl rfl ⟨(av g6),tv⟩ (WH.split (g:=29) rfl (fun h7=>?_) (fun h7=>?_))
   ·replace H:=of_t H h7
    obtain ⟨g8,H⟩:=aq H
    refine WH.grun 4 4 true 29 tk rfl rfl rfl rfl rfl rfl ⟨⟨(av g8).1,(av g8).2,rfl⟩,tv⟩ ?_
    obtain ⟨x9,hx9,H⟩:=ar H
    refine WH.gcall [] rfl (kc _ hx9) kd rfl rfl tv rfl rfl rfl rfl rfl rfl rfl rfl (WH.grun 1 4 true 29 tk rfl rfl rfl rfl rfl rfl tv (WH.pick1 rfl rfl rfl rfl rfl rfl rfl (Hr 1 tk rfl rfl rfl rfl tv (WH.split (g:=37) rfl (fun h10=>?_) (fun h10=>?_)))))
    ·replace H:=of_t H h10
     refine Hg rfl rfl rfl rfl rfl rfl rfl (Hg rfl rfl rfl rfl rfl rfl rfl (Hg rfl rfl rfl rfl rfl rfl rfl (Hg rfl rfl rfl rfl rfl rfl rfl (Hg rfl rfl rfl rfl rfl rfl rfl (Hg rfl rfl rfl rfl rfl rfl rfl (Hg rfl rfl rfl rfl rfl rfl rfl (Hg rfl rfl rfl rfl rfl rfl rfl (Hg rfl rfl rfl rfl rfl rfl rfl (Hg rfl rfl rfl rfl rfl rfl rfl (Hg rfl rfl rfl rfl rfl rfl rfl (Hg rfl rfl rfl rfl rfl rfl rfl (Hg rfl rfl rfl rfl rfl rfl rfl (Hg rfl rfl rfl rfl rfl rfl rfl (Hg rfl rfl rfl rfl rfl rfl rfl (Hg rfl rfl rfl rfl rfl rfl rfl (Hg rfl rfl rfl rfl rfl rfl rfl (Hg rfl rfl rfl rfl rfl rfl rfl (Hg rfl rfl rfl rfl rfl rfl rfl (Hg rfl rfl rfl rfl rfl rfl rfl (Hg rfl rfl rfl rfl rfl rfl rfl (Hg rfl rfl rfl rfl rfl rfl rfl (Hg rfl rfl rfl rfl rfl rfl rfl (Hg rfl rfl rfl rfl rfl rfl rfl (Hg rfl rfl rfl rfl rfl rfl rfl (Hg rfl rfl rfl rfl rfl rfl rfl (WH.pick1 rfl rfl rfl rfl rfl rfl rfl (WH.nil rfl (Qn (Wc rfl (fun h=>?_) (fun h=>absurd h (by decide)))))))))))))))))))))))))))))))
     refine G (R 1 rfl (NQ (Wt (QB.r (QT.r (QT.r (QB.r (QT.r ?_))))))))
     cases H
     exact Ea rfl rfl rfl tv
    ·replace H:=of_f H h10
     obtain ⟨g11,H⟩:=aq H
     refine WH.grun 5 12 false 37 tk rfl rfl rfl rfl rfl rfl ⟨(av g11),tv⟩ (WH.split (g:=42) rfl (fun h12=>?_) (fun h12=>?_))
     ·replace H:=of_t H h12
      obtain ⟨g13,H⟩:=aq H
      obtain ⟨g14,H⟩:=aq H
      refine WH.grun 7 17 true 42 tk rfl rfl rfl rfl rfl rfl ⟨⟨(av g13).1,(av g13).2,rfl⟩,(av g14),tv⟩ ?_
      obtain ⟨x15,hx15,H⟩:=ar H
      refine WH.gcall [] rfl (jw _ hx15) jx rfl rfl tv rfl rfl rfl rfl rfl rfl rfl rfl (WH.grun 2 17 true 42 tk rfl rfl rfl rfl rfl rfl tv (WH.split (g:=52) rfl (fun h16=>?_) (fun h16=>?_)))
      ·replace H:=of_t H h16
       refine Hg rfl rfl rfl rfl rfl rfl rfl (Hg rfl rfl rfl rfl rfl rfl rfl (Hg rfl rfl rfl rfl rfl rfl rfl (Hg rfl rfl rfl rfl rfl rfl rfl (Hg rfl rfl rfl rfl rfl rfl rfl (Hg rfl rfl rfl rfl rfl rfl rfl (Hg rfl rfl rfl rfl rfl rfl rfl (Hg rfl rfl rfl rfl rfl rfl rfl (Hg rfl rfl rfl rfl rfl rfl rfl (WH.gpick1 rfl rfl rfl rfl rfl rfl rfl rfl rfl rfl (WH.gpick1 rfl rfl rfl rfl rfl rfl rfl rfl rfl rfl (WH.pick1 rfl rfl rfl rfl rfl rfl rfl (WH.nil rfl (Qn (Wc rfl (fun h=>?_) (fun h=>absurd h (by decide))))))))))))))))
       refine G (R 1 rfl (NQ (Wt (QB.r (QT.r (QT.r (QB.r (QT.r ?_))))))))
       cases H
       exact Ea rfl rfl rfl tv
      ·replace H:=of_f H h16
       obtain ⟨g17,H⟩:=aq H
       obtain ⟨g18,H⟩:=aq H
       refine WH.grun 7 27 false 52 tk rfl rfl rfl rfl rfl rfl ⟨⟨(av g17).1,(av g17).2,rfl⟩,(av g18),tv⟩ ?_
       obtain ⟨x19,hx19,H⟩:=ar H
       refine WH.gcall [] rfl (kg _ hx19) kh rfl rfl tv rfl rfl rfl rfl rfl rfl rfl rfl (WH.grun 1 27 false 52 tk rfl rfl rfl rfl rfl rfl tv (WH.gpick1 rfl rfl rfl rfl rfl rfl rfl rfl rfl rfl (WH.gpick1 rfl rfl rfl rfl rfl rfl rfl rfl rfl rfl (WH.pick1 rfl rfl rfl rfl rfl rfl rfl (WH.nil rfl (Qn (Wd rfl H (fun H=>?_) (fun H=>?_))))))))
       ·refine G (R 1 rfl (NQ (Wt (QB.r (QT.r (QT.r (QB.r (QT.r ?_))))))))
        cases H
        exact Ea rfl rfl rfl tv
       refine Wk (Qb (Qn ?_))
       exact Wg (R 3 rfl (NQ (⟨⟨(k4,IntKind.i64.wrap (s3+1)),H⟩,Z,Lm p4 p1⟩)))
     ·replace H:=of_f H h12
      refine Hg rfl rfl rfl rfl rfl rfl rfl (Hg rfl rfl rfl rfl rfl rfl rfl (Hg rfl rfl rfl rfl rfl rfl rfl (Hg rfl rfl rfl rfl rfl rfl rfl (Hg rfl rfl rfl rfl rfl rfl rfl (Hg rfl rfl rfl rfl rfl rfl rfl (Hg rfl rfl rfl rfl rfl rfl rfl (Hg rfl rfl rfl rfl rfl rfl rfl (Hg rfl rfl rfl rfl rfl rfl rfl (Hg rfl rfl rfl rfl rfl rfl rfl (Hg rfl rfl rfl rfl rfl rfl rfl (Hg rfl rfl rfl rfl rfl rfl rfl (Hg rfl rfl rfl rfl rfl rfl rfl (Hg rfl rfl rfl rfl rfl rfl rfl (Hg rfl rfl rfl rfl rfl rfl rfl (Hg rfl rfl rfl rfl rfl rfl rfl (Hg rfl rfl rfl rfl rfl rfl rfl (Hg rfl rfl rfl rfl rfl rfl rfl (Hg rfl rfl rfl rfl rfl rfl rfl (Hg rfl rfl rfl rfl rfl rfl rfl (WH.gpick1 rfl rfl rfl rfl rfl rfl rfl rfl rfl rfl (WH.pick1 rfl rfl rfl rfl rfl rfl rfl (WH.nil rfl (Qn (Wc rfl (fun h=>absurd h (by decide)) (fun h=>?_)))))))))))))))))))))))))
      refine Wk (Qb (Qn ?_))
      exact Wg (R 3 rfl (NQ (⟨⟨(k4,IntKind.i64.wrap (s3+1)),H⟩,Z,Lm p4 p1⟩)))
   ·replace H:=of_f H h7
    refine Hg rfl rfl rfl rfl rfl rfl rfl (Hg rfl rfl rfl rfl rfl rfl rfl (Hg rfl rfl rfl rfl rfl rfl rfl (Hg rfl rfl rfl rfl rfl rfl rfl (Hg rfl rfl rfl rfl rfl rfl rfl (Hg rfl rfl rfl rfl rfl rfl rfl (WH.pick1 rfl rfl rfl rfl rfl rfl rfl (Hr 1 tk rfl rfl rfl rfl tv ?_)))))))
    obtain ⟨g21,H⟩:=aq H
    refine WH.grun 5 12 false 37 tk rfl rfl rfl rfl rfl rfl ⟨(av g21),tv⟩ (WH.split (g:=42) rfl (fun h22=>?_) (fun h22=>?_))
    ·replace H:=of_t H h22
     obtain ⟨g23,H⟩:=aq H
     obtain ⟨g24,H⟩:=aq H
     refine WH.grun 7 17 true 42 tk rfl rfl rfl rfl rfl rfl ⟨⟨(av g23).1,(av g23).2,rfl⟩,(av g24),tv⟩ ?_
     obtain ⟨x25,hx25,H⟩:=ar H
     refine WH.gcall [] rfl (jw _ hx25) jx rfl rfl tv rfl rfl rfl rfl rfl rfl rfl rfl (WH.grun 2 17 true 42 tk rfl rfl rfl rfl rfl rfl tv (WH.split (g:=52) rfl (fun h26=>?_) (fun h26=>?_)))
     ·replace H:=of_t H h26
      refine Hg rfl rfl rfl rfl rfl rfl rfl (Hg rfl rfl rfl rfl rfl rfl rfl (Hg rfl rfl rfl rfl rfl rfl rfl (Hg rfl rfl rfl rfl rfl rfl rfl (Hg rfl rfl rfl rfl rfl rfl rfl (Hg rfl rfl rfl rfl rfl rfl rfl (Hg rfl rfl rfl rfl rfl rfl rfl (Hg rfl rfl rfl rfl rfl rfl rfl (Hg rfl rfl rfl rfl rfl rfl rfl (WH.gpick1 rfl rfl rfl rfl rfl rfl rfl rfl rfl rfl (WH.gpick1 rfl rfl rfl rfl rfl rfl rfl rfl rfl rfl (WH.pick1 rfl rfl rfl rfl rfl rfl rfl (WH.nil rfl (Qn (Wc rfl (fun h=>?_) (fun h=>absurd h (by decide))))))))))))))))
      refine G (R 1 rfl (NQ (Wt (QB.r (QT.r (QT.r (QB.r (QT.r ?_))))))))
      cases H
      exact Ea rfl rfl rfl tv
     ·replace H:=of_f H h26
      obtain ⟨g27,H⟩:=aq H
      obtain ⟨g28,H⟩:=aq H
      refine WH.grun 7 27 false 52 tk rfl rfl rfl rfl rfl rfl ⟨⟨(av g27).1,(av g27).2,rfl⟩,(av g28),tv⟩ ?_
      obtain ⟨x29,hx29,H⟩:=ar H
      refine WH.gcall [] rfl (kg _ hx29) kh rfl rfl tv rfl rfl rfl rfl rfl rfl rfl rfl (WH.grun 1 27 false 52 tk rfl rfl rfl rfl rfl rfl tv (WH.gpick1 rfl rfl rfl rfl rfl rfl rfl rfl rfl rfl (WH.gpick1 rfl rfl rfl rfl rfl rfl rfl rfl rfl rfl (WH.pick1 rfl rfl rfl rfl rfl rfl rfl (WH.nil rfl (Qn (Wd rfl H (fun H=>?_) (fun H=>?_))))))))
      ·refine G (R 1 rfl (NQ (Wt (QB.r (QT.r (QT.r (QB.r (QT.r ?_))))))))
       cases H
       exact Ea rfl rfl rfl tv
      refine Wk (Qb (Qn ?_))
      exact Wg (R 3 rfl (NQ (⟨⟨(k4,IntKind.i64.wrap (s3+1)),H⟩,Z,Lm p4 p1⟩)))
    ·replace H:=of_f H h22
     refine Hg rfl rfl rfl rfl rfl rfl rfl (Hg rfl rfl rfl rfl rfl rfl rfl (Hg rfl rfl rfl rfl rfl rfl rfl (Hg rfl rfl rfl rfl rfl rfl rfl (Hg rfl rfl rfl rfl rfl rfl rfl (Hg rfl rfl rfl rfl rfl rfl rfl (Hg rfl rfl rfl rfl rfl rfl rfl (Hg rfl rfl rfl rfl rfl rfl rfl (Hg rfl rfl rfl rfl rfl rfl rfl (Hg rfl rfl rfl rfl rfl rfl rfl (Hg rfl rfl rfl rfl rfl rfl rfl (Hg rfl rfl rfl rfl rfl rfl rfl (Hg rfl rfl rfl rfl rfl rfl rfl (Hg rfl rfl rfl rfl rfl rfl rfl (Hg rfl rfl rfl rfl rfl rfl rfl (Hg rfl rfl rfl rfl rfl rfl rfl (Hg rfl rfl rfl rfl rfl rfl rfl (Hg rfl rfl rfl rfl rfl rfl rfl (Hg rfl rfl rfl rfl rfl rfl rfl (Hg rfl rfl rfl rfl rfl rfl rfl (WH.gpick1 rfl rfl rfl rfl rfl rfl rfl rfl rfl rfl (WH.pick1 rfl rfl rfl rfl rfl rfl rfl (WH.nil rfl (Qn (Wc rfl (fun h=>absurd h (by decide)) (fun h=>?_)))))))))))))))))))))))))
     refine Wk (Qb (Qn ?_))
     exact Wg (R 3 rfl (NQ (⟨⟨(k4,IntKind.i64.wrap (s3+1)),H⟩,Z,Lm p4 p1⟩)))
  refine WC.exit (Qx (Qx (Qh (Qn ?_))))
  refine Ws (G (R 3 rfl (Wx 5 2 true tk sg0 rfl rfl (fun _=>tv) (RS 1 rfl ⟨by first | exact id | exact fun h=>by rw [h];rfl | simp_all,tv⟩ (NQ (Wd rfl H (fun H=>?_) (fun H=>?_)))))))
  ·refine G (R 1 rfl (NQ (Wt (QT.r ?_))))
   cases H
   exact Ea rfl rfl rfl tv
  refine Wk (Qn (Ws (G (R 3 rfl (NQ (Wb (Wl (ι:= {x:Nat×Int //bn a0 x.1 x.2=some r}) (fun x=>[(4, .d (slT bN ([a0.A,a0.B]:List Int))),(6, .d (.int .i64 x.1.2))]) (fun x=>[]) (fun x=>x.1.1) ⟨(fuel,(x3_2_1.size:Int)),H⟩ (Lm p2 tv) fun x=>?_)))))))
  obtain ⟨⟨k33,s32⟩,H⟩:=x
  rcases k33 with _ | k33
  ·exact aO H
  rw [bn] at H
  refine Ws (G (R 2 rfl (NQ (Wd rfl H (fun H=>?_) (fun H=>?_)))))
  ·refine Wk (Qn (Ws (Wb (G ?_))))
   obtain ⟨g35,H⟩:=aq H
   refine RS 5 rfl ⟨⟨(av g35).1,(av g35).2,rfl⟩,tv⟩ (NQ (Wd rfl H (fun H=>?_) (fun H=>?_)))
   ·refine G (R 1 rfl (NQ (Wt (QB.r (QT.r (QT.r (QB.r (QT.r ?_))))))))
    cases H
    exact Ea rfl rfl rfl tv
   refine Wk (Qb (Qn ?_))
   exact Wg (R 3 rfl (NQ (⟨⟨(k33,IntKind.i64.wrap (s32+1)),H⟩,Z,Lm p2 tv⟩)))
  refine WC.exit (Qx (Qx (Qh (Qn ?_))))
  refine G (R 1 rfl (NQ (Wt ?_)))
  cases H
  exact Ea rfl rfl rfl tv
theorem oj:aE Tryz.prog 27 Tryz.f27:=⟨Tryz.func27,rfl,by kernel_rfl⟩
theorem kA (a0:al) {r:Int} (H:dr a0=some r):LJ.Spec Tryz.prog 18 [.d (.agg [.int .i64 a0.Args, .int .i64 a0.Locals,slT ay a0.Code])] [] (.d (.int .i64 r)) []:=by
 refine LJ.Spec.code Tryz.func18 rfl 44 rfl rfl [] rfl fun w0 F0 S0 B0=>?_
 unfold dr at H
 refine G (Ef 101 rfl (R 1 rfl (NS (G (R 4 rfl (Wx 5 3 false tk sg0 rfl rfl (fun _=>tv) (RS 2 rfl ⟨by first | exact id | exact fun h=>by rw [h];rfl | simp_all,tv⟩ (Wx 3 10 false tk sg0 rfl rfl (fun _=>tv) (RS 1 rfl ⟨by first | exact id | exact fun h=>by rw [h];rfl | simp_all,tv⟩ (NQ (Wd rfl H (fun H=>?_) (fun H=>?_))))))))))))
 ·refine G (R 1 rfl (NQ (Wt (QT.r ?_))))
  cases H
  exact Ea rfl rfl rfl tv
 refine Wk (Qn (Ws (G (R 4 rfl (NQ (Wd rfl H (fun H=>?_) (fun H=>?_)))))))
 ·refine G (R 1 rfl (NQ (Wt (QT.r ?_))))
  cases H
  exact Ea rfl rfl rfl tv
 refine Wk (Qn (Ws (G (R 4 rfl (NQ (Wd rfl H (fun H=>?_) (fun H=>?_)))))))
 ·refine G (R 1 rfl (NQ (Wt (QT.r ?_))))
  cases H
  exact Ea rfl rfl rfl tv
 refine Wk (Qn (Ws (G (R 1 rfl (NQ (Wb (Wl (ι:= {x:Nat×Int //bp a0 x.1 x.2=some r}) (fun x=>[(1, .ptr 101 0),(3, .d (.int .i64 x.1.2))]) (fun x=>[(101, .box 49 [.d (.int .i64 a0.Args), .d (.int .i64 a0.Locals), .d (slT ay a0.Code)])]) (fun x=>x.1.1) ⟨(fuel,0),H⟩ (Lm p2 p1) fun x=>?_)))))))
 obtain ⟨⟨k5,s4⟩,H⟩:=x
 rcases k5 with _ | k5
 ·exact aO H
 rw [bp] at H
 refine Ws (G (R 5 rfl (NQ (Wd rfl H (fun H=>?_) (fun H=>?_)))))
 ·refine Wk (Qn (Ws (Wb (G ?_))))
  obtain ⟨g7,H⟩:=aq H
  refine RS 5 rfl ⟨⟨(av g7).1,(av g7).2,rfl⟩,tv⟩ ?_
  obtain ⟨x8,hx8,H⟩:=ar H
  refine Cl [] (oi _ hx8) oj rfl tv rfl (R 1 rfl (N (R 2 rfl (NQ (Wd rfl H (fun H=>?_) (fun H=>?_))))))
  ·refine G (R 2 rfl (NQ (Wt (QB.r (QT.r (QT.r (QB.r (QT.r ?_))))))))
   cases H
   exact Ea rfl rfl rfl tv
  refine Wk (Qb (Qn ?_))
  exact Wg (R 3 rfl (NQ (⟨⟨(k5,IntKind.i64.wrap (s4+1)),H⟩,Z,Lm p2 p1⟩)))
 refine WC.exit (Qx (Qx (Qh (Qn ?_))))
 refine G (R 1 rfl (NQ (Wt ?_)))
 cases H
 exact Ea rfl rfl rfl tv
theorem kB:aE Tryz.prog 18 Tryz.f18:=⟨Tryz.func18,rfl,by kernel_rfl⟩
theorem om (a0:ab) {r:Int} (H:ea a0=some r):LJ.Spec Tryz.prog 7 [.d (.agg [slT ai a0.Decls,slT ae a0.Waits,slT ak a0.Funcs])] [] (.d (.int .i64 r)) []:=by
 refine LJ.Spec.code Tryz.func7 rfl 64 rfl rfl [] rfl fun w0 F0 S0 B0=>?_
 unfold ea at H
 refine G (Ef 101 rfl (R 1 rfl (NS (G (R 2 rfl ?_)))))
 obtain ⟨x1,hx1,H⟩:=ar H
 refine Cl [] (ob _ hx1) oc rfl tv rfl (R 5 rfl (N (R 2 rfl (NQ (Wd rfl H (fun H=>?_) (fun H=>?_))))))
 ·refine G (R 2 rfl (NQ (Wt (QT.r ?_))))
  cases H
  exact Ea rfl rfl rfl tv
 refine Wk (Qn (Ws (G (R 4 rfl (NQ (Wd rfl H (fun H=>?_) (fun H=>?_)))))))
 ·refine G (R 1 rfl (NQ (Wt (QT.r ?_))))
  cases H
  exact Ea rfl rfl rfl tv
 refine Wk (Qn (Ws (G (R 1 rfl (NQ (Wb (Wl (ι:= {x:Nat×Int //cA a0 x.1 x.2=some r}) (fun x=>[(1, .ptr 101 0),(5, .d (.int .i64 x.1.2))]) (fun x=>[(101, .box 26 [.d (slT ai a0.Decls), .d (slT ae a0.Waits), .d (slT ak a0.Funcs)])]) (fun x=>x.1.1) ⟨(fuel,0),H⟩ (Lm p2 p1) fun x=>?_)))))))
 obtain ⟨⟨k5,s4⟩,H⟩:=x
 rcases k5 with _ | k5
 ·exact aO H
 rw [cA] at H
 refine Ws (G (R 5 rfl (NQ (Wd rfl H (fun H=>?_) (fun H=>?_)))))
 ·refine Wk (Qn (Ws (Wb (Ws (Hp (.one 0 true (.one 1 true (.one 2 true (.one 3 true (.one 4 true (.one 5 true (.one 6 true (.one 7 false (.one 8 true .done))))))))) [101] [101] rfl (by kernel_rfl) rfl (by kernel_rfl) rfl rfl (fun _ h=>h) rfl rfl rfl (fun _ _ _ h=>h) fun FK NK wK K=>?_)))))
  obtain ⟨g7,H⟩:=aq H
  refine Hr 7 tk rfl rfl rfl rfl ⟨⟨(av g7).1,(av g7).2,rfl⟩,tv⟩ ?_
  obtain ⟨x8,hx8,H⟩:=ar H
  refine WH.call [] rfl (od _ _ hx8) oe rfl rfl tv rfl rfl rfl rfl rfl (Hr 1 tk rfl rfl rfl rfl tv (WH.nil rfl (Qn (G (R 2 rfl (NQ (Wd rfl H (fun H=>?_) (fun H=>?_))))))))
  ·refine G (R 2 rfl (NQ (Wt (QB.r (QT.r (QT.r (QB.r (QT.r ?_))))))))
   cases H
   exact Ea rfl rfl rfl tv
  refine Wk (Qb (Qn ?_))
  exact Wg (R 3 rfl (NQ (⟨⟨(k5,IntKind.i64.wrap (s4+1)),H⟩,Z,Lm p2 p1⟩)))
 refine WC.exit (Qx (Qx (Qh (Qn ?_))))
 refine Ws (G (R 4 rfl (NQ (Wd rfl H (fun H=>?_) (fun H=>?_)))))
 ·refine G (R 1 rfl (NQ (Wt (QT.r ?_))))
  cases H
  exact Ea rfl rfl rfl tv
 refine Wk (Qn (Ws (G (R 4 rfl (NQ (Wd rfl H (fun H=>?_) (fun H=>?_)))))))
 ·refine G (R 1 rfl (NQ (Wt (QT.r ?_))))
  cases H
  exact Ea rfl rfl rfl tv
 refine Wk (Qn (Ws (G (R 1 rfl (NQ (Wb (Wl (ι:= {x:Nat×Int //cb a0 x.1 x.2=some r}) (fun x=>[(1, .ptr 101 0),(7, .d (.int .i64 x.1.2))]) (fun x=>[(101, .box 26 [.d (slT ai a0.Decls), .d (slT ae a0.Waits), .d (slT ak a0.Funcs)])]) (fun x=>x.1.1) ⟨(fuel,0),H⟩ (Lm p2 p1) fun x=>?_)))))))
 obtain ⟨⟨k13,s12⟩,H⟩:=x
 rcases k13 with _ | k13
 ·exact aO H
 rw [cb] at H
 refine Ws (G (R 5 rfl (NQ (Wd rfl H (fun H=>?_) (fun H=>?_)))))
 ·refine Wk (Qn (Ws (Wb (G ?_))))
  obtain ⟨g15,H⟩:=aq H
  refine RS 5 rfl ⟨⟨(av g15).1,(av g15).2,rfl⟩,tv⟩ ?_
  obtain ⟨x16,hx16,H⟩:=ar H
  refine Cl [] (kA _ hx16) kB rfl tv rfl (R 1 rfl (N (R 2 rfl (NQ (Wd rfl H (fun H=>?_) (fun H=>?_))))))
  ·refine G (R 2 rfl (NQ (Wt (QB.r (QT.r (QT.r (QB.r (QT.r ?_))))))))
   cases H
   exact Ea rfl rfl rfl tv
  refine Wk (Qb (Qn ?_))
  exact Wg (R 3 rfl (NQ (⟨⟨(k13,IntKind.i64.wrap (s12+1)),H⟩,Z,Lm p2 p1⟩)))
 refine WC.exit (Qx (Qx (Qh (Qn ?_))))
 refine G (R 1 rfl (NQ (Wt ?_)))
 cases H
 exact Ea rfl rfl rfl tv
theorem oo:aE Tryz.prog 7 Tryz.f7:=⟨Tryz.func7,rfl,by kernel_rfl⟩
theorem ki (a0:Int) (a1:Int) {r:Bool} (H:fx a0 a1=some r):LJ.Spec Tryz.prog 80 [.d (.int .i64 a0), .d (.int .i64 a1)] [] (.d (.bool r)) []:=by
 refine LJ.Spec.code Tryz.func80 rfl 12 rfl rfl [] rfl fun w0 F0 S0 B0=>?_
 unfold fx at H
 refine G (R 1 rfl (N (R 4 rfl (Wx 2 3 true tk sg0 rfl rfl (fun _=>tv) (RS 2 rfl ⟨by first | exact id | exact fun h=>by rw [h];rfl | simp_all,tv⟩ (NQ (Wt ?_)))))))
 cases H
 exact Ea rfl rfl rfl tv
theorem kj:aE Tryz.prog 80 Tryz.f80:=⟨Tryz.func80,rfl,by kernel_rfl⟩
theorem lP (a0:Int) {r:Bool} (H:fy a0=some r):LJ.Spec Tryz.prog 71 [.d (.int .i64 a0)] [] (.d (.bool r)) []:=by
 refine LJ.Spec.code Tryz.func71 rfl 8 rfl rfl [] rfl fun w0 F0 S0 B0=>?_
 unfold fy at H
 refine G (R 1 rfl (N (R 6 rfl (NQ (Wt ?_)))))
 cases H
 exact Ea rfl rfl rfl tv
theorem lQ:aE Tryz.prog 71 Tryz.f71:=⟨Tryz.func71,rfl,by kernel_rfl⟩
theorem ee (a0:List af) (a1:Int) (a2:Int) {r:Bool} (H:dt a0 a1 a2=some r):LJ.Spec Tryz.prog 81 [.d (slT ai a0), .d (.int .u8 a1), .d (.int .i64 a2)] [] (.d (.bool r)) []:=by
 refine LJ.Spec.code Tryz.func81 rfl 62 rfl rfl [] rfl fun w0 F0 S0 B0=>?_
 unfold dt at H
 refine G (R 1 rfl (NS (G (R 3 rfl (Wx 4 2 false tk sg0 rfl rfl (fun _=>tv) (RS 1 rfl ⟨by first | exact id | exact fun h=>by rw [h];rfl | simp_all,tv⟩ (NQ (Wd rfl H (fun H=>?_) (fun H=>?_)))))))))
 ·refine G (R 1 rfl (NQ (Wt (QT.r ?_))))
  cases H
  exact Ea rfl rfl rfl tv
 refine Wk (Qn (G ?_))
 obtain ⟨g2,H⟩:=aq H
 refine RS 6 rfl ⟨⟨(av g2).1,(av g2).2,rfl⟩,tv⟩ (NS (G (R 1 rfl (NQ (Wb (G (R 2 rfl (NQ (Wd rfl H (fun H=>?_) (fun H=>?_))))))))))
 ·refine G (R 3 rfl (Wx 2 2 false tk sg0 rfl rfl (fun _=>tv) (RS 2 rfl ⟨by first | exact id | exact fun h=>by rw [h];rfl | simp_all,tv⟩ (NQ (Wt (QB.r (QT.r ?_)))))))
  cases H
  exact Ea rfl rfl rfl tv
 refine G (R 2 rfl (NQ (Wd rfl H (fun H=>?_) (fun H=>?_))))
 ·refine G (R 3 rfl (NQ (Wt (QB.r (QT.r ?_)))))
  cases H
  exact Ea rfl rfl rfl tv
 refine G (R 2 rfl (NQ (Wd rfl H (fun H=>?_) (fun H=>?_))))
 ·refine G (R 3 rfl (NQ (Wt (QB.r (QT.r ?_)))))
  cases H
  exact Ea rfl rfl rfl tv
 refine G (R 2 rfl (NQ (Wd rfl H (fun H=>?_) (fun H=>?_))))
 ·refine G (R 3 rfl (NQ (Wt (QB.r (QT.r ?_)))))
  cases H
  exact Ea rfl rfl rfl tv
 refine G (R 2 rfl (NQ (Wd rfl H (fun H=>?_) (fun H=>?_))))
 ·refine G (R 3 rfl (NQ (Wt (QB.r (QT.r ?_)))))
  cases H
  exact Ea rfl rfl rfl tv
 refine G (R 2 rfl (NQ (Wd rfl H (fun H=>?_) (fun H=>?_))))
 ·refine G (R 3 rfl (NQ (Wt (QB.r (QT.r ?_)))))
  cases H
  exact Ea rfl rfl rfl tv
 refine G (R 2 rfl (NQ (Wd rfl H (fun H=>?_) (fun H=>?_))))
 ·refine G (R 3 rfl (NQ (Wt (QB.r (QT.r ?_)))))
  cases H
  exact Ea rfl rfl rfl tv
 refine G (R 2 rfl (NQ (Wd rfl H (fun H=>?_) (fun H=>?_))))
 ·refine G (R 3 rfl (Wx 2 2 false tk sg0 rfl rfl (fun _=>tv) (RS 2 rfl ⟨by first | exact id | exact fun h=>by rw [h];rfl | simp_all,tv⟩ (NQ (Wt (QB.r (QT.r ?_)))))))
  cases H
  exact Ea rfl rfl rfl tv
 refine Wk (Qb (Qn ?_))
 refine G (R 1 rfl (NQ (Wt ?_)))
 cases H
 exact Ea rfl rfl rfl tv
theorem ef:aE Tryz.prog 81 Tryz.f81:=⟨Tryz.func81,rfl,by kernel_rfl⟩
theorem rV (a0:List af) (a1:af) {r:Int} (H:i9 a0 a1=some r):LJ.Spec Tryz.prog 65 [.d (slT ai a0), .d (.agg [.int .i64 a1.Kind, .int .i64 a1.A, .int .i64 a1.B])] [] (.d (.int .i64 r)) []:=by
 refine LJ.Spec.code Tryz.func65 rfl 62 rfl rfl [] rfl fun w0 F0 S0 B0=>?_
 unfold i9 at H
 refine G (Ef 103 rfl (R 1 rfl (NS (Hp (.one 0 true (.one 1 true (.one 2 true (.one 3 true (.one 4 true (.one 5 true (.one 6 true (.one 7 true (.one 8 true (.one 9 true .done)))))))))) [103] [103] rfl (by kernel_rfl) rfl (by kernel_rfl) rfl rfl (fun _ h=>h) rfl rfl rfl (fun _ _ _ h=>h) fun FK NK wK K=>(Hr 4 tk rfl rfl rfl rfl tv (WH.sect 3 3 true tk rfl rfl rfl rfl (fun _=>tv) (Hr 3 tk rfl rfl rfl rfl ⟨by first | exact id | exact fun h=>by rw [h];rfl | simp_all,tv⟩ (WH.nil rfl (Qn (Ws (G (R 2 rfl (NQ (Wb (G (R 2 rfl (NQ (Wd rfl H (fun H=>?_) (fun H=>?_)))))))))))))))))))
 ·refine Wg (R 2 rfl ?_)
  obtain ⟨x2,hx2,H⟩:=ar H
  refine Cl [] (ki _ _ hx2) kj rfl tv rfl (R 1 rfl (Wx 3 3 true tk sg0 rfl rfl (fun _=>tv) (RS 2 rfl ⟨by first | exact id | exact fun h=>by rw [h];rfl | simp_all,tv⟩ (Wx 5 8 true tk sg0 rfl rfl (fun _=>tv) (RS 3 rfl ⟨by first | exact id | exact fun h=>by rw [h];rfl | simp_all,tv⟩ (Wn (Qb (Qn ?_))))))))
  refine Ws (G (R 2 rfl (NQ (Wd rfl H (fun H=>?_) (fun H=>?_)))))
  ·refine G (R 1 rfl (NQ (Wt (QT.r ?_))))
   cases H
   exact Ea rfl rfl rfl tv
  refine Wk (Qn (Ws (G (R 2 rfl (NQ (Wc rfl (fun h=>absurd h (by decide)) (fun h=>?_)))))))
  refine Wk (Qn (G (R 1 rfl (NQ (Wt ?_)))))
  cases H
  exact Ea rfl rfl rfl tv
 refine G (R 2 rfl (NQ (Wd rfl H (fun H=>?_) (fun H=>?_))))
 ·refine Hp (.one 0 true (.one 1 true (.one 3 true (.one 4 true (.one 5 true (.one 2 false (.one 6 true (.one 7 true .done)))))))) [103] [103] rfl (by kernel_rfl) rfl (by kernel_rfl) rfl rfl (fun _ h=>h) rfl rfl rfl (fun _ _ _ h=>h) fun FK NK wK K=>(Hr 5 tk rfl rfl rfl rfl tv ?_)
  obtain ⟨x5,hx5,H⟩:=ar H
  refine WH.call [] rfl (ki _ _ hx5) kj rfl rfl tv rfl rfl rfl rfl rfl (Hr 2 tk rfl rfl rfl rfl tv (WH.nil rfl (Qb (Qn ?_))))
  refine Ws (G (R 2 rfl (NQ (Wd rfl H (fun H=>?_) (fun H=>?_)))))
  ·refine G (R 1 rfl (NQ (Wt (QT.r ?_))))
   cases H
   exact Ea rfl rfl rfl tv
  refine Wk (Qn (Ws (G (R 2 rfl (NQ (Wd rfl H (fun H=>?_) (fun H=>?_)))))))
  ·refine G (R 1 rfl (NQ (Wt (QT.r ?_))))
   cases H
   exact Ea rfl rfl rfl tv
  refine Wk (Qn (G (R 1 rfl (NQ (Wt ?_)))))
  cases H
  exact Ea rfl rfl rfl tv
 refine G (R 2 rfl (NQ (Wd rfl H (fun H=>?_) (fun H=>?_))))
 ·refine Wg (R 2 rfl ?_)
  obtain ⟨x9,hx9,H⟩:=ar H
  refine Cl [] (lP _ hx9) lQ rfl tv rfl (R 1 rfl ?_)
  obtain ⟨x10,hx10,H⟩:=ar H
  refine Wx 4 3 true tk [PSig.at' ef (x9=true) rfl (fun hb=>ee _ _ _ (of_t hx10 hb))] rfl rfl (fun hb=>⟨⟨hb,rfl⟩,tv⟩) (RS 3 rfl ⟨by first | exact id | exact fun h=>by rw [h];rfl | simp_all,tv⟩ (Wn (Qb (Qn ?_))))
  refine Ws (G (R 2 rfl (NQ (Wd rfl H (fun H=>?_) (fun H=>?_)))))
  ·refine G (R 1 rfl (NQ (Wt (QT.r ?_))))
   cases H
   exact Ea rfl rfl rfl tv
  refine Wk (Qn (Ws (G (R 2 rfl (NQ (Wc rfl (fun h=>absurd h (by decide)) (fun h=>?_)))))))
  refine Wk (Qn (G (R 1 rfl (NQ (Wt ?_)))))
  cases H
  exact Ea rfl rfl rfl tv
 refine Ws (G (R 2 rfl (NQ (Wc rfl (fun h12=>?_) (fun h12=>?_)))))
 ·replace H:=of_t H h12
  refine WC.known (g:=53) true rfl h12 (Wk (Qn (Wc rfl (fun h=>?_) (fun h=>absurd h (by decide)))))
  refine Wk (Qb (Qn ?_))
  refine Ws (G (R 2 rfl (NQ (Wc rfl (fun h=>absurd h (by decide)) (fun h=>?_)))))
  refine Wk (Qn (Ws (G (R 2 rfl (NQ (Wd rfl H (fun H=>?_) (fun H=>?_)))))))
  ·refine G (R 1 rfl (NQ (Wt (QT.r ?_))))
   cases H
   exact Ea rfl rfl rfl tv
  refine Wk (Qn (G (R 1 rfl (NQ (Wt ?_)))))
  cases H
  exact Ea rfl rfl rfl tv
 replace H:=of_f H h12
 refine G (R 2 rfl (NQ (Wc rfl (fun h14=>?_) (fun h14=>?_))))
 ·replace H:=of_t H h14
  refine WC.known (g:=53) true rfl h14 (Wk (Qn (Wc rfl (fun h=>?_) (fun h=>absurd h (by decide)))))
  refine Wk (Qb (Qn ?_))
  refine Ws (G (R 2 rfl (NQ (Wc rfl (fun h=>absurd h (by decide)) (fun h=>?_)))))
  refine Wk (Qn (Ws (G (R 2 rfl (NQ (Wd rfl H (fun H=>?_) (fun H=>?_)))))))
  ·refine G (R 1 rfl (NQ (Wt (QT.r ?_))))
   cases H
   exact Ea rfl rfl rfl tv
  refine Wk (Qn (G (R 1 rfl (NQ (Wt ?_)))))
  cases H
  exact Ea rfl rfl rfl tv
 replace H:=of_f H h14
 refine G (R 2 rfl (NQ (Wc rfl (fun h16=>?_) (fun h16=>?_))))
 ·replace H:=of_t H h16
  refine WC.known (g:=53) true rfl h16 (Wk (Qn (Wc rfl (fun h=>?_) (fun h=>absurd h (by decide)))))
  refine Wk (Qb (Qn ?_))
  refine Ws (G (R 2 rfl (NQ (Wc rfl (fun h=>absurd h (by decide)) (fun h=>?_)))))
  refine Wk (Qn (Ws (G (R 2 rfl (NQ (Wd rfl H (fun H=>?_) (fun H=>?_)))))))
  ·refine G (R 1 rfl (NQ (Wt (QT.r ?_))))
   cases H
   exact Ea rfl rfl rfl tv
  refine Wk (Qn (G (R 1 rfl (NQ (Wt ?_)))))
  cases H
  exact Ea rfl rfl rfl tv
 replace H:=of_f H h16
 refine Wg (R 2 rfl (NQ (Wd rfl H (fun H=>?_) (fun H=>?_))))
 ·refine Wk (Qb (Qn ?_))
  refine Ws (G (R 2 rfl (NQ (Wc rfl (fun h=>absurd h (by decide)) (fun h=>?_)))))
  refine Wk (Qn (Ws (G (R 2 rfl (NQ (Wd rfl H (fun H=>?_) (fun H=>?_)))))))
  ·refine G (R 1 rfl (NQ (Wt (QT.r ?_))))
   cases H
   exact Ea rfl rfl rfl tv
  refine Wk (Qn (G (R 1 rfl (NQ (Wt ?_)))))
  cases H
  exact Ea rfl rfl rfl tv
 refine G (R 1 rfl (NQ (Wt (QB.r (QT.r ?_)))))
 cases H
 exact Ea rfl rfl rfl tv
theorem rX:aE Tryz.prog 65 Tryz.f65:=⟨Tryz.func65,rfl,by kernel_rfl⟩
theorem py (a0:List af) {r:Int×Int} (H:fz a0=some r):LJ.Spec Tryz.prog 37 [.d (slT ai a0)] [] (.tup [.d (.int .i64 r.1), .d (.int .i64 r.2)]) []:=by
 refine LJ.Spec.code Tryz.func37 rfl 25 rfl rfl [] rfl fun w0 F0 S0 B0=>?_
 unfold fz at H
 refine G (R 2 rfl (NS (G (R 3 rfl (NQ (Wd rfl H (fun H=>?_) (fun H=>?_)))))))
 ·refine G (R 2 rfl (NQ (Wt (QT.r ?_))))
  cases H
  exact Ea rfl rfl rfl tv
 refine Wk (Qn (Ws (G (R 3 rfl (NQ (Wb (Wl (ι:= {x:Nat×Int //cP a0 x.1 x.2=some r}) (fun x=>[(0, .d (slT ai a0)),(10, .d (slT ai a0)),(11, .d (.int .i64 (a0.length:Int))),(12, .d (.int .i64 x.1.2))]) (fun x=>[]) (fun x=>x.1.1) ⟨(fuel,0),H⟩ (Lm p4 tv) fun x=>?_)))))))
 obtain ⟨⟨k3,s2⟩,H⟩:=x
 rcases k3 with _ | k3
 ·exact aO H
 rw [cP] at H
 refine G (R 1 rfl (NS (Wd rfl H (fun H=>?_) (fun H=>?_))))
 ·refine Wk (Qn (Ws (Wb (G ?_))))
  obtain ⟨g5,H⟩:=aq H
  refine RS 3 rfl ⟨⟨(av g5).1,(av g5).2,rfl⟩,tv⟩ (Wa 105 tk rfl rfl rfl (R 1 rfl (Ef 0 rfl (N (R 2 rfl ?_)))))
  obtain ⟨x6,hx6,H⟩:=ar H
  refine Cl [] (rV _ _ hx6) rX rfl tv rfl (R 1 rfl (N (R 2 rfl (NQ (Wd rfl H (fun H=>?_) (fun H=>?_))))))
  ·refine G (R 4 rfl (NQ (Wt (QB.r (QT.r (QT.r (QB.r (QT.r ?_))))))))
   cases H
   exact Ea rfl rfl rfl tv
  refine Wk (Qb (Qn ?_))
  exact Wg (R 2 rfl (NQ (⟨⟨(k3,IntKind.i64.wrap (s2+1)),H⟩,Z,Lm p4 tv⟩)))
 refine WC.exit (Qx (Qx (Qh (Qn ?_))))
 refine G (R 2 rfl (NQ (Wt ?_)))
 cases H
 exact Ea rfl rfl rfl tv
theorem pz:aE Tryz.prog 37 Tryz.f37:=⟨Tryz.func37,rfl,by kernel_rfl⟩
theorem aL (a0:Int) {r:Bool} (H:aK a0=some r):LJ.Spec Tryz.prog 45 [.d (.int .i64 a0)] [] (.d (.bool r)) []:=by
 refine LJ.Spec.code Tryz.func45 rfl 9 rfl rfl [] rfl fun w0 F0 S0 B0=>?_
 unfold aK at H
 refine G (R 1 rfl (N (R 3 rfl (Wx 2 2 false tk sg0 rfl rfl (fun _=>tv) (RS 2 rfl ⟨by first | exact id | exact fun h=>by rw [h];rfl | simp_all,tv⟩ (NQ (Wt ?_)))))))
 cases H
 exact Ea rfl rfl rfl tv
theorem aM:aE Tryz.prog 45 Tryz.f45:=⟨Tryz.func45,rfl,by kernel_rfl⟩
theorem rY (a0:List af) (a1:aa) {r:Int} (H:ja a0 a1=some r):LJ.Spec Tryz.prog 82 [.d (slT ai a0), .d (.agg [.int .i64 a1.Kind, .int .i64 a1.Obj, .int .i64 a1.N])] [] (.d (.int .i64 r)) []:=by
 refine LJ.Spec.code Tryz.func82 rfl 74 rfl rfl [] rfl fun w0 F0 S0 B0=>?_
 unfold ja at H
 refine G (Ef 103 rfl (R 1 rfl (N (R 2 rfl (NS (G (R 2 rfl (NQ (Wb (G (R 2 rfl (NQ (Wd rfl H (fun H=>?_) (fun H=>?_))))))))))))))
 ·refine Wg (R 1 rfl (Wn (Qb (Qn ?_))))
  refine Ws (G (R 4 rfl ?_))
  obtain ⟨x2,hx2,H⟩:=ar H
  refine Cl [] (ee _ _ _ hx2) ef rfl tv rfl (R 2 rfl (Wx 3 6 false tk sg0 rfl rfl (fun _=>tv) ?_))
  obtain ⟨g3,H⟩:=en H
  refine Wx 7 9 true tk sg0 rfl rfl (fun hb=>⟨⟨(av (g3 hb)).1,(av (g3 hb)).2,rfl⟩,tv⟩) (Wx 1 6 false tk sg0 rfl rfl (fun hb=>⟨by first | exact id | exact ⟨hb,fun h=>by rw [hb,h];rfl⟩ | exact ⟨hb,id⟩ | exact fun h=>by rw [hb,h];rfl | exact fun h=>by rw [h];rfl | simp_all,tv⟩) (RS 1 rfl ⟨by first | exact id | exact fun h=>by rw [h];rfl | simp_all,tv⟩ (NQ (Wd rfl H (fun H=>?_) (fun H=>?_)))))
  ·refine G (R 1 rfl (NQ (Wt (QT.r ?_))))
   cases H
   exact Ea rfl rfl rfl tv
  refine Wk (Qn (Ws (G (R 2 rfl (NQ (Wb (G (R 2 rfl (NQ (Wd rfl H (fun H=>?_) (fun H=>?_)))))))))))
  ·refine Wg ?_
   obtain ⟨g6,H⟩:=aq H
   refine RS 7 rfl ⟨⟨(av g6).1,(av g6).2,rfl⟩,tv⟩ (Wn (Qb (Qn ?_)))
   refine Ws (G (R 2 rfl ?_))
   obtain ⟨x7,hx7,H⟩:=ar H
   refine Cl [] (aL _ hx7) aM rfl tv rfl (R 1 rfl (Wx 3 3 true tk sg0 rfl rfl (fun _=>tv) (RS 2 rfl ⟨by first | exact id | exact fun h=>by rw [h];rfl | simp_all,tv⟩ (Wx 3 8 false tk sg0 rfl rfl (fun _=>tv) (RS 2 rfl ⟨by first | exact id | exact fun h=>by rw [h];rfl | simp_all,tv⟩ (Wx 4 13 false tk sg0 rfl rfl (fun _=>tv) (RS 1 rfl ⟨by first | exact id | exact fun h=>by rw [h];rfl | simp_all,tv⟩ (NQ (Wd rfl H (fun H=>?_) (fun H=>?_))))))))))
   ·refine G (R 1 rfl (NQ (Wt (QT.r ?_))))
    cases H
    exact Ea rfl rfl rfl tv
   refine Wk (Qn (G (R 1 rfl (NQ (Wt ?_)))))
   cases H
   exact Ea rfl rfl rfl tv
  refine G (R 2 rfl (NQ (Wd rfl H (fun H=>?_) (fun H=>?_))))
  ·refine Wg ?_
   obtain ⟨g10,H⟩:=aq H
   refine RS 7 rfl ⟨⟨(av g10).1,(av g10).2,rfl⟩,tv⟩ (Wn (Qb (Qn ?_)))
   refine Ws (G (R 2 rfl ?_))
   obtain ⟨x11,hx11,H⟩:=ar H
   refine Cl [] (aL _ hx11) aM rfl tv rfl (R 1 rfl (Wx 3 3 true tk sg0 rfl rfl (fun _=>tv) (RS 2 rfl ⟨by first | exact id | exact fun h=>by rw [h];rfl | simp_all,tv⟩ (Wx 3 8 false tk sg0 rfl rfl (fun _=>tv) (RS 2 rfl ⟨by first | exact id | exact fun h=>by rw [h];rfl | simp_all,tv⟩ (Wx 4 13 false tk sg0 rfl rfl (fun _=>tv) (RS 1 rfl ⟨by first | exact id | exact fun h=>by rw [h];rfl | simp_all,tv⟩ (NQ (Wd rfl H (fun H=>?_) (fun H=>?_))))))))))
   ·refine G (R 1 rfl (NQ (Wt (QT.r ?_))))
    cases H
    exact Ea rfl rfl rfl tv
   refine Wk (Qn (G (R 1 rfl (NQ (Wt ?_)))))
   cases H
   exact Ea rfl rfl rfl tv
  refine Wk (Qb (Qn ?_))
  refine Ws (G (R 2 rfl ?_))
  obtain ⟨x13,hx13,H⟩:=ar H
  refine Cl [] (aL _ hx13) aM rfl tv rfl (R 1 rfl (Wx 3 3 true tk sg0 rfl rfl (fun _=>tv) (RS 2 rfl ⟨by first | exact id | exact fun h=>by rw [h];rfl | simp_all,tv⟩ (Wx 3 8 false tk sg0 rfl rfl (fun _=>tv) (RS 2 rfl ⟨by first | exact id | exact fun h=>by rw [h];rfl | simp_all,tv⟩ (Wx 4 13 false tk sg0 rfl rfl (fun _=>tv) (RS 1 rfl ⟨by first | exact id | exact fun h=>by rw [h];rfl | simp_all,tv⟩ (NQ (Wd rfl H (fun H=>?_) (fun H=>?_))))))))))
  ·refine G (R 1 rfl (NQ (Wt (QT.r ?_))))
   cases H
   exact Ea rfl rfl rfl tv
  refine Wk (Qn (G (R 1 rfl (NQ (Wt ?_)))))
  cases H
  exact Ea rfl rfl rfl tv
 refine Ws (G (R 2 rfl (NQ (Wc rfl (fun h15=>?_) (fun h15=>?_)))))
 ·replace H:=of_t H h15
  refine WC.known (g:=11) true rfl h15 (Wk (Qn (Wc rfl (fun h=>?_) (fun h=>absurd h (by decide)))))
  refine Wk (Qb (Qn ?_))
  refine Ws (G (R 4 rfl ?_))
  obtain ⟨x16,hx16,H⟩:=ar H
  refine Cl [] (ee _ _ _ hx16) ef rfl tv rfl (R 2 rfl (Wx 3 6 false tk sg0 rfl rfl (fun _=>tv) ?_))
  obtain ⟨g17,H⟩:=en H
  refine Wx 7 9 true tk sg0 rfl rfl (fun hb=>⟨⟨(av (g17 hb)).1,(av (g17 hb)).2,rfl⟩,tv⟩) (Wx 1 6 false tk sg0 rfl rfl (fun hb=>⟨by first | exact id | exact ⟨hb,fun h=>by rw [hb,h];rfl⟩ | exact ⟨hb,id⟩ | exact fun h=>by rw [hb,h];rfl | exact fun h=>by rw [h];rfl | simp_all,tv⟩) (RS 1 rfl ⟨by first | exact id | exact fun h=>by rw [h];rfl | simp_all,tv⟩ (NQ (Wd rfl H (fun H=>?_) (fun H=>?_)))))
  ·refine G (R 1 rfl (NQ (Wt (QT.r ?_))))
   cases H
   exact Ea rfl rfl rfl tv
  refine Wk (Qn (Ws (G (R 2 rfl (NQ (Wb (G (R 2 rfl (NQ (Wd rfl H (fun H=>?_) (fun H=>?_)))))))))))
  ·refine Wg ?_
   obtain ⟨g20,H⟩:=aq H
   refine RS 7 rfl ⟨⟨(av g20).1,(av g20).2,rfl⟩,tv⟩ (Wn (Qb (Qn ?_)))
   refine Ws (G (R 2 rfl ?_))
   obtain ⟨x21,hx21,H⟩:=ar H
   refine Cl [] (aL _ hx21) aM rfl tv rfl (R 1 rfl (Wx 3 3 true tk sg0 rfl rfl (fun _=>tv) (RS 2 rfl ⟨by first | exact id | exact fun h=>by rw [h];rfl | simp_all,tv⟩ (Wx 3 8 false tk sg0 rfl rfl (fun _=>tv) (RS 2 rfl ⟨by first | exact id | exact fun h=>by rw [h];rfl | simp_all,tv⟩ (Wx 4 13 false tk sg0 rfl rfl (fun _=>tv) (RS 1 rfl ⟨by first | exact id | exact fun h=>by rw [h];rfl | simp_all,tv⟩ (NQ (Wd rfl H (fun H=>?_) (fun H=>?_))))))))))
   ·refine G (R 1 rfl (NQ (Wt (QT.r ?_))))
    cases H
    exact Ea rfl rfl rfl tv
   refine Wk (Qn (G (R 1 rfl (NQ (Wt ?_)))))
   cases H
   exact Ea rfl rfl rfl tv
  refine G (R 2 rfl (NQ (Wd rfl H (fun H=>?_) (fun H=>?_))))
  ·refine Wg ?_
   obtain ⟨g24,H⟩:=aq H
   refine RS 7 rfl ⟨⟨(av g24).1,(av g24).2,rfl⟩,tv⟩ (Wn (Qb (Qn ?_)))
   refine Ws (G (R 2 rfl ?_))
   obtain ⟨x25,hx25,H⟩:=ar H
   refine Cl [] (aL _ hx25) aM rfl tv rfl (R 1 rfl (Wx 3 3 true tk sg0 rfl rfl (fun _=>tv) (RS 2 rfl ⟨by first | exact id | exact fun h=>by rw [h];rfl | simp_all,tv⟩ (Wx 3 8 false tk sg0 rfl rfl (fun _=>tv) (RS 2 rfl ⟨by first | exact id | exact fun h=>by rw [h];rfl | simp_all,tv⟩ (Wx 4 13 false tk sg0 rfl rfl (fun _=>tv) (RS 1 rfl ⟨by first | exact id | exact fun h=>by rw [h];rfl | simp_all,tv⟩ (NQ (Wd rfl H (fun H=>?_) (fun H=>?_))))))))))
   ·refine G (R 1 rfl (NQ (Wt (QT.r ?_))))
    cases H
    exact Ea rfl rfl rfl tv
   refine Wk (Qn (G (R 1 rfl (NQ (Wt ?_)))))
   cases H
   exact Ea rfl rfl rfl tv
  refine Wk (Qb (Qn ?_))
  refine Ws (G (R 2 rfl ?_))
  obtain ⟨x27,hx27,H⟩:=ar H
  refine Cl [] (aL _ hx27) aM rfl tv rfl (R 1 rfl (Wx 3 3 true tk sg0 rfl rfl (fun _=>tv) (RS 2 rfl ⟨by first | exact id | exact fun h=>by rw [h];rfl | simp_all,tv⟩ (Wx 3 8 false tk sg0 rfl rfl (fun _=>tv) (RS 2 rfl ⟨by first | exact id | exact fun h=>by rw [h];rfl | simp_all,tv⟩ (Wx 4 13 false tk sg0 rfl rfl (fun _=>tv) (RS 1 rfl ⟨by first | exact id | exact fun h=>by rw [h];rfl | simp_all,tv⟩ (NQ (Wd rfl H (fun H=>?_) (fun H=>?_))))))))))
  ·refine G (R 1 rfl (NQ (Wt (QT.r ?_))))
   cases H
   exact Ea rfl rfl rfl tv
  refine Wk (Qn (G (R 1 rfl (NQ (Wt ?_)))))
  cases H
  exact Ea rfl rfl rfl tv
 replace H:=of_f H h15
 refine Wg (R 2 rfl (NQ (Wd rfl H (fun H=>?_) (fun H=>?_))))
 ·refine Wk (Qb (Qn ?_))
  refine Ws (G (R 4 rfl ?_))
  obtain ⟨x30,hx30,H⟩:=ar H
  refine Cl [] (ee _ _ _ hx30) ef rfl tv rfl (R 2 rfl (Wx 3 6 false tk sg0 rfl rfl (fun _=>tv) ?_))
  obtain ⟨g31,H⟩:=en H
  refine Wx 7 9 true tk sg0 rfl rfl (fun hb=>⟨⟨(av (g31 hb)).1,(av (g31 hb)).2,rfl⟩,tv⟩) (Wx 1 6 false tk sg0 rfl rfl (fun hb=>⟨by first | exact id | exact ⟨hb,fun h=>by rw [hb,h];rfl⟩ | exact ⟨hb,id⟩ | exact fun h=>by rw [hb,h];rfl | exact fun h=>by rw [h];rfl | simp_all,tv⟩) (RS 1 rfl ⟨by first | exact id | exact fun h=>by rw [h];rfl | simp_all,tv⟩ (NQ (Wd rfl H (fun H=>?_) (fun H=>?_)))))
  ·refine G (R 1 rfl (NQ (Wt (QT.r ?_))))
   cases H
   exact Ea rfl rfl rfl tv
  refine Wk (Qn (Ws (G (R 2 rfl (NQ (Wb (G (R 2 rfl (NQ (Wd rfl H (fun H=>?_) (fun H=>?_)))))))))))
  ·refine Wg ?_
   obtain ⟨g34,H⟩:=aq H
   refine RS 7 rfl ⟨⟨(av g34).1,(av g34).2,rfl⟩,tv⟩ (Wn (Qb (Qn ?_)))
   refine Ws (G (R 2 rfl ?_))
   obtain ⟨x35,hx35,H⟩:=ar H
   refine Cl [] (aL _ hx35) aM rfl tv rfl (R 1 rfl (Wx 3 3 true tk sg0 rfl rfl (fun _=>tv) (RS 2 rfl ⟨by first | exact id | exact fun h=>by rw [h];rfl | simp_all,tv⟩ (Wx 3 8 false tk sg0 rfl rfl (fun _=>tv) (RS 2 rfl ⟨by first | exact id | exact fun h=>by rw [h];rfl | simp_all,tv⟩ (Wx 4 13 false tk sg0 rfl rfl (fun _=>tv) (RS 1 rfl ⟨by first | exact id | exact fun h=>by rw [h];rfl | simp_all,tv⟩ (NQ (Wd rfl H (fun H=>?_) (fun H=>?_))))))))))
   ·refine G (R 1 rfl (NQ (Wt (QT.r ?_))))
    cases H
    exact Ea rfl rfl rfl tv
   refine Wk (Qn (G (R 1 rfl (NQ (Wt ?_)))))
   cases H
   exact Ea rfl rfl rfl tv
  refine G (R 2 rfl (NQ (Wd rfl H (fun H=>?_) (fun H=>?_))))
  ·refine Wg ?_
   obtain ⟨g38,H⟩:=aq H
   refine RS 7 rfl ⟨⟨(av g38).1,(av g38).2,rfl⟩,tv⟩ (Wn (Qb (Qn ?_)))
   refine Ws (G (R 2 rfl ?_))
   obtain ⟨x39,hx39,H⟩:=ar H
   refine Cl [] (aL _ hx39) aM rfl tv rfl (R 1 rfl (Wx 3 3 true tk sg0 rfl rfl (fun _=>tv) (RS 2 rfl ⟨by first | exact id | exact fun h=>by rw [h];rfl | simp_all,tv⟩ (Wx 3 8 false tk sg0 rfl rfl (fun _=>tv) (RS 2 rfl ⟨by first | exact id | exact fun h=>by rw [h];rfl | simp_all,tv⟩ (Wx 4 13 false tk sg0 rfl rfl (fun _=>tv) (RS 1 rfl ⟨by first | exact id | exact fun h=>by rw [h];rfl | simp_all,tv⟩ (NQ (Wd rfl H (fun H=>?_) (fun H=>?_))))))))))
   ·refine G (R 1 rfl (NQ (Wt (QT.r ?_))))
    cases H
    exact Ea rfl rfl rfl tv
   refine Wk (Qn (G (R 1 rfl (NQ (Wt ?_)))))
   cases H
   exact Ea rfl rfl rfl tv
  refine Wk (Qb (Qn ?_))
  refine Ws (G (R 2 rfl ?_))
  obtain ⟨x41,hx41,H⟩:=ar H
  refine Cl [] (aL _ hx41) aM rfl tv rfl (R 1 rfl (Wx 3 3 true tk sg0 rfl rfl (fun _=>tv) (RS 2 rfl ⟨by first | exact id | exact fun h=>by rw [h];rfl | simp_all,tv⟩ (Wx 3 8 false tk sg0 rfl rfl (fun _=>tv) (RS 2 rfl ⟨by first | exact id | exact fun h=>by rw [h];rfl | simp_all,tv⟩ (Wx 4 13 false tk sg0 rfl rfl (fun _=>tv) (RS 1 rfl ⟨by first | exact id | exact fun h=>by rw [h];rfl | simp_all,tv⟩ (NQ (Wd rfl H (fun H=>?_) (fun H=>?_))))))))))
  ·refine G (R 1 rfl (NQ (Wt (QT.r ?_))))
   cases H
   exact Ea rfl rfl rfl tv
  refine Wk (Qn (G (R 1 rfl (NQ (Wt ?_)))))
  cases H
  exact Ea rfl rfl rfl tv
 refine G (R 2 rfl (NQ (Wd rfl H (fun H=>?_) (fun H=>?_))))
 ·refine Wg (R 1 rfl (Wn (Qb (Qn ?_))))
  refine Ws (G (R 4 rfl ?_))
  obtain ⟨x44,hx44,H⟩:=ar H
  refine Cl [] (ee _ _ _ hx44) ef rfl tv rfl (R 2 rfl (Wx 3 6 false tk sg0 rfl rfl (fun _=>tv) ?_))
  obtain ⟨g45,H⟩:=en H
  refine Wx 7 9 true tk sg0 rfl rfl (fun hb=>⟨⟨(av (g45 hb)).1,(av (g45 hb)).2,rfl⟩,tv⟩) (Wx 1 6 false tk sg0 rfl rfl (fun hb=>⟨by first | exact id | exact ⟨hb,fun h=>by rw [hb,h];rfl⟩ | exact ⟨hb,id⟩ | exact fun h=>by rw [hb,h];rfl | exact fun h=>by rw [h];rfl | simp_all,tv⟩) (RS 1 rfl ⟨by first | exact id | exact fun h=>by rw [h];rfl | simp_all,tv⟩ (NQ (Wd rfl H (fun H=>?_) (fun H=>?_)))))
  ·refine G (R 1 rfl (NQ (Wt (QT.r ?_))))
   cases H
   exact Ea rfl rfl rfl tv
  refine Wk (Qn (Ws (G (R 2 rfl (NQ (Wb (G (R 2 rfl (NQ (Wd rfl H (fun H=>?_) (fun H=>?_)))))))))))
  ·refine Wg ?_
   obtain ⟨g48,H⟩:=aq H
   refine RS 7 rfl ⟨⟨(av g48).1,(av g48).2,rfl⟩,tv⟩ (Wn (Qb (Qn ?_)))
   refine Ws (G (R 2 rfl ?_))
   obtain ⟨x49,hx49,H⟩:=ar H
   refine Cl [] (aL _ hx49) aM rfl tv rfl (R 1 rfl (Wx 3 3 true tk sg0 rfl rfl (fun _=>tv) (RS 2 rfl ⟨by first | exact id | exact fun h=>by rw [h];rfl | simp_all,tv⟩ (Wx 3 8 false tk sg0 rfl rfl (fun _=>tv) (RS 2 rfl ⟨by first | exact id | exact fun h=>by rw [h];rfl | simp_all,tv⟩ (Wx 4 13 false tk sg0 rfl rfl (fun _=>tv) (RS 1 rfl ⟨by first | exact id | exact fun h=>by rw [h];rfl | simp_all,tv⟩ (NQ (Wd rfl H (fun H=>?_) (fun H=>?_))))))))))
   ·refine G (R 1 rfl (NQ (Wt (QT.r ?_))))
    cases H
    exact Ea rfl rfl rfl tv
   refine Wk (Qn (G (R 1 rfl (NQ (Wt ?_)))))
   cases H
   exact Ea rfl rfl rfl tv
  refine G (R 2 rfl (NQ (Wd rfl H (fun H=>?_) (fun H=>?_))))
  ·refine Wg ?_
   obtain ⟨g52,H⟩:=aq H
   refine RS 7 rfl ⟨⟨(av g52).1,(av g52).2,rfl⟩,tv⟩ (Wn (Qb (Qn ?_)))
   refine Ws (G (R 2 rfl ?_))
   obtain ⟨x53,hx53,H⟩:=ar H
   refine Cl [] (aL _ hx53) aM rfl tv rfl (R 1 rfl (Wx 3 3 true tk sg0 rfl rfl (fun _=>tv) (RS 2 rfl ⟨by first | exact id | exact fun h=>by rw [h];rfl | simp_all,tv⟩ (Wx 3 8 false tk sg0 rfl rfl (fun _=>tv) (RS 2 rfl ⟨by first | exact id | exact fun h=>by rw [h];rfl | simp_all,tv⟩ (Wx 4 13 false tk sg0 rfl rfl (fun _=>tv) (RS 1 rfl ⟨by first | exact id | exact fun h=>by rw [h];rfl | simp_all,tv⟩ (NQ (Wd rfl H (fun H=>?_) (fun H=>?_))))))))))
   ·refine G (R 1 rfl (NQ (Wt (QT.r ?_))))
    cases H
    exact Ea rfl rfl rfl tv
   refine Wk (Qn (G (R 1 rfl (NQ (Wt ?_)))))
   cases H
   exact Ea rfl rfl rfl tv
  refine Wk (Qb (Qn ?_))
  refine Ws (G (R 2 rfl ?_))
  obtain ⟨x55,hx55,H⟩:=ar H
  refine Cl [] (aL _ hx55) aM rfl tv rfl (R 1 rfl (Wx 3 3 true tk sg0 rfl rfl (fun _=>tv) (RS 2 rfl ⟨by first | exact id | exact fun h=>by rw [h];rfl | simp_all,tv⟩ (Wx 3 8 false tk sg0 rfl rfl (fun _=>tv) (RS 2 rfl ⟨by first | exact id | exact fun h=>by rw [h];rfl | simp_all,tv⟩ (Wx 4 13 false tk sg0 rfl rfl (fun _=>tv) (RS 1 rfl ⟨by first | exact id | exact fun h=>by rw [h];rfl | simp_all,tv⟩ (NQ (Wd rfl H (fun H=>?_) (fun H=>?_))))))))))
  ·refine G (R 1 rfl (NQ (Wt (QT.r ?_))))
   cases H
   exact Ea rfl rfl rfl tv
  refine Wk (Qn (G (R 1 rfl (NQ (Wt ?_)))))
  cases H
  exact Ea rfl rfl rfl tv
 refine G (R 2 rfl (NQ (Wd rfl H (fun H=>?_) (fun H=>?_))))
 ·refine Wg (R 1 rfl (Wn (Qb (Qn ?_))))
  refine Ws (G (R 4 rfl ?_))
  obtain ⟨x58,hx58,H⟩:=ar H
  refine Cl [] (ee _ _ _ hx58) ef rfl tv rfl (R 2 rfl (Wx 3 6 false tk sg0 rfl rfl (fun _=>tv) ?_))
  obtain ⟨g59,H⟩:=en H
  refine Wx 7 9 true tk sg0 rfl rfl (fun hb=>⟨⟨(av (g59 hb)).1,(av (g59 hb)).2,rfl⟩,tv⟩) (Wx 1 6 false tk sg0 rfl rfl (fun hb=>⟨by first | exact id | exact ⟨hb,fun h=>by rw [hb,h];rfl⟩ | exact ⟨hb,id⟩ | exact fun h=>by rw [hb,h];rfl | exact fun h=>by rw [h];rfl | simp_all,tv⟩) (RS 1 rfl ⟨by first | exact id | exact fun h=>by rw [h];rfl | simp_all,tv⟩ (NQ (Wd rfl H (fun H=>?_) (fun H=>?_)))))
  ·refine G (R 1 rfl (NQ (Wt (QT.r ?_))))
   cases H
   exact Ea rfl rfl rfl tv
  refine Wk (Qn (Ws (G (R 2 rfl (NQ (Wb (G (R 2 rfl (NQ (Wd rfl H (fun H=>?_) (fun H=>?_)))))))))))
  ·refine Wg ?_
   obtain ⟨g62,H⟩:=aq H
   refine RS 7 rfl ⟨⟨(av g62).1,(av g62).2,rfl⟩,tv⟩ (Wn (Qb (Qn ?_)))
   refine Ws (G (R 2 rfl ?_))
   obtain ⟨x63,hx63,H⟩:=ar H
   refine Cl [] (aL _ hx63) aM rfl tv rfl (R 1 rfl (Wx 3 3 true tk sg0 rfl rfl (fun _=>tv) (RS 2 rfl ⟨by first | exact id | exact fun h=>by rw [h];rfl | simp_all,tv⟩ (Wx 3 8 false tk sg0 rfl rfl (fun _=>tv) (RS 2 rfl ⟨by first | exact id | exact fun h=>by rw [h];rfl | simp_all,tv⟩ (Wx 4 13 false tk sg0 rfl rfl (fun _=>tv) (RS 1 rfl ⟨by first | exact id | exact fun h=>by rw [h];rfl | simp_all,tv⟩ (NQ (Wd rfl H (fun H=>?_) (fun H=>?_))))))))))
   ·refine G (R 1 rfl (NQ (Wt (QT.r ?_))))
    cases H
    exact Ea rfl rfl rfl tv
   refine Wk (Qn (G (R 1 rfl (NQ (Wt ?_)))))
   cases H
   exact Ea rfl rfl rfl tv
  refine G (R 2 rfl (NQ (Wd rfl H (fun H=>?_) (fun H=>?_))))
  ·refine Wg ?_
   obtain ⟨g66,H⟩:=aq H
   refine RS 7 rfl ⟨⟨(av g66).1,(av g66).2,rfl⟩,tv⟩ (Wn (Qb (Qn ?_)))
   refine Ws (G (R 2 rfl ?_))
   obtain ⟨x67,hx67,H⟩:=ar H
   refine Cl [] (aL _ hx67) aM rfl tv rfl (R 1 rfl (Wx 3 3 true tk sg0 rfl rfl (fun _=>tv) (RS 2 rfl ⟨by first | exact id | exact fun h=>by rw [h];rfl | simp_all,tv⟩ (Wx 3 8 false tk sg0 rfl rfl (fun _=>tv) (RS 2 rfl ⟨by first | exact id | exact fun h=>by rw [h];rfl | simp_all,tv⟩ (Wx 4 13 false tk sg0 rfl rfl (fun _=>tv) (RS 1 rfl ⟨by first | exact id | exact fun h=>by rw [h];rfl | simp_all,tv⟩ (NQ (Wd rfl H (fun H=>?_) (fun H=>?_))))))))))
   ·refine G (R 1 rfl (NQ (Wt (QT.r ?_))))
    cases H
    exact Ea rfl rfl rfl tv
   refine Wk (Qn (G (R 1 rfl (NQ (Wt ?_)))))
   cases H
   exact Ea rfl rfl rfl tv
  refine Wk (Qb (Qn ?_))
  refine Ws (G (R 2 rfl ?_))
  obtain ⟨x69,hx69,H⟩:=ar H
  refine Cl [] (aL _ hx69) aM rfl tv rfl (R 1 rfl (Wx 3 3 true tk sg0 rfl rfl (fun _=>tv) (RS 2 rfl ⟨by first | exact id | exact fun h=>by rw [h];rfl | simp_all,tv⟩ (Wx 3 8 false tk sg0 rfl rfl (fun _=>tv) (RS 2 rfl ⟨by first | exact id | exact fun h=>by rw [h];rfl | simp_all,tv⟩ (Wx 4 13 false tk sg0 rfl rfl (fun _=>tv) (RS 1 rfl ⟨by first | exact id | exact fun h=>by rw [h];rfl | simp_all,tv⟩ (NQ (Wd rfl H (fun H=>?_) (fun H=>?_))))))))))
  ·refine G (R 1 rfl (NQ (Wt (QT.r ?_))))
   cases H
   exact Ea rfl rfl rfl tv
  refine Wk (Qn (G (R 1 rfl (NQ (Wt ?_)))))
  cases H
  exact Ea rfl rfl rfl tv
 refine G (R 1 rfl (NQ (Wt (QB.r (QT.r ?_)))))
 cases H
 exact Ea rfl rfl rfl tv
theorem rZ:aE Tryz.prog 82 Tryz.f82:=⟨Tryz.func82,rfl,by kernel_rfl⟩
theorem r8 (a0:Int) {r:Int} (H:kQ a0=some r):LJ.Spec Tryz.prog 98 [.d (.int .i64 a0)] [] (.d (.int .u64 r)) []:=by
 refine LJ.Spec.code Tryz.func98 rfl 11 rfl rfl [] rfl fun w0 F0 S0 B0=>?_
 unfold kQ at H
 refine G (R 1 rfl (NS (G (R 3 rfl (Wx 2 2 false tk sg0 rfl rfl (fun _=>tv) (RS 1 rfl ⟨by first | exact id | exact fun h=>by rw [h];rfl | simp_all,tv⟩ (NQ (Wd rfl H (fun H=>?_) (fun H=>?_)))))))))
 ·refine G (R 1 rfl (NQ (Wt (QT.r ?_))))
  cases H
  exact Ea rfl rfl rfl tv
 refine Wk (Qn (G ?_))
 obtain ⟨g2,H⟩:=aq H
 refine RS 3 rfl ⟨(vC g2),tv⟩ (NQ (Wt ?_))
 cases H
 exact Ea rfl rfl rfl tv
theorem r9:aE Tryz.prog 98 Tryz.f98:=⟨Tryz.func98,rfl,by kernel_rfl⟩
theorem lR (a0:Int) (a1:Int) {r:Int} (H:dL a0 a1=some r):LJ.Spec Tryz.prog 83 [.d (.int .u64 a0), .d (.int .i64 a1)] [] (.d (.int .u64 r)) []:=by
 refine LJ.Spec.code Tryz.func83 rfl 9 rfl rfl [] rfl fun w0 F0 S0 B0=>?_
 unfold dL at H
 refine G (R 1 rfl (N (R 2 rfl ?_)))
 obtain ⟨x1,hx1,H⟩:=ar H
 refine Cl [] (r8 _ hx1) r9 rfl tv rfl (R 2 rfl (NQ (Wt ?_)))
 cases H
 exact Ea rfl rfl rfl tv
theorem lS:aE Tryz.prog 83 Tryz.f83:=⟨Tryz.func83,rfl,by kernel_rfl⟩
theorem jy (a0:Int) {r:Int} (H:cX a0=some r):LJ.Spec Tryz.prog 99 [.d (.int .u64 a0)] [] (.d (.int .i64 r)) []:=by
 refine LJ.Spec.code Tryz.func99 rfl 35 rfl rfl [] rfl fun w0 F0 S0 B0=>?_
 unfold cX at H
 refine G (R 1 rfl (N (R 7 rfl (N (R 7 rfl (N (R 6 rfl (N (R 5 rfl (N (R 5 rfl (N (R 5 rfl (N (R 4 rfl (NQ (Wt ?_)))))))))))))))))
 cases H
 exact Ea rfl rfl rfl tv
theorem jz:aE Tryz.prog 99 Tryz.f99:=⟨Tryz.func99,rfl,by kernel_rfl⟩
theorem kC (a0:Int) {r:Int} (H:eo a0=some r):LJ.Spec Tryz.prog 84 [.d (.int .u64 a0)] [] (.d (.int .i64 r)) []:=by
 refine LJ.Spec.code Tryz.func84 rfl 5 rfl rfl [] rfl fun w0 F0 S0 B0=>?_
 unfold eo at H
 refine G (R 1 rfl (N (R 1 rfl ?_)))
 obtain ⟨x1,hx1,H⟩:=ar H
 refine Cl [] (jy _ hx1) jz rfl tv rfl (R 1 rfl (NQ (Wt ?_)))
 cases H
 exact Ea rfl rfl rfl tv
theorem kD:aE Tryz.prog 84 Tryz.f84:=⟨Tryz.func84,rfl,by kernel_rfl⟩
theorem sa (a0:List af) (a1:List aa) {r:Int} (H:jb a0 a1=some r):LJ.Spec Tryz.prog 66 [.d (slT ai a0), .d (slT aN a1)] [] (.d (.int .i64 r)) []:=by
 refine LJ.Spec.code Tryz.func66 rfl 52 rfl rfl [] rfl fun w0 F0 S0 B0=>?_
 unfold jb at H
 refine G (R 1 rfl (NS (G (R 3 rfl (NQ (Wd rfl H (fun H=>?_) (fun H=>?_)))))))
 ·refine G (R 1 rfl (NQ (Wt (QT.r ?_))))
  cases H
  exact Ea rfl rfl rfl tv
 refine Wk (Qn (Ws (G (R 3 rfl (NQ (Wd rfl H (fun H=>?_) (fun H=>?_)))))))
 ·refine G (R 1 rfl (NQ (Wt (QT.r ?_))))
  cases H
  exact Ea rfl rfl rfl tv
 refine Wk (Qn (G (R 2 rfl (NS (G (R 3 rfl (NQ (Wb (Wl (ι:= {x:Nat×(Int×Bool×Int) //dy a0 a1 x.1 x.2=some r}) (fun x=>[(0, .d (slT ai a0)),(1, .d (slT aN a1)),(5, .d (.int .u64 x.1.2.1)),(6, .d (.bool x.1.2.2.1)),(16, .d (slT aN a1)),(17, .d (.int .i64 (a1.length:Int))),(18, .d (.int .i64 x.1.2.2.2))]) (fun x=>[]) (fun x=>x.1.1) ⟨(fuel,(0,false,0)),H⟩ (Lm p7 tv) fun x=>?_)))))))))
 obtain ⟨⟨k4,s3⟩,H⟩:=x
 rcases k4 with _ | k4
 ·exact aO H
 rw [dy] at H
 refine G (R 1 rfl (NS (Wd rfl H (fun H=>?_) (fun H=>?_))))
 ·refine Wk (Qn (Ws (Wb (G ?_))))
  obtain ⟨g6,H⟩:=aq H
  refine RS 2 rfl ⟨⟨(av g6).1,(av g6).2,rfl⟩,tv⟩ (Wa 108 tk rfl rfl rfl (Ef 0 rfl (NS (G (R 2 rfl ?_)))))
  obtain ⟨x7,hx7,H⟩:=ar H
  refine Cl [] (rY _ _ hx7) rZ rfl tv rfl (R 1 rfl (N (R 2 rfl (NQ (Wd rfl H (fun H=>?_) (fun H=>?_))))))
  ·refine G (R 2 rfl (NQ (Wt (QT.r (QB.r (QT.r (QT.r (QB.r (QT.r ?_)))))))))
   cases H
   exact Ea rfl rfl rfl tv
  refine Wk (Qn (G (R 3 rfl ?_)))
  obtain ⟨x9,hx9,H⟩:=ar H
  refine Cl [] (lR _ _ hx9) lS rfl tv rfl (R 1 rfl (NQ (Wg (R 2 rfl (Wx 3 1 false tk sg0 rfl rfl (fun _=>tv) (RS 2 rfl ⟨by first | exact id | exact fun h=>by rw [h];rfl | simp_all,tv⟩ (Wn (Qb (Qn ?_)))))))))
  exact Wg (R 2 rfl (NQ (⟨⟨(k4,(x9,(s3.2.1||(iEq ((a1.getD s3.2.2.toNat default).Kind) 4)),IntKind.i64.wrap (s3.2.2+1))),H⟩,Z,Lm p7 tv⟩)))
 refine WC.exit (Qx (Qx (Qh (Qn ?_))))
 refine Ws (G (R 1 rfl ?_))
 obtain ⟨x10,hx10,H⟩:=ar H
 refine Cl [] (kC _ hx10) kD rfl tv rfl (R 4 rfl (Wx 2 5 false tk sg0 rfl rfl (fun _=>tv) (Wx 3 7 true tk sg0 rfl rfl (fun _=>tv) (Wx 1 5 false tk sg0 rfl rfl (fun hb=>⟨by first | exact id | exact ⟨hb,fun h=>by rw [hb,h];rfl⟩ | exact ⟨hb,id⟩ | exact fun h=>by rw [hb,h];rfl | exact fun h=>by rw [h];rfl | simp_all,tv⟩) (RS 1 rfl ⟨by first | exact id | exact fun h=>by rw [h];rfl | simp_all,tv⟩ (NQ (Wd rfl H (fun H=>?_) (fun H=>?_))))))))
 ·refine G (R 1 rfl (NQ (Wt (QT.r ?_))))
  cases H
  exact Ea rfl rfl rfl tv
 refine Wk (Qn (G (R 1 rfl (NQ (Wt ?_)))))
 cases H
 exact Ea rfl rfl rfl tv
theorem sb:aE Tryz.prog 66 Tryz.f66:=⟨Tryz.func66,rfl,by kernel_rfl⟩
theorem pA (a0:List af) (a1:List (List aa)) {r:Int} (H:fA a0 a1=some r):LJ.Spec Tryz.prog 38 [.d (slT ai a0), .d (slT aw a1)] [] (.d (.int .i64 r)) []:=by
 refine LJ.Spec.code Tryz.func38 rfl 27 rfl rfl [] rfl fun w0 F0 S0 B0=>?_
 unfold fA at H
 refine G (R 1 rfl (NS (G (R 3 rfl (NQ (Wd rfl H (fun H=>?_) (fun H=>?_)))))))
 ·refine G (R 1 rfl (NQ (Wt (QT.r ?_))))
  cases H
  exact Ea rfl rfl rfl tv
 refine Wk (Qn (Ws (G (R 3 rfl (NQ (Wd rfl H (fun H=>?_) (fun H=>?_)))))))
 ·refine G (R 1 rfl (NQ (Wt (QT.r ?_))))
  cases H
  exact Ea rfl rfl rfl tv
 refine Wk (Qn (Ws (G (R 3 rfl (NQ (Wb (Wl (ι:= {x:Nat×Int //cQ a0 a1 x.1 x.2=some r}) (fun x=>[(0, .d (slT ai a0)),(14, .d (slT aw a1)),(15, .d (.int .i64 (a1.length:Int))),(16, .d (.int .i64 x.1.2))]) (fun x=>[]) (fun x=>x.1.1) ⟨(fuel,0),H⟩ (Lm p4 tv) fun x=>?_)))))))
 obtain ⟨⟨k4,s3⟩,H⟩:=x
 rcases k4 with _ | k4
 ·exact aO H
 rw [cQ] at H
 refine G (R 1 rfl (NS (Wd rfl H (fun H=>?_) (fun H=>?_))))
 ·refine Wk (Qn (Ws (Wb (G ?_))))
  obtain ⟨g6,H⟩:=aq H
  refine RS 3 rfl ⟨⟨(av g6).1,(av g6).2,rfl⟩,tv⟩ (N (R 2 rfl ?_))
  obtain ⟨x7,hx7,H⟩:=ar H
  refine Cl [] (sa _ _ hx7) sb rfl tv rfl (R 1 rfl (N (R 2 rfl (NQ (Wd rfl H (fun H=>?_) (fun H=>?_))))))
  ·refine G (R 2 rfl (NQ (Wt (QB.r (QT.r (QT.r (QB.r (QT.r ?_))))))))
   cases H
   exact Ea rfl rfl rfl tv
  refine Wk (Qb (Qn ?_))
  exact Wg (R 2 rfl (NQ (⟨⟨(k4,IntKind.i64.wrap (s3+1)),H⟩,Z,Lm p4 tv⟩)))
 refine WC.exit (Qx (Qx (Qh (Qn ?_))))
 refine G (R 1 rfl (NQ (Wt ?_)))
 cases H
 exact Ea rfl rfl rfl tv
theorem pB:aE Tryz.prog 38 Tryz.f38:=⟨Tryz.func38,rfl,by kernel_rfl⟩
theorem nb (a0:Int) {r:Bool} (H:jc a0=some r):LJ.Spec Tryz.prog 69 [.d (.int .i64 a0)] [] (.d (.bool r)) []:=by
 refine LJ.Spec.code Tryz.func69 rfl 9 rfl rfl [] rfl fun w0 F0 S0 B0=>?_
 unfold jc at H
 refine G (R 1 rfl (N (R 3 rfl (Wx 2 2 true tk sg0 rfl rfl (fun _=>tv) (RS 2 rfl ⟨by first | exact id | exact fun h=>by rw [h];rfl | simp_all,tv⟩ (NQ (Wt ?_)))))))
 cases H
 exact Ea rfl rfl rfl tv
theorem nc:aE Tryz.prog 69 Tryz.f69:=⟨Tryz.func69,rfl,by kernel_rfl⟩
theorem eI (a0:ByteArray) {r:List ByteArray} (H:cB a0=some r):LJ.Spec Tryz.prog 70 [.d (.str a0)] [] (.d (slT bJ r)) []:=by
 refine LJ.Spec.code Tryz.func70 rfl 106 rfl rfl [] rfl fun w0 F0 S0 B0=>?_
 unfold cB at H
 refine G (R 1 rfl (N (R 1 rfl (N (R 1 rfl (N (R 1 rfl (NS (G (R 1 rfl (NQ (Wb (Wl (ι:= {x:Nat×(Int×Int×Int×Int) //dm a0 x.1 x.2=some r}) (fun x=>[(0, .d (.str a0)),(3, .d (.int .i64 x.1.2.1)),(4, .d (.int .i64 x.1.2.2.1)),(5, .d (.int .u8 x.1.2.2.2.1)),(6, .d (.int .i64 x.1.2.2.2.2))]) (fun x=>[]) (fun x=>x.1.1) ⟨(fuel,(0,1,0,0)),H⟩ (Lm p5 tv) fun x=>?_)))))))))))))
 obtain ⟨⟨k2,s1⟩,H⟩:=x
 rcases k2 with _ | k2
 ·exact aO H
 rw [dm] at H
 refine Ws (G (R 4 rfl (NQ (Wd rfl H (fun H=>?_) (fun H=>?_)))))
 ·refine Wk (Qn (Ws (Wb (G ?_))))
  obtain ⟨g4,H⟩:=aq H
  refine RS 4 rfl ⟨(av g4),tv⟩ (N (R 4 rfl (N (R 1 rfl ?_))))
  obtain ⟨g5,H⟩:=aq H
  refine WL.yv (LJ.Y.idxElpA 256 (fun k=> .int .u8 (aG.getD k default)) (bf a0 s1.2.2.2.toNat) (by kernel_rfl) rfl rfl rfl iM (av g5)) rfl rfl rfl (R 3 rfl (N (R 7 rfl (NQ (Wg (R 2 rfl (Wn (Qb (Qn ?_)))))))))
  exact Wg (R 3 rfl (NQ (⟨⟨(k2,(IntKind.i64.wrap (s1.1+(Go.bits .and .i64 s1.2.1 (Go.bits .xor .i64 (cond IntKind.i64.signed (-1) IntKind.i64.max) (IntKind.i64.wrap (aG.getD (bf a0 s1.2.2.2.toNat).toNat default))))),IntKind.i64.wrap (aG.getD (bf a0 s1.2.2.2.toNat).toNat default),Go.bits .or .u8 s1.2.2.1 (bf a0 s1.2.2.2.toNat),IntKind.i64.wrap (s1.2.2.2+1))),H⟩,Z,Lm p5 tv⟩)))
 refine WC.exit (Qx (Qx (Qh (Qn ?_))))
 refine Ws (G (R 2 rfl (NQ (Wd rfl H (fun H=>?_) (fun H=>?_)))))
 ·exact aO H
 refine Wk (Qn (G (R 1 rfl ?_)))
 obtain ⟨g7,H⟩:=aq H
 refine WL.makeT (r:=141) bJ (ByteArray.empty:ByteArray) s1.1 tk ek rfl rfl rfl rfl rfl rfl rfl (xe g7) rfl rfl rfl rfl (R 1 rfl (N (R 1 rfl (N (R 1 rfl (N (R 1 rfl (NQ ?_))))))))
 obtain ⟨K8,hK8,H⟩:=du H
 refine WC.cut (fun E m=>∃ s9:Int,K8 s9=some r∧gu E m [(0, .d (.str a0)),(9, .own 141),(10, .d (.int .i64 0)),(12, .d (.int .i64 s9))] [(141, .row 9 1 ((List.replicate s1.1.toNat (ByteArray.empty:ByteArray)).map bJ))]) ?_ ?_
 ·refine Wb (Wl (ι:= {x:Nat×Int //c9 a0 K8 x.1 x.2=some r}) (fun x=>[(0, .d (.str a0)),(9, .own 141),(10, .d (.int .i64 0)),(12, .d (.int .i64 x.1.2))]) (fun x=>[(141, .row 9 1 ((List.replicate s1.1.toNat (ByteArray.empty:ByteArray)).map bJ))]) (fun x=>x.1.1) ⟨(fuel,0),H⟩ (Lm p4 p1) fun x=>?_)
  obtain ⟨⟨k11,s10⟩,H⟩:=x
  rcases k11 with _ | k11
  ·exact aO H
  rw [c9] at H
  refine Ws (G (R 5 rfl (WL.split (g:=46) rfl (fun h12=>?_) (fun h12=>?_))))
  ·replace H:=of_t H h12
   obtain ⟨g13,H⟩:=aq H
   refine WL.grun 3 4 true 46 tk sg0 rfl rfl rfl rfl ⟨(av g13),tv⟩ ?_
   obtain ⟨g14,H⟩:=aq H
   refine WL.gyv (LJ.Y.idxElpA 256 (fun k=> .int .u8 (aG.getD k default)) (bf a0 s10.toNat) (by kernel_rfl) rfl rfl rfl iM (av g14)) rfl rfl rfl rfl rfl rfl (WL.grun 2 4 true 46 tk sg0 rfl rfl rfl rfl tv (WL.pickT rfl rfl rfl rfl rfl rfl (NQ (Wd rfl H (fun H=>?_) (fun H=>?_)))))
   ·refine Wk (Qn (Wb (Wg (R 3 rfl (Wn (Qb (Qn ?_)))))))
    exact ⟨⟨(k11,IntKind.i64.wrap (s10+1)),H⟩,Z,Lm p4 p1⟩
   refine WC.exit (Qx (Qx (Qh (Qn ?_))))
   exact ⟨s10,H,Lw q4 p1⟩
  ·replace H:=of_f H h12
   refine WL.gskips 6 4 true 46 rfl rfl rfl rfl (WL.pickF rfl rfl rfl rfl rfl rfl (NQ (Wc rfl (fun h=>absurd h (by decide)) (fun h=>?_))))
   refine WC.exit (Qx (Qx (Qh (Qn ?_))))
   exact ⟨s10,H,Lw q4 p1⟩
 ·rintro E m ⟨s9,H,hl⟩
  refine WC.lessW hl ?_
  replace H:=(hK8 _).symm.trans H
  try dsimp only at H
  refine G (R 2 rfl (NQ ?_))
  obtain ⟨K16,hK16,H⟩:=du H
  refine WC.cut (fun E m=>∃ s17:Int×Int×(List ByteArray),K16 s17=some r∧gu E m [(0, .d (.str a0)),(9, .own 141),(10, .d (.int .i64 s17.1)),(11, .d (.int .i64 s17.2.1))] [(141, .row 9 1 (s17.2.2.map bJ))]) ?_ ?_
  ·refine Wb (Wl (ι:= {x:Nat×(Int×Int×Int×(List ByteArray)) //cv a0 K16 x.1 x.2=some r}) (fun x=>[(0, .d (.str a0)),(9, .own 141),(10, .d (.int .i64 x.1.2.1)),(11, .d (.int .i64 x.1.2.2.1)),(12, .d (.int .i64 x.1.2.2.2.1))]) (fun x=>[(141, .row 9 1 (x.1.2.2.2.2.map bJ))]) (fun x=>x.1.1) ⟨(fuel,(0,s9,s9,List.replicate s1.1.toNat (ByteArray.empty:ByteArray))),H⟩ (Lm p5 p1) fun x=>?_)
   obtain ⟨⟨k19,s18⟩,H⟩:=x
   rcases k19 with _ | k19
   ·exact aO H
   rw [cv] at H
   refine Ws (G (R 4 rfl (NQ (Wd rfl H (fun H=>?_) (fun H=>?_)))))
   ·refine Wk (Qn (Wb (Ws (G ?_))))
    obtain ⟨g21,H⟩:=aq H
    refine RS 3 rfl ⟨(av g21),tv⟩ ?_
    obtain ⟨g22,H⟩:=aq H
    refine WL.yv (LJ.Y.idxElpA 256 (fun k=> .int .u8 (aG.getD k default)) (bf a0 s18.2.2.1.toNat) (by kernel_rfl) rfl rfl rfl iM (av g22)) rfl rfl rfl (R 2 rfl (NQ (Wd rfl H (fun H=>?_) (fun H=>?_))))
    ·refine G (R 3 rfl (NQ (WC.exit (Qx (Qh (Qn ?_))))))
     exact ⟨⟨(k19,(s18.1,s18.2.1,IntKind.i64.wrap (s18.2.2.1+1),s18.2.2.2)),H⟩,Z,Lm p5 p1⟩
    refine Wk (Qn (G ?_))
    obtain ⟨g24,H⟩:=aq H
    refine RS 6 rfl ⟨(lp g24),tv⟩ ?_
    obtain ⟨g25,H⟩:=aq H
    refine WL.yv (LJ.Y.idxRel bJ s18.2.2.2 s18.1 tk rfl rfl rfl rfl rfl (av g25)) rfl rfl rfl (WL.storeRel bJ s18.2.2.2 s18.1 0 (a0.extract s18.2.1.toNat s18.2.2.1.toNat) (.str (a0.extract s18.2.1.toNat s18.2.2.1.toNat)) rfl rfl rfl rfl (fun _=>rfl) rfl (by kernel_rfl) rfl rfl (by first | exact av g25 | (have:=av g25;simpa only [List.length_set,List.length_map] using this)) rfl rfl rfl rfl ?_)
    refine N (R 3 rfl (N (R 3 rfl (NQ ?_))))
    obtain ⟨K26,hK26,H⟩:=du H
    refine WC.cut (fun E m=>∃ s27:Int,K26 s27=some r∧gu E m [(0, .d (.str a0)),(9, .own 141),(10, .d (.int .i64 (IntKind.i64.wrap (s18.1+1)))),(12, .d (.int .i64 s27))] [(141, .row 9 1 ((s18.2.2.2.set s18.1.toNat (a0.extract s18.2.1.toNat s18.2.2.1.toNat)).map bJ))]) ?_ ?_
    ·refine Wb (Wl (ι:= {x:Nat×Int //da a0 K26 x.1 x.2=some r}) (fun x=>[(0, .d (.str a0)),(9, .own 141),(10, .d (.int .i64 (IntKind.i64.wrap (s18.1+1)))),(12, .d (.int .i64 x.1.2))]) (fun x=>[(141, .row 9 1 ((s18.2.2.2.set s18.1.toNat (a0.extract s18.2.1.toNat s18.2.2.1.toNat)).map bJ))]) (fun x=>x.1.1) ⟨(fuel,IntKind.i64.wrap (s18.2.2.1+1)),H⟩ (Lm p4 p1) fun x=>?_)
     obtain ⟨⟨k29,s28⟩,H⟩:=x
     rcases k29 with _ | k29
     ·exact aO H
     rw [da] at H
     refine Ws (G (R 5 rfl (WL.split (g:=84) rfl (fun h30=>?_) (fun h30=>?_))))
     ·replace H:=of_t H h30
      obtain ⟨g31,H⟩:=aq H
      refine WL.grun 3 4 true 84 tk sg0 rfl rfl rfl rfl ⟨(av g31),tv⟩ ?_
      obtain ⟨g32,H⟩:=aq H
      refine WL.gyv (LJ.Y.idxElpA 256 (fun k=> .int .u8 (aG.getD k default)) (bf a0 s28.toNat) (by kernel_rfl) rfl rfl rfl iM (av g32)) rfl rfl rfl rfl rfl rfl (WL.grun 2 4 true 84 tk sg0 rfl rfl rfl rfl tv (WL.pickT rfl rfl rfl rfl rfl rfl (NQ (Wd rfl H (fun H=>?_) (fun H=>?_)))))
      ·refine Wk (Qn (Wb (Wg (R 3 rfl (Wn (Qb (Qn ?_)))))))
       exact ⟨⟨(k29,IntKind.i64.wrap (s28+1)),H⟩,Z,Lm p4 p1⟩
      refine WC.exit (Qx (Qx (Qh (Qn ?_))))
      exact ⟨s28,H,Lw q4 p1⟩
     ·replace H:=of_f H h30
      refine WL.gskips 6 4 true 84 rfl rfl rfl rfl (WL.pickF rfl rfl rfl rfl rfl rfl (NQ (Wc rfl (fun h=>absurd h (by decide)) (fun h=>?_))))
      refine WC.exit (Qx (Qx (Qh (Qn ?_))))
      exact ⟨s28,H,Lw q4 p1⟩
    ·rintro E m ⟨s27,H,hl⟩
     refine WC.lessW hl ?_
     replace H:=(hK26 _).symm.trans H
     try dsimp only at H
     refine Wg (R 2 rfl (Wn (Qb (Qn ?_))))
     exact ⟨⟨(k19,(IntKind.i64.wrap (s18.1+1),s27,s27,s18.2.2.2.set s18.1.toNat (a0.extract s18.2.1.toNat s18.2.2.1.toNat))),H⟩,Z,Lm p5 p1⟩
   refine WC.exit (Qx (Qx (Qh (Qn ?_))))
   exact ⟨(s18.1,s18.2.1,s18.2.2.2),H,Lw q4 p1⟩
  ·rintro E m ⟨s17,H,hl⟩
   refine WC.lessW hl ?_
   replace H:=(hK16 _).symm.trans H
   try dsimp only at H
   refine Ws (G (R 4 rfl (NQ (Wd rfl H (fun H=>?_) (fun H=>?_)))))
   ·refine Wg ?_
    obtain ⟨g35,H⟩:=aq H
    refine RS 5 rfl ⟨(ll g35),tv⟩ ?_
    obtain ⟨g36,H⟩:=aq H
    refine WL.yv (LJ.Y.idxRel bJ s17.2.2 s17.1 tk rfl rfl rfl rfl rfl (av g36)) rfl rfl rfl (WL.storeRel bJ s17.2.2 s17.1 0 (a0.extract s17.2.1.toNat a0.size) (.str (a0.extract s17.2.1.toNat a0.size)) rfl rfl rfl rfl (fun _=>rfl) rfl (by kernel_rfl) rfl rfl (by first | exact av g36 | (have:=av g36;simpa only [List.length_set,List.length_map] using this)) rfl rfl rfl rfl ?_)
    refine N (R 2 rfl (NQ (WC.freezeT 141 bJ (s17.2.2.set s17.1.toNat (a0.extract s17.2.1.toNat a0.size)) rfl rfl rfl rfl (Wt ?_))))
    cases H
    exact Ea rfl rfl rfl tv
   refine Wk (Qn (G (R 2 rfl (NQ (WC.freezeT 141 bJ s17.2.2 rfl rfl rfl rfl (Wt ?_))))))
   cases H
   exact Ea rfl rfl rfl tv
theorem eJ:aE Tryz.prog 70 Tryz.f70:=⟨Tryz.func70,rfl,by kernel_rfl⟩
theorem pC (a0:Int) {r:ByteArray} (H:jJ a0=some r):LJ.Spec Tryz.prog 46 [.d (.int .i64 a0)] [] (.d (.str r)) []:=by
 refine LJ.Spec.code Tryz.func46 rfl 10 rfl rfl [] rfl fun w0 F0 S0 B0=>?_
 unfold jJ at H
 refine G (R 1 rfl (NS (G (R 1 rfl ?_))))
 obtain ⟨x1,hx1,H⟩:=ar H
 refine Cl [] (nb _ hx1) nc rfl tv rfl (R 1 rfl (NQ (Wd rfl H (fun H=>?_) (fun H=>?_))))
 ·refine G (R 1 rfl (NQ (Wt (QT.r ?_))))
  cases H
  exact Ea rfl rfl rfl tv
 refine Wk (Qn (G ?_))
 obtain ⟨x3,hx3,H⟩:=ar H
 refine Cl [] (eI _ hx3) eJ rfl tv rfl ?_
 obtain ⟨g4,H⟩:=aq H
 refine RS 4 rfl ⟨⟨(av g4).1,(av g4).2,rfl⟩,tv⟩ (NQ (Wt ?_))
 cases H
 exact Ea rfl rfl rfl tv
theorem pD:aE Tryz.prog 46 Tryz.f46:=⟨Tryz.func46,rfl,by kernel_rfl⟩
theorem gQ (a0:Int) {r:ByteArray} (H:iu a0=some r):LJ.Spec Tryz.prog 47 [.d (.int .i64 a0)] [] (.d (.str r)) []:=by
 refine LJ.Spec.code Tryz.func47 rfl 14 rfl rfl [] rfl fun w0 F0 S0 B0=>?_
 unfold iu at H
 refine G (R 1 rfl (NS (G (R 1 rfl ?_))))
 obtain ⟨x1,hx1,H⟩:=ar H
 refine Cl [] (nb _ hx1) nc rfl tv rfl (R 1 rfl (NQ (Wd rfl H (fun H=>?_) (fun H=>?_))))
 ·refine G (R 1 rfl (NQ (Wt (QT.r ?_))))
  cases H
  exact Ea rfl rfl rfl tv
 refine Wk (Qn (G ?_))
 obtain ⟨x3,hx3,H⟩:=ar H
 refine Cl [] (eI _ hx3) eJ rfl tv rfl ?_
 obtain ⟨g4,H⟩:=aq H
 refine RS 4 rfl ⟨⟨(av g4).1,(av g4).2,rfl⟩,tv⟩ (NS (G (R 2 rfl (NQ (Wd rfl H (fun H=>?_) (fun H=>?_))))))
 ·refine G (R 1 rfl (NQ (Wt (QT.r ?_))))
  cases H
  exact Ea rfl rfl rfl tv
 refine Wk (Qn (G (R 2 rfl (NQ (Wt ?_)))))
 cases H
 exact Ea rfl rfl rfl tv
theorem gR:aE Tryz.prog 47 Tryz.f47:=⟨Tryz.func47,rfl,by kernel_rfl⟩
theorem vt (a0:Int) (a1:Int) {r:Bool} (H:oV a0 a1=some r):LJ.Spec Tryz.prog 48 [.d (.int .u8 a0), .d (.int .i64 a1)] [] (.d (.bool r)) []:=by
 refine LJ.Spec.code Tryz.func48 rfl 56 rfl rfl [] rfl fun w0 F0 S0 B0=>?_
 unfold oV at H
 refine G (R 1 rfl (NS (G (R 1 rfl (NQ (Wb (G (R 2 rfl (NQ (Wd rfl H (fun H=>?_) (fun H=>?_)))))))))))
 ·refine G (R 1 rfl ?_)
  obtain ⟨x2,hx2,H⟩:=ar H
  refine Cl [] (lP _ hx2) lQ rfl tv rfl (R 1 rfl (NQ (Wt (QB.r (QT.r ?_)))))
  cases H
  exact Ea rfl rfl rfl tv
 refine G (R 2 rfl (NQ (Wd rfl H (fun H=>?_) (fun H=>?_))))
 ·refine G (R 3 rfl (Wx 2 2 true tk sg0 rfl rfl (fun _=>tv) (RS 2 rfl ⟨by first | exact id | exact fun h=>by rw [h];rfl | simp_all,tv⟩ (NQ (Wt (QB.r (QT.r ?_)))))))
  cases H
  exact Ea rfl rfl rfl tv
 refine G (R 2 rfl (NQ (Wd rfl H (fun H=>?_) (fun H=>?_))))
 ·refine G (R 3 rfl (Wx 2 2 true tk sg0 rfl rfl (fun _=>tv) (RS 2 rfl ⟨by first | exact id | exact fun h=>by rw [h];rfl | simp_all,tv⟩ (NQ (Wt (QB.r (QT.r ?_)))))))
  cases H
  exact Ea rfl rfl rfl tv
 refine G (R 2 rfl (NQ (Wd rfl H (fun H=>?_) (fun H=>?_))))
 ·refine G (R 3 rfl (Wx 2 2 true tk sg0 rfl rfl (fun _=>tv) (RS 2 rfl ⟨by first | exact id | exact fun h=>by rw [h];rfl | simp_all,tv⟩ (NQ (Wt (QB.r (QT.r ?_)))))))
  cases H
  exact Ea rfl rfl rfl tv
 refine G (R 2 rfl (NQ (Wd rfl H (fun H=>?_) (fun H=>?_))))
 ·refine G (R 3 rfl (Wx 2 2 true tk sg0 rfl rfl (fun _=>tv) (RS 2 rfl ⟨by first | exact id | exact fun h=>by rw [h];rfl | simp_all,tv⟩ (NQ (Wt (QB.r (QT.r ?_)))))))
  cases H
  exact Ea rfl rfl rfl tv
 refine G (R 2 rfl (NQ (Wd rfl H (fun H=>?_) (fun H=>?_))))
 ·refine G (R 3 rfl (Wx 2 2 true tk sg0 rfl rfl (fun _=>tv) (RS 2 rfl ⟨by first | exact id | exact fun h=>by rw [h];rfl | simp_all,tv⟩ (NQ (Wt (QB.r (QT.r ?_)))))))
  cases H
  exact Ea rfl rfl rfl tv
 refine Wk (Qb (Qn ?_))
 refine G (R 3 rfl (Wx 2 2 true tk sg0 rfl rfl (fun _=>tv) (RS 2 rfl ⟨by first | exact id | exact fun h=>by rw [h];rfl | simp_all,tv⟩ (NQ (Wt ?_)))))
 cases H
 exact Ea rfl rfl rfl tv
theorem vu:aE Tryz.prog 48 Tryz.f48:=⟨Tryz.func48,rfl,by kernel_rfl⟩
theorem lU (a0:ao) {r:Int} (H:fB a0=some r):LJ.Spec Tryz.prog 26 [.d (.agg [.int .i64 a0.Op, .int .i64 a0.A, .int .i64 a0.B])] [] (.d (.int .i64 r)) []:=by
 refine LJ.Spec.code Tryz.func26 rfl 54 rfl rfl [] rfl fun w0 F0 S0 B0=>?_
 unfold fB at H
 refine G (Ef 101 rfl (R 1 rfl (NS (G (R 2 rfl ?_)))))
 obtain ⟨x1,hx1,H⟩:=ar H
 refine Cl [] (pC _ hx1) pD rfl tv rfl (R 1 rfl (NQ (Wd rfl H (fun H=>?_) (fun H=>?_))))
 ·refine G (R 1 rfl (NQ (Wt (QT.r ?_))))
  cases H
  exact Ea rfl rfl rfl tv
 refine Wk (Qn (Ws ?_))
 obtain ⟨x3_2_1,hx3_2_1,H⟩:=ar H
 refine WC.heldF [(1, .ptr 101 0),(3, .d (.str x3_2_1)),(4, .ptr 104 0)] [(101, .box 28 [.d (.int .i64 a0.Op), .d (.int .i64 a0.A), .d (.int .i64 a0.B)]),(104, .box 89 [.d (.int .i64 a0.A), .d (.int .i64 a0.B)])] (sT 0 (sT 1 (sT 3 (sT 4 (sT 5 (sT 6 (sT 7 (fk (sf 2 (sf 8 (sT 9 (sf 10 sd)))) (sf 8 (sf 2 (sT 9 (sf 10 sd)))))))))))) [101] [101] rfl (by kernel_rfl) rfl (by kernel_rfl) rfl rfl (fun _ h=>h) rfl rfl rfl (fun FK NK wK K=>?_) ?_
 ·refine Hr 6 tk rfl rfl rfl rfl tv (WH.yv rfl (LJ.Y.buildArr 2 [.int .i64 0, .int .i64 0] [.int .i64 a0.A, .int .i64 a0.B] (by kernel_rfl) (by kernel_rfl) rfl rfl rfl) rfl rfl rfl (WH.fork ?_ ?_))
  ·exact WH.call [] rfl (gQ _ hx3_2_1) gR rfl rfl tv rfl rfl rfl rfl rfl (WH.allocZ 104 [.int .i64 0, .int .i64 0] rfl rfl (by kernel_rfl) rfl rfl rfl rfl rfl rfl (Hr 1 tk rfl rfl rfl rfl tv (He 0 tk ek rfl rfl rfl rfl tv rfl rfl (Hn rfl (Lw q3 p2)))))
  ·exact WH.allocZ 104 [.int .i64 0, .int .i64 0] rfl rfl (by kernel_rfl) rfl rfl rfl rfl rfl rfl (WH.call [] rfl (gQ _ hx3_2_1) gR rfl rfl tv rfl rfl rfl rfl rfl (Hr 1 tk rfl rfl rfl rfl tv (He 0 tk ek rfl rfl rfl rfl tv rfl rfl (Hn rfl (Lw q3 p2)))))
 ·refine Qn (Ws (G (R 3 rfl (NQ (Wb (Wl (ι:= {x:Nat×Int //bV a0 x3_2_1 x.1 x.2=some r}) (fun x=>[(1, .ptr 101 0),(3, .d (.str x3_2_1)),(4, .ptr 104 0),(21, .d (.int .i64 (x3_2_1.size:Int))),(22, .d (.int .i64 x.1.2))]) (fun x=>[(101, .box 28 [.d (.int .i64 a0.Op), .d (.int .i64 a0.A), .d (.int .i64 a0.B)]),(104, .box 89 [.d (.int .i64 a0.A), .d (.int .i64 a0.B)])]) (fun x=>x.1.1) ⟨(fuel,0),H⟩ (Lm p5 p2) fun x=>?_))))))
  obtain ⟨⟨k4,s3⟩,H⟩:=x
  rcases k4 with _ | k4
  ·exact aO H
  rw [bV] at H
  refine G (R 1 rfl (NS (Wd rfl H (fun H=>?_) (fun H=>?_))))
  ·refine Wk (Qn (Ws (Wb (G (R 2 rfl (NS (Hp (.one 0 true (.one 1 true (.one 2 true (.one 3 true (.one 4 true (.one 5 true (.one 6 false (.one 7 true .done)))))))) [101,104] [101,104] rfl (by kernel_rfl) rfl (by kernel_rfl) rfl rfl (fun _ h=>h) rfl rfl rfl (fun _ _ _ h=>h) fun FK NK wK K=>?_)))))))
   obtain ⟨g6,H⟩:=aq H
   refine Hr 4 tk rfl rfl rfl rfl ⟨(av g6),tv⟩ ?_
   obtain ⟨g7,H⟩:=aq H
   refine WH.yv rfl (LJ.Y.idxPtrA 2 s3 (by kernel_rfl) rfl rfl rfl (av g7)) rfl rfl rfl (WH.yv rfl (LJ.Y.loadPtrA 2 0 (fun k=> .int .i64 (([a0.A,a0.B]:List Int).getD k default)) s3 rfl rfl rfl (by kernel_rfl) rfl (av g7)) rfl rfl rfl ?_)
   obtain ⟨x8,hx8,H⟩:=ar H
   refine WH.call [] rfl (vt _ _ hx8) vu rfl rfl tv rfl rfl rfl rfl rfl (Hr 1 tk rfl rfl rfl rfl tv (WH.nil rfl (Qn (Wd rfl H (fun H=>?_) (fun H=>?_)))))
   ·refine G (R 1 rfl (NQ (Wt (QB.r (QT.r (QT.r (QB.r (QT.r ?_))))))))
    cases H
    exact Ea rfl rfl rfl tv
   refine Wk (Qb (Qn ?_))
   exact Wg (R 2 rfl (NQ (⟨⟨(k4,IntKind.i64.wrap (s3+1)),H⟩,Z,Lm p5 p2⟩)))
  refine WC.exit (Qx (Qx (Qh (Qn ?_))))
  refine Ws (G (R 3 rfl (Wx 5 2 true tk sg0 rfl rfl (fun _=>tv) (RS 1 rfl ⟨by first | exact id | exact fun h=>by rw [h];rfl | simp_all,tv⟩ (NQ (Wd rfl H (fun H=>?_) (fun H=>?_)))))))
  ·refine G (R 1 rfl (NQ (Wt (QT.r ?_))))
   cases H
   exact Ea rfl rfl rfl tv
  refine Wk (Qn (Ws (G (R 2 rfl ?_))))
  obtain ⟨g11,H⟩:=aq H
  refine WL.yv (LJ.Y.slicePsl 2 (x3_2_1.size:Int) ((2:Nat):Int) (by kernel_rfl) rfl rfl ⟨_,rfl⟩ rfl (lp g11)) rfl rfl rfl (WL.yv (LJ.Y.lenPsl tk rfl rfl rfl) rfl rfl rfl (R 1 rfl (NQ (Wb (Wl (ι:= {x:Nat×Int //bI a0 x3_2_1 x.1 x.2=some r}) (fun x=>[(45, .psl 104 (0+(x3_2_1.size:Int).toNat) (((2:Nat):Int) - (x3_2_1.size:Int)).toNat (2 - (x3_2_1.size:Int).toNat)),(46, .d (.int .i64 ((((2:Nat):Int) - (x3_2_1.size:Int)).toNat:Int))),(47, .d (.int .i64 x.1.2))]) (fun x=>[(104, .box 89 [.d (.int .i64 a0.A), .d (.int .i64 a0.B)])]) (fun x=>x.1.1) ⟨(fuel,0),H⟩ (Lm p3 p1) fun x=>?_)))))
  obtain ⟨⟨k13,s12⟩,H⟩:=x
  rcases k13 with _ | k13
  ·exact aO H
  rw [bI] at H
  refine G (R 1 rfl (NS (Wd rfl H (fun H=>?_) (fun H=>?_))))
  ·refine Wk (Qn (Ws (Wb (G ?_))))
   obtain ⟨g15,H⟩:=aq H
   obtain ⟨g16,H⟩:=aq H
   obtain ⟨g17,H⟩:=aq H
   refine WL.yv (LJ.Y.idxPsl (x3_2_1.size:Int) s12 0 tk rfl rfl rfl rfl (vC g15) (av g16)) rfl rfl rfl (WL.yv (LJ.Y.loadPtrA 2 0 (fun k=> .int .i64 (([a0.A,a0.B]:List Int).getD k default)) ((x3_2_1.size:Int)+s12) rfl rfl rfl (by kernel_rfl) rfl (av g17)) rfl rfl rfl (R 1 rfl (N (R 2 rfl (NQ (Wd rfl H (fun H=>?_) (fun H=>?_)))))))
   ·refine G (R 1 rfl (NQ (Wt (QB.r (QT.r (QT.r (QB.r (QT.r ?_))))))))
    cases H
    exact Ea rfl rfl rfl tv
   refine Wk (Qb (Qn ?_))
   exact Wg (R 2 rfl (NQ (⟨⟨(k13,IntKind.i64.wrap (s12+1)),H⟩,Z,Lm p3 p1⟩)))
  refine WC.exit (Qx (Qx (Qh (Qn ?_))))
  refine G (R 1 rfl (NQ (Wt ?_)))
  cases H
  exact Ea rfl rfl rfl tv
theorem lV:aE Tryz.prog 26 Tryz.f26:=⟨Tryz.func26,rfl,by kernel_rfl⟩
theorem lW (a0:al) {r:Int} (H:dM a0=some r):LJ.Spec Tryz.prog 39 [.d (.agg [.int .i64 a0.Args, .int .i64 a0.Locals,slT ay a0.Code])] [] (.d (.int .i64 r)) []:=by
 refine LJ.Spec.code Tryz.func39 rfl 45 rfl rfl [] rfl fun w0 F0 S0 B0=>?_
 unfold dM at H
 refine G (Ef 101 rfl (R 1 rfl (NS (Wb (G (R 4 rfl (Wx 5 3 false tk sg0 rfl rfl (fun _=>tv) (RS 2 rfl ⟨by first | exact id | exact fun h=>by rw [h];rfl | simp_all,tv⟩ (Wx 3 10 false tk sg0 rfl rfl (fun _=>tv) (RS 2 rfl ⟨by first | exact id | exact fun h=>by rw [h];rfl | simp_all,tv⟩ (NQ (Wd rfl H (fun H=>?_) (fun H=>?_)))))))))))))
 ·refine G (R 1 rfl (NQ (Wt (QB.r (QT.r ?_)))))
  cases H
  exact Ea rfl rfl rfl tv
 refine G (R 5 rfl (NQ (Wd rfl H (fun H=>?_) (fun H=>?_))))
 ·refine G (R 1 rfl (NQ (Wt (QB.r (QT.r ?_)))))
  cases H
  exact Ea rfl rfl rfl tv
 refine G (R 5 rfl (NQ (Wd rfl H (fun H=>?_) (fun H=>?_))))
 ·refine G (R 1 rfl (NQ (Wt (QB.r (QT.r ?_)))))
  cases H
  exact Ea rfl rfl rfl tv
 refine Wk (Qb (Qn ?_))
 refine Ws (G (R 4 rfl (NQ (Wb (Wl (ι:= {x:Nat×Int //bB a0 x.1 x.2=some r}) (fun x=>[(33, .d (slT ay a0.Code)),(34, .d (.int .i64 (a0.Code.length:Int))),(35, .d (.int .i64 x.1.2))]) (fun x=>[]) (fun x=>x.1.1) ⟨(fuel,0),H⟩ (Lm p3 tv) fun x=>?_)))))
 obtain ⟨⟨k5,s4⟩,H⟩:=x
 rcases k5 with _ | k5
 ·exact aO H
 rw [bB] at H
 refine G (R 1 rfl (NS (Wd rfl H (fun H=>?_) (fun H=>?_))))
 ·refine Wk (Qn (Ws (Wb (G ?_))))
  obtain ⟨g7,H⟩:=aq H
  refine RS 2 rfl ⟨⟨(av g7).1,(av g7).2,rfl⟩,tv⟩ (Wa 104 tk rfl rfl rfl (Ef 0 rfl (N (R 1 rfl ?_))))
  obtain ⟨x8,hx8,H⟩:=ar H
  refine Cl [] (lU _ hx8) lV rfl tv rfl (R 1 rfl (N (R 2 rfl (NQ (Wd rfl H (fun H=>?_) (fun H=>?_))))))
  ·refine G (R 2 rfl (NQ (Wt (QB.r (QT.r (QT.r (QB.r (QT.r ?_))))))))
   cases H
   exact Ea rfl rfl rfl tv
  refine Wk (Qb (Qn ?_))
  exact Wg (R 2 rfl (NQ (⟨⟨(k5,IntKind.i64.wrap (s4+1)),H⟩,Z,Lm p3 tv⟩)))
 refine WC.exit (Qx (Qx (Qh (Qn ?_))))
 refine G (R 1 rfl (NQ (Wt ?_)))
 cases H
 exact Ea rfl rfl rfl tv
theorem lX:aE Tryz.prog 39 Tryz.f39:=⟨Tryz.func39,rfl,by kernel_rfl⟩
theorem kl (a0:ab) {r:Int} (H:dD a0=some r):LJ.Spec Tryz.prog 19 [.d (.agg [slT ai a0.Decls,slT ae a0.Waits,slT ak a0.Funcs])] [] (.d (.int .i64 r)) []:=by
 refine LJ.Spec.code Tryz.func19 rfl 60 rfl rfl [] rfl fun w0 F0 S0 B0=>?_
 unfold dD at H
 refine G (Ef 101 rfl (R 1 rfl (NS (G (R 2 rfl ?_)))))
 obtain ⟨x1,hx1,H⟩:=ar H
 refine Cl [] (py _ hx1) pz rfl tv rfl (R 5 rfl (N (R 2 rfl (NQ (Wd rfl H (fun H=>?_) (fun H=>?_))))))
 ·refine G (R 2 rfl (NQ (Wt (QT.r ?_))))
  cases H
  exact Ea rfl rfl rfl tv
 refine Wk (Qn (Ws (G (R 4 rfl (NQ (Wd rfl H (fun H=>?_) (fun H=>?_)))))))
 ·refine G (R 1 rfl (NQ (Wt (QT.r ?_))))
  cases H
  exact Ea rfl rfl rfl tv
 refine Wk (Qn (Ws (G (R 4 rfl (NQ (Wb (Wl (ι:= {x:Nat×Int //cR a0 x.1 x.2=some r}) (fun x=>[(1, .ptr 101 0),(25, .d (slT ae a0.Waits)),(26, .d (.int .i64 (a0.Waits.length:Int))),(27, .d (.int .i64 x.1.2))]) (fun x=>[(101, .box 26 [.d (slT ai a0.Decls), .d (slT ae a0.Waits), .d (slT ak a0.Funcs)])]) (fun x=>x.1.1) ⟨(fuel,0),H⟩ (Lm p4 p1) fun x=>?_)))))))
 obtain ⟨⟨k5,s4⟩,H⟩:=x
 rcases k5 with _ | k5
 ·exact aO H
 rw [cR] at H
 refine G (R 1 rfl (NS (Wd rfl H (fun H=>?_) (fun H=>?_))))
 ·refine Wk (Qn (Ws (Wb (G ?_))))
  obtain ⟨g7,H⟩:=aq H
  refine RS 3 rfl ⟨⟨(av g7).1,(av g7).2,rfl⟩,tv⟩ (N (R 3 rfl ?_))
  obtain ⟨x8,hx8,H⟩:=ar H
  refine Cl [] (pA _ _ hx8) pB rfl tv rfl (R 1 rfl (N (R 2 rfl (NQ (Wd rfl H (fun H=>?_) (fun H=>?_))))))
  ·refine G (R 2 rfl (NQ (Wt (QB.r (QT.r (QT.r (QB.r (QT.r ?_))))))))
   cases H
   exact Ea rfl rfl rfl tv
  refine Wk (Qb (Qn ?_))
  exact Wg (R 2 rfl (NQ (⟨⟨(k5,IntKind.i64.wrap (s4+1)),H⟩,Z,Lm p4 p1⟩)))
 refine WC.exit (Qx (Qx (Qh (Qn ?_))))
 refine Ws (G (R 4 rfl (NQ (Wd rfl H (fun H=>?_) (fun H=>?_)))))
 ·refine G (R 1 rfl (NQ (Wt (QT.r ?_))))
  cases H
  exact Ea rfl rfl rfl tv
 refine Wk (Qn (Ws (G (R 4 rfl (NQ (Wd rfl H (fun H=>?_) (fun H=>?_)))))))
 ·refine G (R 1 rfl (NQ (Wt (QT.r ?_))))
  cases H
  exact Ea rfl rfl rfl tv
 refine Wk (Qn (Ws (G (R 4 rfl (NQ (Wb (Wl (ι:= {x:Nat×Int //cC a0 x.1 x.2=some r}) (fun x=>[(48, .d (slT ak a0.Funcs)),(49, .d (.int .i64 (a0.Funcs.length:Int))),(50, .d (.int .i64 x.1.2))]) (fun x=>[]) (fun x=>x.1.1) ⟨(fuel,0),H⟩ (Lm p3 tv) fun x=>?_)))))))
 obtain ⟨⟨k13,s12⟩,H⟩:=x
 rcases k13 with _ | k13
 ·exact aO H
 rw [cC] at H
 refine G (R 1 rfl (NS (Wd rfl H (fun H=>?_) (fun H=>?_))))
 ·refine Wk (Qn (Ws (Wb (G ?_))))
  obtain ⟨g15,H⟩:=aq H
  refine RS 2 rfl ⟨⟨(av g15).1,(av g15).2,rfl⟩,tv⟩ (Wa 109 tk rfl rfl rfl (Ef 0 rfl (N (R 1 rfl ?_))))
  obtain ⟨x16,hx16,H⟩:=ar H
  refine Cl [] (lW _ hx16) lX rfl tv rfl (R 1 rfl (N (R 2 rfl (NQ (Wd rfl H (fun H=>?_) (fun H=>?_))))))
  ·refine G (R 2 rfl (NQ (Wt (QB.r (QT.r (QT.r (QB.r (QT.r ?_))))))))
   cases H
   exact Ea rfl rfl rfl tv
  refine Wk (Qb (Qn ?_))
  exact Wg (R 2 rfl (NQ (⟨⟨(k13,IntKind.i64.wrap (s12+1)),H⟩,Z,Lm p3 tv⟩)))
 refine WC.exit (Qx (Qx (Qh (Qn ?_))))
 refine G (R 1 rfl (NQ (Wt ?_)))
 cases H
 exact Ea rfl rfl rfl tv
theorem km:aE Tryz.prog 19 Tryz.f19:=⟨Tryz.func19,rfl,by kernel_rfl⟩
end Go.Proofs.YtpnnkehkjfciiaaGreatDoor.W
