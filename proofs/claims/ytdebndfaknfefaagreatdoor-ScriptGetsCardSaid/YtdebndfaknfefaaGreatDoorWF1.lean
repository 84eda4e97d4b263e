/- Each Go function comes to what its plain function gives, where that gives something. -/
import Derived.Test.YtdebndfaknfefaaGreatDoorPF
import Derived.Test.YtdebndfaknfefaaGreatDoorSq
import Derived.Test.YtdebndfaknfefaaGreatDoorProg
import Derived.Test.YtdebndfaknfefaaGreatDoorXByt
import Derived.Test.YtdebndfaknfefaaGreatDoorXDef
import Derived.Test.YtdebndfaknfefaaGreatDoorXPan
import Derived.Test.YtdebndfaknfefaaGreatDoorXShelf
namespace Go.Proofs.YtdebndfaknfefaaGreatDoor.W
open Go Go.RowKit LJ
set_option linter.unusedVariables false
set_option linter.unusedSimpArgs false
set_option maxRecDepth 10000
def tt:List (Nat×TK):=[(1, .one),(2, .int .i64),(3, .int .i64),(4, .bool),(5, .int .u8),(9, .str),(20, .one),(21, .int .i32),(23, .struct 4 [(0,1,true),(1,1,true),(2,1,true),(3,1,true)] [.int .i64 0, .int .i64 0, .int .i64 0, .int .i64 0]),(24, .slice 93 3),(25, .slice 94 1),(26, .slice 98 3),(28, .struct 3 [(0,1,true),(1,1,true),(2,1,true)] [.nils, .nils, .nils]),(29, .slice 55 3),(31, .struct 8 [(0,4,false),(4,3,false),(7,1,true)] [.int .i64 0, .int .i64 0, .int .i64 0, .int .i64 0, .nils, .nils, .nils, .nils]),(34, .int .i64),(55, .struct 3 [(0,1,true),(1,1,true),(2,1,true)] [.int .i64 0, .int .i64 0, .int .i64 0]),(56, .ptr),(57, .slice 5 1),(59, .struct 1 [(0,1,true)] [.nils]),(60, .slice 3 1),(62, .int .u64),(68, .struct 2 [(0,1,true),(1,1,true)] [.int .i64 0, .int .i64 0]),(80, .ptr),(83, .struct 3 [(0,1,true),(1,1,true),(2,1,true)] [.str .empty, .int .i64 0, .int .i64 0]),(93, .struct 3 [(0,1,true),(1,1,true),(2,1,true)] [.int .i64 0, .int .i64 0, .int .i64 0]),(94, .slice 142 1),(96, .slice 100 3),(98, .struct 3 [(0,1,true),(1,1,true),(2,1,true)] [.int .i64 0, .int .i64 0, .nils]),(100, .struct 3 [(0,1,true),(1,1,true),(2,1,true)] [.int .i64 0, .int .i64 0, .int .i64 0]),(105, .int .u64),(107, .ptr),(109, .struct 2 [(0,1,true),(1,1,true)] [.nilp, .nils]),(112, .one),(131, .struct 3 [(0,1,true),(1,1,true),(2,1,true)] [.str .empty, .int .i64 0, .int .i64 0]),(142, .slice 159 3),(148, .slice 9 1),(152, .slice 4 1),(159, .struct 3 [(0,1,true),(1,1,true),(2,1,true)] [.int .i64 0, .int .i64 0, .int .i64 0]),(161, .arr 2 2 3 1),(162, .ptr),(169, .struct 1 [(0,1,true)] [.int .i64 0]),(171, .ptr),(173, .struct 1 [(0,1,true)] [.str .empty]),(185, .one),(189, .ptr),(191, .struct 8 [(0,3,false),(3,1,true),(4,1,true),(5,1,true),(6,1,true),(7,1,true)] [.nils, .nils, .nils, .nils, .nils, .nils, .int .i64 0, .int .i64 0]),(200, .slice 60 1),(203, .int .u64),(206, .arr 256 256 5 1),(208, .one),(222, .int .u32),(224, .ptr),(225, .slice 231 3),(226, .slice 234 3),(228, .struct 3 [(0,1,true),(1,1,true),(2,1,true)] [.nils, .nils, .int .i64 0]),(229, .int .u16),(231, .struct 3 [(0,1,true),(1,1,true),(2,1,true)] [.int .u16 0, .int .u16 0, .int .u16 0]),(234, .struct 3 [(0,1,true),(1,1,true),(2,1,true)] [.int .u32 0, .int .u32 0, .int .u32 0]),(236, .ptr),(237, .ptr)]
theorem tk:ttOK Tryz.prog tt=true:=by kernel_rfl
def et:List (Nat×Nat×Nat):=[(3,1,8),(4,1,1),(5,1,1),(9,1,16),(55,3,24),(60,1,24),(93,3,24),(94,1,24),(98,3,40),(100,3,24),(142,1,24),(159,3,24),(231,3,6),(234,3,12)]
theorem ek:etOK Tryz.prog et=true:=by kernel_rfl
theorem Es:zO Tryz.prog 5=true:=by kernel_rfl
def sg0:List (PSig Tryz.prog):=[]
def eg0:List (ESig Tryz.prog):=[]
abbrev sf (n:Nat) (s:Sch):Sch:= .one n false s
abbrev sT (n:Nat) (s:Sch):Sch:= .one n true s
abbrev sd:Sch:= .done
abbrev fk (a b:Sch):Sch:= .fork a b
theorem Z {n:Nat} :n<n+1:=Nat.lt_succ_self n
theorem Lm {E E':Env} {m m':Mem} (h1:zh E E') (h2:dI m m'):Less E m E' m':=Less.mk' h1 h2
theorem Lw {E E':Env} {m m':Mem} (h1:CR E E') (h2:dI m m'):iA E m E' m':=iA.mk' h1 h2
def Et (nt:Nat) (E:Env) (o:Oper):Option (Nat×List AV):=match o.guard,dstB nt o,i3 o with
  | none,true,some p=>(lZ E p.2).map fun a=>(p.1,a)
  | _,_,_=>none
def effX (P0 KN:List Nat) (nt n:Nat) (E:Env) (m:Mem) (o:Oper):ER:=match o.guard,dstB nt o with
  | none,true=>zH tt et eg0 P0 KN n E m o
  | _,_=>none
section
variable {c:Ctx} {ops:Array Oper} {Q Q':Exit→Env→Mem→Prop} {E E':Env} {m m':Mem} {l:List Oper} {o:Oper} {ψ:Prop}
theorem RS (n:Nat) (h:cond (mX c.ntmps (l.take n)) (mY (fun E op=>gOp tt sg0 E m op) (l.take n) E) none=some (ψ,E')) (hp:ψ) (hk:WL c Tryz.prog ops Q (l.drop n) E' m):WL c Tryz.prog ops Q l E m:=by
  cases hd:mX c.ntmps (l.take n) with
  | false=>rw [hd] at h;cases h
  | true=>rw [hd] at h;exact WL.run n tk sg0 h hd hp hk
theorem R (n:Nat) (h:cond (mX c.ntmps (l.take n)) (mY (fun E op=>gOp tt sg0 E m op) (l.take n) E) none=some (True,E')) (hk:WL c Tryz.prog ops Q (l.drop n) E' m):WL c Tryz.prog ops Q l E m:=RS n h trivial hk
theorem G {id:Nat} {k:List Oper} {y:Code} (h:WL c Tryz.prog k.toArray (pa (WC c Tryz.prog y Q) Q) k E m):WC c Tryz.prog (.seq (.region id k.toArray false) y) Q E m:=WC.seq (WC.region h)
theorem N {id:Nat} {k:List Oper} {y:Code} (h:WL c Tryz.prog k.toArray (pa (WC c Tryz.prog y Q) Q) k E m):WL c Tryz.prog ops (pa (WC c Tryz.prog (.seq (.region id k.toArray false) y) Q) Q') [] E m:=WL.nil (G h)
theorem NS {x y:Code} (h:WC c Tryz.prog x (pa (WC c Tryz.prog y Q) Q) E m):WL c Tryz.prog ops (pa (WC c Tryz.prog (.seq x y) Q) Q') [] E m:=WL.nil (WC.seq h)
theorem NQ {K:Env→Mem→Prop} (h:K E m):WL c Tryz.prog ops (pa K Q) [] E m:=WL.nil h
theorem Cl {f:Nat} {args:List AV} {m0 m1:Mem} {out:AV} {fn:Func} (fs:List Nat) (hS:LJ.Spec Tryz.prog f args m0 out m1) (hfn:aF Tryz.prog f fn) (ho:Et c.ntmps E o=some (f,args)) (hsub:dI m m0) (h:qj c.P0 c.KN fs E m m0 out m1 o.dst=some (E',m')) (hk:WL c Tryz.prog ops Q l E' m'):WL c Tryz.prog ops Q (o::l) E m:=by
  unfold Et at ho
  split at ho
  · rename_i p h1 h2 h3
    obtain ⟨a,h4,h5⟩:=Option.map_eq_some_iff.1 ho
    cases h5
    exact WL.call fs hS hfn h3 h4 hsub h h1 h2 hk
  · cases ho
theorem EF {φ:Option Prop} (n:Nat) (h:effX c.P0 c.KN c.ntmps n E m o=some (φ,E',m')) (hp:gw φ) (hk:WL c Tryz.prog ops Q l E' m'):WL c Tryz.prog ops Q (o::l) E m:=by
  unfold effX at h
  split at h
  · rename_i h1 h2
    exact WL.eff n tk ek eg0 h h1 h2 hp hk
  · cases h
theorem Wd {x:Nat} {C D:Code} {b:Bool} {α:Type} {X Y:Option α} {r:α} (hx:E.get x= .d (.bool b)) (H:cond b X Y=some r) (ht:X=some r→WC c Tryz.prog C Q E m) (hf:Y=some r→WC c Tryz.prog D Q E m):WC c Tryz.prog (.cond (.tmp x) C D) Q E m:=WC.cond hx (fun h=>ht (of_t H h)) (fun h=>hf (of_f H h))
theorem Ef (n:Nat) (h:effX c.P0 c.KN c.ntmps n E m o=some (none,E',m')) (hk:WL c Tryz.prog ops Q l E' m'):WL c Tryz.prog ops Q (o::l) E m:=EF n h trivial hk
end
theorem p1 {α0:Type} {a0:α0} :a0=a0∧True:=⟨rfl,trivial⟩
theorem q1 {a0:AV} :AVle a0 a0∧True:=⟨AVle.of rfl,trivial⟩
theorem p2 {α0 α1:Type} {a0:α0} {a1:α1} :a0=a0∧a1=a1∧True:=⟨rfl,rfl,trivial⟩
theorem q2 {a0 a1:AV} :AVle a0 a0∧AVle a1 a1∧True:=⟨AVle.of rfl,AVle.of rfl,trivial⟩
theorem p3 {α0 α1 α2:Type} {a0:α0} {a1:α1} {a2:α2} :a0=a0∧a1=a1∧a2=a2∧True:=⟨rfl,rfl,rfl,trivial⟩
theorem q3 {a0 a1 a2:AV} :AVle a0 a0∧AVle a1 a1∧AVle a2 a2∧True:=⟨AVle.of rfl,AVle.of rfl,AVle.of rfl,trivial⟩
theorem p4 {α0 α1 α2 α3:Type} {a0:α0} {a1:α1} {a2:α2} {a3:α3} :a0=a0∧a1=a1∧a2=a2∧a3=a3∧True:=⟨rfl,rfl,rfl,rfl,trivial⟩
theorem q4 {a0 a1 a2 a3:AV} :AVle a0 a0∧AVle a1 a1∧AVle a2 a2∧AVle a3 a3∧True:=⟨AVle.of rfl,AVle.of rfl,AVle.of rfl,AVle.of rfl,trivial⟩
theorem p5 {α0 α1 α2 α3 α4:Type} {a0:α0} {a1:α1} {a2:α2} {a3:α3} {a4:α4} :a0=a0∧a1=a1∧a2=a2∧a3=a3∧a4=a4∧True:=⟨rfl,rfl,rfl,rfl,rfl,trivial⟩
theorem q5 {a0 a1 a2 a3 a4:AV} :AVle a0 a0∧AVle a1 a1∧AVle a2 a2∧AVle a3 a3∧AVle a4 a4∧True:=⟨AVle.of rfl,AVle.of rfl,AVle.of rfl,AVle.of rfl,AVle.of rfl,trivial⟩
theorem p6 {α0 α1 α2 α3 α4 α5:Type} {a0:α0} {a1:α1} {a2:α2} {a3:α3} {a4:α4} {a5:α5} :a0=a0∧a1=a1∧a2=a2∧a3=a3∧a4=a4∧a5=a5∧True:=⟨rfl,rfl,rfl,rfl,rfl,rfl,trivial⟩
theorem q6 {a0 a1 a2 a3 a4 a5:AV} :AVle a0 a0∧AVle a1 a1∧AVle a2 a2∧AVle a3 a3∧AVle a4 a4∧AVle a5 a5∧True:=⟨AVle.of rfl,AVle.of rfl,AVle.of rfl,AVle.of rfl,AVle.of rfl,AVle.of rfl,trivial⟩
theorem p7 {α0 α1 α2 α3 α4 α5 α6:Type} {a0:α0} {a1:α1} {a2:α2} {a3:α3} {a4:α4} {a5:α5} {a6:α6} :a0=a0∧a1=a1∧a2=a2∧a3=a3∧a4=a4∧a5=a5∧a6=a6∧True:=⟨rfl,rfl,rfl,rfl,rfl,rfl,rfl,trivial⟩
theorem q7 {a0 a1 a2 a3 a4 a5 a6:AV} :AVle a0 a0∧AVle a1 a1∧AVle a2 a2∧AVle a3 a3∧AVle a4 a4∧AVle a5 a5∧AVle a6 a6∧True:=⟨AVle.of rfl,AVle.of rfl,AVle.of rfl,AVle.of rfl,AVle.of rfl,AVle.of rfl,AVle.of rfl,trivial⟩
theorem p8 {α0 α1 α2 α3 α4 α5 α6 α7:Type} {a0:α0} {a1:α1} {a2:α2} {a3:α3} {a4:α4} {a5:α5} {a6:α6} {a7:α7} :a0=a0∧a1=a1∧a2=a2∧a3=a3∧a4=a4∧a5=a5∧a6=a6∧a7=a7∧True:=⟨rfl,rfl,rfl,rfl,rfl,rfl,rfl,rfl,trivial⟩
theorem q8 {a0 a1 a2 a3 a4 a5 a6 a7:AV} :AVle a0 a0∧AVle a1 a1∧AVle a2 a2∧AVle a3 a3∧AVle a4 a4∧AVle a5 a5∧AVle a6 a6∧AVle a7 a7∧True:=⟨AVle.of rfl,AVle.of rfl,AVle.of rfl,AVle.of rfl,AVle.of rfl,AVle.of rfl,AVle.of rfl,AVle.of rfl,trivial⟩
theorem p9 {α0 α1 α2 α3 α4 α5 α6 α7 α8:Type} {a0:α0} {a1:α1} {a2:α2} {a3:α3} {a4:α4} {a5:α5} {a6:α6} {a7:α7} {a8:α8} :a0=a0∧a1=a1∧a2=a2∧a3=a3∧a4=a4∧a5=a5∧a6=a6∧a7=a7∧a8=a8∧True:=⟨rfl,rfl,rfl,rfl,rfl,rfl,rfl,rfl,rfl,trivial⟩
theorem q9 {a0 a1 a2 a3 a4 a5 a6 a7 a8:AV} :AVle a0 a0∧AVle a1 a1∧AVle a2 a2∧AVle a3 a3∧AVle a4 a4∧AVle a5 a5∧AVle a6 a6∧AVle a7 a7∧AVle a8 a8∧True:=⟨AVle.of rfl,AVle.of rfl,AVle.of rfl,AVle.of rfl,AVle.of rfl,AVle.of rfl,AVle.of rfl,AVle.of rfl,AVle.of rfl,trivial⟩
theorem p10 {α0 α1 α2 α3 α4 α5 α6 α7 α8 α9:Type} {a0:α0} {a1:α1} {a2:α2} {a3:α3} {a4:α4} {a5:α5} {a6:α6} {a7:α7} {a8:α8} {a9:α9} :a0=a0∧a1=a1∧a2=a2∧a3=a3∧a4=a4∧a5=a5∧a6=a6∧a7=a7∧a8=a8∧a9=a9∧True:=⟨rfl,rfl,rfl,rfl,rfl,rfl,rfl,rfl,rfl,rfl,trivial⟩
theorem q10 {a0 a1 a2 a3 a4 a5 a6 a7 a8 a9:AV} :AVle a0 a0∧AVle a1 a1∧AVle a2 a2∧AVle a3 a3∧AVle a4 a4∧AVle a5 a5∧AVle a6 a6∧AVle a7 a7∧AVle a8 a8∧AVle a9 a9∧True:=⟨AVle.of rfl,AVle.of rfl,AVle.of rfl,AVle.of rfl,AVle.of rfl,AVle.of rfl,AVle.of rfl,AVle.of rfl,AVle.of rfl,AVle.of rfl,trivial⟩
theorem p11 {α0 α1 α2 α3 α4 α5 α6 α7 α8 α9 α10:Type} {a0:α0} {a1:α1} {a2:α2} {a3:α3} {a4:α4} {a5:α5} {a6:α6} {a7:α7} {a8:α8} {a9:α9} {a10:α10} :a0=a0∧a1=a1∧a2=a2∧a3=a3∧a4=a4∧a5=a5∧a6=a6∧a7=a7∧a8=a8∧a9=a9∧a10=a10∧True:=⟨rfl,rfl,rfl,rfl,rfl,rfl,rfl,rfl,rfl,rfl,rfl,trivial⟩
theorem q11 {a0 a1 a2 a3 a4 a5 a6 a7 a8 a9 a10:AV} :AVle a0 a0∧AVle a1 a1∧AVle a2 a2∧AVle a3 a3∧AVle a4 a4∧AVle a5 a5∧AVle a6 a6∧AVle a7 a7∧AVle a8 a8∧AVle a9 a9∧AVle a10 a10∧True:=⟨AVle.of rfl,AVle.of rfl,AVle.of rfl,AVle.of rfl,AVle.of rfl,AVle.of rfl,AVle.of rfl,AVle.of rfl,AVle.of rfl,AVle.of rfl,AVle.of rfl,trivial⟩
theorem p12 {α0 α1 α2 α3 α4 α5 α6 α7 α8 α9 α10 α11:Type} {a0:α0} {a1:α1} {a2:α2} {a3:α3} {a4:α4} {a5:α5} {a6:α6} {a7:α7} {a8:α8} {a9:α9} {a10:α10} {a11:α11} :a0=a0∧a1=a1∧a2=a2∧a3=a3∧a4=a4∧a5=a5∧a6=a6∧a7=a7∧a8=a8∧a9=a9∧a10=a10∧a11=a11∧True:=⟨rfl,rfl,rfl,rfl,rfl,rfl,rfl,rfl,rfl,rfl,rfl,rfl,trivial⟩
theorem q12 {a0 a1 a2 a3 a4 a5 a6 a7 a8 a9 a10 a11:AV} :AVle a0 a0∧AVle a1 a1∧AVle a2 a2∧AVle a3 a3∧AVle a4 a4∧AVle a5 a5∧AVle a6 a6∧AVle a7 a7∧AVle a8 a8∧AVle a9 a9∧AVle a10 a10∧AVle a11 a11∧True:=⟨AVle.of rfl,AVle.of rfl,AVle.of rfl,AVle.of rfl,AVle.of rfl,AVle.of rfl,AVle.of rfl,AVle.of rfl,AVle.of rfl,AVle.of rfl,AVle.of rfl,AVle.of rfl,trivial⟩
theorem p13 {α0 α1 α2 α3 α4 α5 α6 α7 α8 α9 α10 α11 α12:Type} {a0:α0} {a1:α1} {a2:α2} {a3:α3} {a4:α4} {a5:α5} {a6:α6} {a7:α7} {a8:α8} {a9:α9} {a10:α10} {a11:α11} {a12:α12} :a0=a0∧a1=a1∧a2=a2∧a3=a3∧a4=a4∧a5=a5∧a6=a6∧a7=a7∧a8=a8∧a9=a9∧a10=a10∧a11=a11∧a12=a12∧True:=⟨rfl,rfl,rfl,rfl,rfl,rfl,rfl,rfl,rfl,rfl,rfl,rfl,rfl,trivial⟩
theorem q13 {a0 a1 a2 a3 a4 a5 a6 a7 a8 a9 a10 a11 a12:AV} :AVle a0 a0∧AVle a1 a1∧AVle a2 a2∧AVle a3 a3∧AVle a4 a4∧AVle a5 a5∧AVle a6 a6∧AVle a7 a7∧AVle a8 a8∧AVle a9 a9∧AVle a10 a10∧AVle a11 a11∧AVle a12 a12∧True:=⟨AVle.of rfl,AVle.of rfl,AVle.of rfl,AVle.of rfl,AVle.of rfl,AVle.of rfl,AVle.of rfl,AVle.of rfl,AVle.of rfl,AVle.of rfl,AVle.of rfl,AVle.of rfl,AVle.of rfl,trivial⟩
theorem p14 {α0 α1 α2 α3 α4 α5 α6 α7 α8 α9 α10 α11 α12 α13:Type} {a0:α0} {a1:α1} {a2:α2} {a3:α3} {a4:α4} {a5:α5} {a6:α6} {a7:α7} {a8:α8} {a9:α9} {a10:α10} {a11:α11} {a12:α12} {a13:α13} :a0=a0∧a1=a1∧a2=a2∧a3=a3∧a4=a4∧a5=a5∧a6=a6∧a7=a7∧a8=a8∧a9=a9∧a10=a10∧a11=a11∧a12=a12∧a13=a13∧True:=⟨rfl,rfl,rfl,rfl,rfl,rfl,rfl,rfl,rfl,rfl,rfl,rfl,rfl,rfl,trivial⟩
theorem q14 {a0 a1 a2 a3 a4 a5 a6 a7 a8 a9 a10 a11 a12 a13:AV} :AVle a0 a0∧AVle a1 a1∧AVle a2 a2∧AVle a3 a3∧AVle a4 a4∧AVle a5 a5∧AVle a6 a6∧AVle a7 a7∧AVle a8 a8∧AVle a9 a9∧AVle a10 a10∧AVle a11 a11∧AVle a12 a12∧AVle a13 a13∧True:=⟨AVle.of rfl,AVle.of rfl,AVle.of rfl,AVle.of rfl,AVle.of rfl,AVle.of rfl,AVle.of rfl,AVle.of rfl,AVle.of rfl,AVle.of rfl,AVle.of rfl,AVle.of rfl,AVle.of rfl,AVle.of rfl,trivial⟩
theorem p15 {α0 α1 α2 α3 α4 α5 α6 α7 α8 α9 α10 α11 α12 α13 α14:Type} {a0:α0} {a1:α1} {a2:α2} {a3:α3} {a4:α4} {a5:α5} {a6:α6} {a7:α7} {a8:α8} {a9:α9} {a10:α10} {a11:α11} {a12:α12} {a13:α13} {a14:α14} :a0=a0∧a1=a1∧a2=a2∧a3=a3∧a4=a4∧a5=a5∧a6=a6∧a7=a7∧a8=a8∧a9=a9∧a10=a10∧a11=a11∧a12=a12∧a13=a13∧a14=a14∧True:=⟨rfl,rfl,rfl,rfl,rfl,rfl,rfl,rfl,rfl,rfl,rfl,rfl,rfl,rfl,rfl,trivial⟩
theorem q15 {a0 a1 a2 a3 a4 a5 a6 a7 a8 a9 a10 a11 a12 a13 a14:AV} :AVle a0 a0∧AVle a1 a1∧AVle a2 a2∧AVle a3 a3∧AVle a4 a4∧AVle a5 a5∧AVle a6 a6∧AVle a7 a7∧AVle a8 a8∧AVle a9 a9∧AVle a10 a10∧AVle a11 a11∧AVle a12 a12∧AVle a13 a13∧AVle a14 a14∧True:=⟨AVle.of rfl,AVle.of rfl,AVle.of rfl,AVle.of rfl,AVle.of rfl,AVle.of rfl,AVle.of rfl,AVle.of rfl,AVle.of rfl,AVle.of rfl,AVle.of rfl,AVle.of rfl,AVle.of rfl,AVle.of rfl,AVle.of rfl,trivial⟩
theorem p16 {α0 α1 α2 α3 α4 α5 α6 α7 α8 α9 α10 α11 α12 α13 α14 α15:Type} {a0:α0} {a1:α1} {a2:α2} {a3:α3} {a4:α4} {a5:α5} {a6:α6} {a7:α7} {a8:α8} {a9:α9} {a10:α10} {a11:α11} {a12:α12} {a13:α13} {a14:α14} {a15:α15} :a0=a0∧a1=a1∧a2=a2∧a3=a3∧a4=a4∧a5=a5∧a6=a6∧a7=a7∧a8=a8∧a9=a9∧a10=a10∧a11=a11∧a12=a12∧a13=a13∧a14=a14∧a15=a15∧True:=⟨rfl,rfl,rfl,rfl,rfl,rfl,rfl,rfl,rfl,rfl,rfl,rfl,rfl,rfl,rfl,rfl,trivial⟩
theorem q16 {a0 a1 a2 a3 a4 a5 a6 a7 a8 a9 a10 a11 a12 a13 a14 a15:AV} :AVle a0 a0∧AVle a1 a1∧AVle a2 a2∧AVle a3 a3∧AVle a4 a4∧AVle a5 a5∧AVle a6 a6∧AVle a7 a7∧AVle a8 a8∧AVle a9 a9∧AVle a10 a10∧AVle a11 a11∧AVle a12 a12∧AVle a13 a13∧AVle a14 a14∧AVle a15 a15∧True:=⟨AVle.of rfl,AVle.of rfl,AVle.of rfl,AVle.of rfl,AVle.of rfl,AVle.of rfl,AVle.of rfl,AVle.of rfl,AVle.of rfl,AVle.of rfl,AVle.of rfl,AVle.of rfl,AVle.of rfl,AVle.of rfl,AVle.of rfl,AVle.of rfl,trivial⟩
theorem rr (a0:aM) {r:Int} (H:gk a0=some r):LJ.Spec Tryz.prog 12 [.d (.agg [.int .i64 a0.Mode, .int .i64 a0.Workers, .int .i64 a0.Quantum, .int .i64 a0.Policy])] [] (.d (.int .i64 r)) []:=by
 refine LJ.Spec.code Tryz.func12 rfl 41 rfl rfl [] rfl fun w0 F0 S0 B0=>?_
 unfold gk at H
 refine G (Ef 101 rfl (R 1 rfl (NS (G (R 4 rfl (Wx 3 3 false tk sg0 rfl rfl (fun _=>tv) (RS 2 rfl ⟨by first | exact id | exact fun h=>by rw [h];rfl | simp_all,tv⟩ (Wx 3 8 false tk sg0 rfl rfl (fun _=>tv) (RS 2 rfl ⟨by first | exact id | exact fun h=>by rw [h];rfl | simp_all,tv⟩ (Wx 3 13 false tk sg0 rfl rfl (fun _=>tv) (RS 2 rfl ⟨by first | exact id | exact fun h=>by rw [h];rfl | simp_all,tv⟩ ?_)))))))))))
 refine Wx 3 18 false tk sg0 rfl rfl (fun _=>tv) (RS 2 rfl ⟨by first | exact id | exact fun h=>by rw [h];rfl | simp_all,tv⟩ (Wx 3 23 false tk sg0 rfl rfl (fun _=>tv) (RS 2 rfl ⟨by first | exact id | exact fun h=>by rw [h];rfl | simp_all,tv⟩ (Wx 3 28 false tk sg0 rfl rfl (fun _=>tv) (RS 2 rfl ⟨by first | exact id | exact fun h=>by rw [h];rfl | simp_all,tv⟩ (Wx 3 33 false tk sg0 rfl rfl (fun _=>tv) (RS 1 rfl ⟨by first | exact id | exact fun h=>by rw [h];rfl | simp_all,tv⟩ (NQ (Wd rfl H (fun H=>?_) (fun H=>?_))))))))))
 ·refine G (R 1 rfl (NQ (Wt (QT.r ?_))))
  cases H
  exact Ea rfl rfl rfl tv
 refine Wk (Qn (G (R 1 rfl (NQ (Wt ?_)))))
 cases H
 exact Ea rfl rfl rfl tv
theorem ry:aF Tryz.prog 12 Tryz.f12:=⟨Tryz.func12,rfl,by kernel_rfl⟩
theorem oT (a0:Int) {r:Bool} (H:jb a0=some r):LJ.Spec Tryz.prog 122 [.d (.int .i64 a0)] [] (.d (.bool r)) []:=by
 refine LJ.Spec.code Tryz.func122 rfl 9 rfl rfl [] rfl fun w0 F0 S0 B0=>?_
 unfold jb at H
 refine G (R 1 rfl (N (R 3 rfl (Wx 2 2 true tk sg0 rfl rfl (fun _=>tv) (RS 2 rfl ⟨by first | exact id | exact fun h=>by rw [h];rfl | simp_all,tv⟩ (NQ (Wt ?_)))))))
 cases H
 exact Ea rfl rfl rfl tv
theorem oU:aF Tryz.prog 122 Tryz.f122:=⟨Tryz.func122,rfl,by kernel_rfl⟩
theorem tn (a0:Int) {r:List Int} (H:hH a0=some r):LJ.Spec Tryz.prog 103 [.d (.int .u8 a0)] [] (.d (slT aA r)) []:=by
 refine LJ.Spec.code Tryz.func103 rfl 30 rfl rfl [] rfl fun w0 F0 S0 B0=>?_
 unfold hH at H
 refine G (R 1 rfl (N (R 1 rfl (N (Ef 106 rfl (WL.freezeT 106 aA ([1,2]:List Int) rfl rfl rfl rfl (Ef 107 rfl (WL.freezeT 107 aA ([3]:List Int) rfl rfl rfl rfl (Ef 108 rfl (WL.freezeT 108 aA ([6]:List Int) rfl rfl rfl rfl (Ef 109 rfl ?_)))))))))))
 refine WL.freezeT 109 aA ([4]:List Int) rfl rfl rfl rfl (Ef 110 rfl (WL.freezeT 110 aA ([1]:List Int) rfl rfl rfl rfl (Ef 111 rfl (WL.freezeT 111 aA ([5]:List Int) rfl rfl rfl rfl (Ef 112 rfl (WL.freezeT 112 aA ([7]:List Int) rfl rfl rfl rfl (Ef 113 rfl (WL.freezeT 113 aA ([1,6]:List Int) rfl rfl rfl rfl ?_))))))))
 refine Ef 114 rfl (WL.freezeT 114 rV ([([1,2]:List Int),([3]:List Int),([6]:List Int),([4]:List Int),([1]:List Int),([5]:List Int),([7]:List Int),([1,6]:List Int)]:List (List Int)) rfl rfl rfl rfl (R 1 rfl (NS (G (R 1 rfl (NQ (Wb (Wl (ι:= {x:Nat×Int //dr a0 x.1 x.2=some r}) (fun x=>[(0, .d (.int .u8 a0)),(3, .d (.str (⟨#[117,115,112,99,109,98,118,113]⟩:ByteArray))),(4, .d (slT rV ([([1,2]:List Int),([3]:List Int),([6]:List Int),([4]:List Int),([1]:List Int),([5]:List Int),([7]:List Int),([1,6]:List Int)]:List (List Int)))),(5, .d (.int .i64 x.1.2))]) (fun x=>[]) (fun x=>x.1.1) ⟨(fuel,0),H⟩ (Lm p4 tv) fun x=>?_))))))))
 obtain ⟨⟨k2,s1⟩,H⟩:=x
 rcases k2 with _ | k2
 ·exact aO H
 rw [dr] at H
 refine Ws (G (R 4 rfl (NQ (Wd rfl H (fun H=>?_) (fun H=>?_)))))
 ·refine Wk (Qn (Ws (Wb (G ?_))))
  obtain ⟨g4,H⟩:=ay H
  refine RS 5 rfl ⟨(al g4),tv⟩ (NQ (Wd rfl H (fun H=>?_) (fun H=>?_)))
  ·refine G ?_
   obtain ⟨g6,H⟩:=ay H
   refine RS 5 rfl ⟨⟨(al g6).1,(al g6).2,rfl⟩,tv⟩ (NQ (Wt (QB.r (QT.r (QT.r (QB.r (QT.r ?_)))))))
   cases H
   exact Ea rfl rfl rfl tv
  refine Wk (Qb (Qn ?_))
  exact Wg (R 3 rfl (NQ (⟨⟨(k2,IntKind.i64.wrap (s1+1)),H⟩,Z,Lm p4 tv⟩)))
 refine WC.exit (Qx (Qx (Qh (Qn ?_))))
 refine G (R 1 rfl (NQ (WC.nilT 2 aA rfl (Wt ?_))))
 cases H
 exact Ea rfl rfl rfl tv
theorem tq:aF Tryz.prog 103 Tryz.f103:=⟨Tryz.func103,rfl,by kernel_rfl⟩
theorem oV (a0:List ab) (a1:Int) (a2:Int) {r:Bool} (H:gl a0 a1 a2=some r):LJ.Spec Tryz.prog 80 [.d (slT ai a0), .d (.int .u8 a1), .d (.int .i64 a2)] [] (.d (.bool r)) []:=by
 refine LJ.Spec.code Tryz.func80 rfl 37 rfl rfl [] rfl fun w0 F0 S0 B0=>?_
 unfold gl at H
 refine G (R 1 rfl (N (R 1 rfl ?_)))
 obtain ⟨x1,hx1,H⟩:=an H
 refine Cl [] (tn _ hx1) tq rfl tv rfl (R 1 rfl (NS (G (R 1 rfl (NQ (Wb (Wl (ι:= {x:Nat×Int //cB a0 a2 x1 x.1 x.2=some r}) (fun x=>[(0, .d (slT ai a0)),(2, .d (.int .i64 a2)),(7, .d (slT aA x1)),(8, .d (.int .i64 x.1.2))]) (fun x=>[]) (fun x=>x.1.1) ⟨(fuel,0),H⟩ (Lm p4 tv) fun x=>?_)))))))
 obtain ⟨⟨k3,s2⟩,H⟩:=x
 rcases k3 with _ | k3
 ·exact aO H
 rw [cB] at H
 refine Ws (G (R 5 rfl (Wx 2 4 true tk sg0 rfl rfl (fun _=>tv) (RS 2 rfl ⟨by first | exact id | exact fun h=>by rw [h];rfl | simp_all,tv⟩ (Wx 4 8 true tk sg0 rfl rfl (fun _=>tv) (RS 1 rfl ⟨by first | exact id | exact fun h=>by rw [h];rfl | simp_all,tv⟩ (NQ (Wd rfl H (fun H=>?_) (fun H=>?_)))))))))
 ·refine Wk (Qn (Ws (Wb (Ws (Hp (.one 0 true (.one 1 true (.one 2 true (.one 3 true (.one 4 true (.one 5 true (.one 6 true (.one 7 true (.one 8 true (.one 9 true .done)))))))))) [] [] rfl (by kernel_rfl) rfl (by kernel_rfl) rfl rfl (fun _ h=>h) rfl rfl rfl (fun _ _ _ h=>h) fun FK NK wK K=>?_)))))
  obtain ⟨g5,H⟩:=ay H
  obtain ⟨g6,H⟩:=ay H
  refine Hr 10 tk rfl rfl rfl rfl ⟨⟨(al g5).1,(al g5).2,rfl⟩,⟨(al g6).1,(al g6).2,rfl⟩,tv⟩ (WH.nil rfl (Qn (Wd rfl H (fun H=>?_) (fun H=>?_))))
  ·refine G (R 1 rfl (NQ (Wt (QB.r (QT.r (QT.r (QB.r (QT.r ?_))))))))
   cases H
   exact Ea rfl rfl rfl tv
  refine Wk (Qb (Qn ?_))
  exact Wg (R 3 rfl (NQ (⟨⟨(k3,IntKind.i64.wrap (s2+1)),H⟩,Z,Lm p4 tv⟩)))
 refine WC.exit (Qx (Qx (Qh (Qn ?_))))
 refine G (R 1 rfl (NQ (Wt ?_)))
 cases H
 exact Ea rfl rfl rfl tv
theorem oW:aF Tryz.prog 80 Tryz.f80:=⟨Tryz.func80,rfl,by kernel_rfl⟩
theorem wz (a0:List ab) (a1:ab) {r:Int} (H:jj a0 a1=some r):LJ.Spec Tryz.prog 100 [.d (slT ai a0), .d (.agg [.int .i64 a1.Kind, .int .i64 a1.A, .int .i64 a1.B])] [] (.d (.int .i64 r)) []:=by
 refine LJ.Spec.code Tryz.func100 rfl 100 rfl rfl [] rfl fun w0 F0 S0 B0=>?_
 unfold jj at H
 refine G (Ef 103 rfl (R 1 rfl (NS (G (R 4 rfl (Wx 3 3 false tk sg0 rfl rfl (fun _=>tv) (RS 1 rfl ⟨by first | exact id | exact fun h=>by rw [h];rfl | simp_all,tv⟩ (NQ (Wd rfl H (fun H=>?_) (fun H=>?_))))))))))
 ·refine G (R 1 rfl (NQ (Wt (QT.r ?_))))
  cases H
  exact Ea rfl rfl rfl tv
 refine Wk (Qn (Ws (G (R 4 rfl (Wx 4 3 true tk sg0 rfl rfl (fun _=>tv) (Wx 3 7 false tk sg0 rfl rfl (fun _=>tv) (Wx 2 3 true tk sg0 rfl rfl (fun hb=>⟨by first | exact id | exact ⟨hb,fun h=>by rw [hb,h];rfl⟩ | exact ⟨hb,id⟩ | exact fun h=>by rw [hb,h];rfl | exact fun h=>by rw [h];rfl | simp_all,tv⟩) (Wx 3 12 false tk sg0 rfl rfl (fun _=>tv) (Wx 2 3 true tk sg0 rfl rfl (fun hb=>⟨by first | exact id | exact ⟨hb,fun h=>by rw [hb,h];rfl⟩ | exact ⟨hb,id⟩ | exact fun h=>by rw [hb,h];rfl | exact fun h=>by rw [h];rfl | simp_all,tv⟩) (Wx 5 17 false tk sg0 rfl rfl (fun _=>tv) (Wx 1 3 true tk sg0 rfl rfl (fun hb=>⟨by first | exact id | exact ⟨hb,fun h=>by rw [hb,h];rfl⟩ | exact ⟨hb,id⟩ | exact fun h=>by rw [hb,h];rfl | exact fun h=>by rw [h];rfl | simp_all,tv⟩) (RS 1 rfl ⟨by first | exact id | exact fun h=>by rw [h];rfl | simp_all,tv⟩ ?_))))))))))))
 refine NQ (Wd rfl H (fun H=>?_) (fun H=>?_))
 ·refine G (R 1 rfl (NQ (Wt (QT.r ?_))))
  cases H
  exact Ea rfl rfl rfl tv
 refine Wk (Qn (Ws (G (R 4 rfl (Wx 4 3 true tk sg0 rfl rfl (fun _=>tv) (Wx 3 7 false tk sg0 rfl rfl (fun _=>tv) (Wx 1 3 true tk sg0 rfl rfl (fun hb=>⟨by first | exact id | exact ⟨hb,fun h=>by rw [hb,h];rfl⟩ | exact ⟨hb,id⟩ | exact fun h=>by rw [hb,h];rfl | exact fun h=>by rw [h];rfl | simp_all,tv⟩) (RS 1 rfl ⟨by first | exact id | exact fun h=>by rw [h];rfl | simp_all,tv⟩ (NQ (Wd rfl H (fun H=>?_) (fun H=>?_)))))))))))
 ·refine G (R 1 rfl (NQ (Wt (QT.r ?_))))
  cases H
  exact Ea rfl rfl rfl tv
 refine Wk (Qn (Ws (G (R 4 rfl ?_))))
 obtain ⟨x4,hx4,H⟩:=an H
 refine Wx 5 3 true tk [PSig.at' oU ((iEq a1.Kind 7)=true) rfl (fun hb=>oT _ (of_t hx4 hb))] rfl rfl (fun hb=>⟨⟨hb,rfl⟩,tv⟩) ?_
 obtain ⟨x5,hx5,H⟩:=an H
 refine Wx 5 8 false tk [PSig.at' oW (((iEq a1.Kind 7)&& !(!x4))=true) rfl (fun hb=>oV _ _ _ (of_t hx5 hb))] rfl rfl (fun hb=>⟨⟨hb,rfl⟩,tv⟩) (Wx 1 3 true tk sg0 rfl rfl (fun hb=>⟨by first | exact id | exact ⟨hb,fun h=>by rw [hb,h];rfl⟩ | exact ⟨hb,id⟩ | exact fun h=>by rw [hb,h];rfl | exact fun h=>by rw [h];rfl | simp_all,tv⟩) (RS 1 rfl ⟨by first | exact id | exact fun h=>by rw [h];rfl | simp_all,tv⟩ (NQ (Wd rfl H (fun H=>?_) (fun H=>?_)))))
 ·refine G (R 1 rfl (NQ (Wt (QT.r ?_))))
  cases H
  exact Ea rfl rfl rfl tv
 refine Wk (Qn (Ws (G (R 4 rfl (Wx 3 3 true tk sg0 rfl rfl (fun _=>tv) (RS 2 rfl ⟨by first | exact id | exact fun h=>by rw [h];rfl | simp_all,tv⟩ (Wx 3 8 true tk sg0 rfl rfl (fun _=>tv) (RS 2 rfl ⟨by first | exact id | exact fun h=>by rw [h];rfl | simp_all,tv⟩ (Wx 4 13 false tk sg0 rfl rfl (fun _=>tv) (Wx 3 17 true tk sg0 rfl rfl (fun _=>tv) (Wx 2 13 false tk sg0 rfl rfl (fun hb=>⟨by first | exact id | exact ⟨hb,fun h=>by rw [hb,h];rfl⟩ | exact ⟨hb,id⟩ | exact fun h=>by rw [hb,h];rfl | exact fun h=>by rw [h];rfl | simp_all,tv⟩) (Wx 3 22 true tk sg0 rfl rfl (fun _=>tv) ?_))))))))))))
 refine Wx 2 13 false tk sg0 rfl rfl (fun hb=>⟨by first | exact id | exact ⟨hb,fun h=>by rw [hb,h];rfl⟩ | exact ⟨hb,id⟩ | exact fun h=>by rw [hb,h];rfl | exact fun h=>by rw [h];rfl | simp_all,tv⟩) (Wx 3 27 true tk sg0 rfl rfl (fun _=>tv) (Wx 1 13 false tk sg0 rfl rfl (fun hb=>⟨by first | exact id | exact ⟨hb,fun h=>by rw [hb,h];rfl⟩ | exact ⟨hb,id⟩ | exact fun h=>by rw [hb,h];rfl | exact fun h=>by rw [h];rfl | simp_all,tv⟩) (RS 1 rfl ⟨by first | exact id | exact fun h=>by rw [h];rfl | simp_all,tv⟩ (NQ (Wd rfl H (fun H=>?_) (fun H=>?_))))))
 ·refine G (R 1 rfl (NQ (Wt (QT.r ?_))))
  cases H
  exact Ea rfl rfl rfl tv
 refine Wk (Qn (G (R 1 rfl (NQ (Wt ?_)))))
 cases H
 exact Ea rfl rfl rfl tv
theorem wA:aF Tryz.prog 100 Tryz.f100:=⟨Tryz.func100,rfl,by kernel_rfl⟩
theorem nG (a0:List ab) {r:Int×Int} (H:ff a0=some r):LJ.Spec Tryz.prog 74 [.d (slT ai a0)] [] (.tup [.d (.int .i64 r.1), .d (.int .i64 r.2)]) []:=by
 refine LJ.Spec.code Tryz.func74 rfl 25 rfl rfl [] rfl fun w0 F0 S0 B0=>?_
 unfold ff at H
 refine G (R 2 rfl (NS (G (R 3 rfl (NQ (Wd rfl H (fun H=>?_) (fun H=>?_)))))))
 ·refine G (R 2 rfl (NQ (Wt (QT.r ?_))))
  cases H
  exact Ea rfl rfl rfl tv
 refine Wk (Qn (Ws (G (R 1 rfl (NQ (Wb (Wl (ι:= {x:Nat×Int //cz a0 x.1 x.2=some r}) (fun x=>[(0, .d (slT ai a0)),(4, .d (.int .i64 x.1.2))]) (fun x=>[]) (fun x=>x.1.1) ⟨(fuel,0),H⟩ (Lm p2 tv) fun x=>?_)))))))
 obtain ⟨⟨k3,s2⟩,H⟩:=x
 rcases k3 with _ | k3
 ·exact aO H
 rw [cz] at H
 refine Ws (G (R 4 rfl (NQ (Wd rfl H (fun H=>?_) (fun H=>?_)))))
 ·refine Wk (Qn (Ws (Wb (G ?_))))
  obtain ⟨g5,H⟩:=ay H
  refine RS 5 rfl ⟨⟨(al g5).1,(al g5).2,rfl⟩,tv⟩ ?_
  obtain ⟨x6,hx6,H⟩:=an H
  refine Cl [] (wz _ _ hx6) wA rfl tv rfl (R 1 rfl (N (R 2 rfl (NQ (Wd rfl H (fun H=>?_) (fun H=>?_))))))
  ·refine G (R 4 rfl (NQ (Wt (QB.r (QT.r (QT.r (QB.r (QT.r ?_))))))))
   cases H
   exact Ea rfl rfl rfl tv
  refine Wk (Qb (Qn ?_))
  exact Wg (R 3 rfl (NQ (⟨⟨(k3,IntKind.i64.wrap (s2+1)),H⟩,Z,Lm p2 tv⟩)))
 refine WC.exit (Qx (Qx (Qh (Qn ?_))))
 refine G (R 2 rfl (NQ (Wt ?_)))
 cases H
 exact Ea rfl rfl rfl tv
theorem nH:aF Tryz.prog 74 Tryz.f74:=⟨Tryz.func74,rfl,by kernel_rfl⟩
theorem wB (a0:List ab) (a1:af) {r:Int} (H:jk a0 a1=some r):LJ.Spec Tryz.prog 101 [.d (slT ai a0), .d (.agg [.int .i64 a1.Kind, .int .i64 a1.Obj, .int .i64 a1.N])] [] (.d (.int .i64 r)) []:=by
 refine LJ.Spec.code Tryz.func101 rfl 69 rfl rfl [] rfl fun w0 F0 S0 B0=>?_
 unfold jk at H
 refine G (Ef 103 rfl (R 1 rfl (NS (G (R 4 rfl (Wx 3 3 false tk sg0 rfl rfl (fun _=>tv) (RS 1 rfl ⟨by first | exact id | exact fun h=>by rw [h];rfl | simp_all,tv⟩ (NQ (Wd rfl H (fun H=>?_) (fun H=>?_))))))))))
 ·refine G (R 1 rfl (NQ (Wt (QT.r ?_))))
  cases H
  exact Ea rfl rfl rfl tv
 refine Wk (Qn (G (Ef 116 rfl (WL.freezeT 116 aA ([0,1,2,2,3,6]:List Int) rfl rfl rfl rfl (R 1 rfl (NS (Ws (Hp (.one 0 true (.one 1 true (.one 2 true (.one 3 true (.one 4 true (.one 5 true (.one 6 true (.one 7 true (.one 8 true (.one 9 true (.one 10 true (.one 11 true (.one 12 true (.one 13 true (.one 14 true (.one 15 true (.one 16 true (.one 17 true (.one 18 true (.one 19 true (.one 20 true (.one 21 true (.one 22 true (.one 23 true .done)))))))))))))))))))))))) [103] [103] rfl (by kernel_rfl) rfl (by kernel_rfl) rfl rfl (fun _ h=>h) rfl rfl rfl (fun _ _ _ h=>h) fun FK NK wK K=>(Hr 4 tk rfl rfl rfl rfl tv (WH.sect 5 3 false tk rfl rfl rfl rfl (fun _=>tv) (Hr 2 tk rfl rfl rfl rfl ⟨by first | exact id | exact fun h=>by rw [h];rfl | simp_all,tv⟩ ?_)))))))))))
 obtain ⟨g2,H⟩:=e9 H
 obtain ⟨g3,H⟩:=e9 H
 refine WH.sect 12 10 false tk rfl rfl rfl rfl (fun hb=>⟨⟨(al (g2 hb)).1,(al (g2 hb)).2,rfl⟩,⟨(al (g3 hb)).1,(al (g3 hb)).2,rfl⟩,tv⟩) (Hr 1 tk rfl rfl rfl rfl ⟨by first | exact id | exact fun h=>by rw [h];rfl | simp_all,tv⟩ (WH.nil rfl (Qn (Wd rfl H (fun H=>?_) (fun H=>?_)))))
 ·refine G (R 1 rfl (NQ (Wt (QT.r ?_))))
  cases H
  exact Ea rfl rfl rfl tv
 refine Wk (Qn (G (R 2 rfl (NS (G (R 3 rfl (NQ (Wd rfl H (fun H=>?_) (fun H=>?_)))))))))
 ·refine Hp (.one 0 true (.one 1 true (.one 2 true (.one 3 true (.one 4 true (.one 5 true (.one 6 true (.one 7 true .done)))))))) [103] [103] rfl (by kernel_rfl) rfl (by kernel_rfl) rfl rfl (fun _ h=>h) rfl rfl rfl (fun _ _ _ h=>h) fun FK NK wK K=>?_
  obtain ⟨g6,H⟩:=ay H
  refine Hr 8 tk rfl rfl rfl rfl ⟨⟨(al g6).1,(al g6).2,rfl⟩,tv⟩ (WH.nil rfl (Qn (Ws (G (R 3 rfl (NQ (Wd rfl H (fun H=>?_) (fun H=>?_))))))))
  ·refine Hp (.one 0 true (.one 1 true (.one 2 true (.one 3 true (.one 4 true (.one 5 true (.one 6 true (.one 7 true .done)))))))) [103] [103] rfl (by kernel_rfl) rfl (by kernel_rfl) rfl rfl (fun _ h=>h) rfl rfl rfl (fun _ _ _ h=>h) fun FK NK wK K=>?_
   obtain ⟨g8,H⟩:=ay H
   refine Hr 8 tk rfl rfl rfl rfl ⟨⟨(al g8).1,(al g8).2,rfl⟩,tv⟩ (WH.nil rfl (Qn (Ws (G (R 5 rfl (Wx 4 4 false tk sg0 rfl rfl (fun _=>tv) (RS 1 rfl ⟨by first | exact id | exact fun h=>by rw [h];rfl | simp_all,tv⟩ (NQ (Wd rfl H (fun H=>?_) (fun H=>?_))))))))))
   ·refine G (R 1 rfl (NQ (Wt (QT.r ?_))))
    cases H
    exact Ea rfl rfl rfl tv
   refine Wk (Qn (G (R 1 rfl (NQ (Wt ?_)))))
   cases H
   exact Ea rfl rfl rfl tv
  refine Wk (Qn (Ws (G (R 5 rfl (Wx 4 4 false tk sg0 rfl rfl (fun _=>tv) (RS 1 rfl ⟨by first | exact id | exact fun h=>by rw [h];rfl | simp_all,tv⟩ (NQ (Wd rfl H (fun H=>?_) (fun H=>?_)))))))))
  ·refine G (R 1 rfl (NQ (Wt (QT.r ?_))))
   cases H
   exact Ea rfl rfl rfl tv
  refine Wk (Qn (G (R 1 rfl (NQ (Wt ?_)))))
  cases H
  exact Ea rfl rfl rfl tv
 refine Wk (Qn (Ws (G (R 3 rfl (NQ (Wd rfl H (fun H=>?_) (fun H=>?_)))))))
 ·refine Hp (.one 0 true (.one 1 true (.one 2 true (.one 3 true (.one 4 true (.one 5 true (.one 6 true (.one 7 true .done)))))))) [103] [103] rfl (by kernel_rfl) rfl (by kernel_rfl) rfl rfl (fun _ h=>h) rfl rfl rfl (fun _ _ _ h=>h) fun FK NK wK K=>?_
  obtain ⟨g12,H⟩:=ay H
  refine Hr 8 tk rfl rfl rfl rfl ⟨⟨(al g12).1,(al g12).2,rfl⟩,tv⟩ (WH.nil rfl (Qn (Ws (G (R 5 rfl (Wx 4 4 false tk sg0 rfl rfl (fun _=>tv) (RS 1 rfl ⟨by first | exact id | exact fun h=>by rw [h];rfl | simp_all,tv⟩ (NQ (Wd rfl H (fun H=>?_) (fun H=>?_))))))))))
  ·refine G (R 1 rfl (NQ (Wt (QT.r ?_))))
   cases H
   exact Ea rfl rfl rfl tv
  refine Wk (Qn (G (R 1 rfl (NQ (Wt ?_)))))
  cases H
  exact Ea rfl rfl rfl tv
 refine Wk (Qn (Ws (G (R 5 rfl (Wx 4 4 false tk sg0 rfl rfl (fun _=>tv) (RS 1 rfl ⟨by first | exact id | exact fun h=>by rw [h];rfl | simp_all,tv⟩ (NQ (Wd rfl H (fun H=>?_) (fun H=>?_)))))))))
 ·refine G (R 1 rfl (NQ (Wt (QT.r ?_))))
  cases H
  exact Ea rfl rfl rfl tv
 refine Wk (Qn (G (R 1 rfl (NQ (Wt ?_)))))
 cases H
 exact Ea rfl rfl rfl tv
theorem wC:aF Tryz.prog 101 Tryz.f101:=⟨Tryz.func101,rfl,by kernel_rfl⟩
theorem nI (a0:List ab) (a1:List (List af)) {r:Int} (H:fg a0 a1=some r):LJ.Spec Tryz.prog 75 [.d (slT ai a0), .d (slT aG a1)] [] (.d (.int .i64 r)) []:=by
 refine LJ.Spec.code Tryz.func75 rfl 86 rfl rfl [] rfl fun w0 F0 S0 B0=>?_
 unfold fg at H
 refine G (R 1 rfl (NS (G (R 3 rfl (NQ (Wd rfl H (fun H=>?_) (fun H=>?_)))))))
 ·refine G (R 1 rfl (NQ (Wt (QT.r ?_))))
  cases H
  exact Ea rfl rfl rfl tv
 refine Wk (Qn (Ws (G (R 3 rfl (NQ (Wd rfl H (fun H=>?_) (fun H=>?_)))))))
 ·refine G (R 1 rfl (NQ (Wt (QT.r ?_))))
  cases H
  exact Ea rfl rfl rfl tv
 refine Wk (Qn (Ws (G (R 1 rfl (NQ (Wb (Wl (ι:= {x:Nat×Int //cb a0 a1 x.1 x.2=some r}) (fun x=>[(0, .d (slT ai a0)),(1, .d (slT aG a1)),(5, .d (.int .i64 x.1.2))]) (fun x=>[]) (fun x=>x.1.1) ⟨(fuel,0),H⟩ (Lm p3 tv) fun x=>?_)))))))
 obtain ⟨⟨k4,s3⟩,H⟩:=x
 rcases k4 with _ | k4
 ·exact aO H
 rw [cb] at H
 refine Ws (G (R 4 rfl (NQ (Wd rfl H (fun H=>?_) (fun H=>?_)))))
 ·refine Wk (Qn ?_)
  obtain ⟨K6,hK6,H⟩:=db H
  refine WC.cut (fun E m=>∃ s7:Unit,K6 s7=some r∧iA E m [(0, .d (slT ai a0)),(1, .d (slT aG a1)),(5, .d (.int .i64 s3))] []) ?_ ?_
  ·refine Wb (G ?_)
   obtain ⟨g8,H⟩:=ay H
   refine RS 5 rfl ⟨⟨(al g8).1,(al g8).2,rfl⟩,tv⟩ (NS (G (R 3 rfl (NQ (Wd rfl H (fun H=>?_) (fun H=>?_))))))
   ·refine G (R 1 rfl (NQ (Wt (QT.r (QB.r (QT.r (QT.r (QB.r (QT.r ?_)))))))))
    cases H
    exact Ea rfl rfl rfl tv
   refine Wk (Qn (Ws (G (R 3 rfl (NQ (Wd rfl H (fun H=>?_) (fun H=>?_)))))))
   ·refine G (R 1 rfl (NQ (Wt (QT.r (QB.r (QT.r (QT.r (QB.r (QT.r ?_)))))))))
    cases H
    exact Ea rfl rfl rfl tv
   refine Wk (Qn (Ws (G (R 1 rfl (NQ (Wb (Wl (ι:= {x:Nat×Int //ck a0 a1 s3 K6 x.1 x.2=some r}) (fun x=>[(0, .d (slT ai a0)),(1, .d (slT aG a1)),(5, .d (.int .i64 s3)),(6, .d (slT bE (a1.getD s3.toNat default))),(7, .d (.int .i64 x.1.2))]) (fun x=>[]) (fun x=>x.1.1) ⟨(fuel,0),H⟩ (Lm p5 tv) fun x=>?_)))))))
   obtain ⟨⟨k12,s11⟩,H⟩:=x
   rcases k12 with _ | k12
   ·exact aO H
   rw [ck] at H
   refine Ws (G (R 4 rfl (NQ (Wd rfl H (fun H=>?_) (fun H=>?_)))))
   ·refine Wk (Qn (Ws (Wb (G ?_))))
    obtain ⟨g14,H⟩:=ay H
    refine RS 5 rfl ⟨⟨(al g14).1,(al g14).2,rfl⟩,tv⟩ ?_
    obtain ⟨x15,hx15,H⟩:=an H
    refine Cl [] (wB _ _ hx15) wC rfl tv rfl (R 1 rfl (N (R 2 rfl (NQ (Wd rfl H (fun H=>?_) (fun H=>?_))))))
    ·refine G (R 2 rfl (NQ (Wt (QB.r (QT.r (QT.r (QB.r (QT.r (QB.r (QT.r (QT.r (QB.r (QT.r ?_)))))))))))))
     cases H
     exact Ea rfl rfl rfl tv
    refine Wk (Qb (Qn ?_))
    exact Wg (R 3 rfl (NQ (⟨⟨(k12,IntKind.i64.wrap (s11+1)),H⟩,Z,Lm p5 tv⟩)))
   refine WC.exit (Qx (Qx (Qh (Qn ?_))))
   refine G (R 1 rfl (NQ (Wb (Wl (ι:= {x:Nat×Int //bR a1 s3 K6 x.1 x.2=some r}) (fun x=>[(0, .d (slT ai a0)),(1, .d (slT aG a1)),(5, .d (.int .i64 s3)),(6, .d (slT bE (a1.getD s3.toNat default))),(9, .d (.int .i64 x.1.2))]) (fun x=>[]) (fun x=>x.1.1) ⟨(fuel,0),H⟩ (Lm p5 tv) fun x=>?_))))
   obtain ⟨⟨k18,s17⟩,H⟩:=x
   rcases k18 with _ | k18
   ·exact aO H
   rw [bR] at H
   refine Ws (G (R 4 rfl (NQ (Wd rfl H (fun H=>?_) (fun H=>?_)))))
   ·refine Wk (Qn ?_)
    obtain ⟨K20,hK20,H⟩:=db H
    refine WC.cut (fun E m=>∃ s21:Unit,K20 s21=some r∧iA E m [(0, .d (slT ai a0)),(1, .d (slT aG a1)),(5, .d (.int .i64 s3)),(6, .d (slT bE (a1.getD s3.toNat default))),(9, .d (.int .i64 s17))] []) ?_ ?_
    ·refine Wb (G (R 1 rfl (NQ (Wb (Wl (ι:= {x:Nat×Int //cj a1 s3 s17 K20 x.1 x.2=some r}) (fun x=>[(0, .d (slT ai a0)),(1, .d (slT aG a1)),(5, .d (.int .i64 s3)),(6, .d (slT bE (a1.getD s3.toNat default))),(9, .d (.int .i64 s17)),(10, .d (.int .i64 x.1.2))]) (fun x=>[]) (fun x=>x.1.1) ⟨(fuel,0),H⟩ (Lm p6 tv) fun x=>?_)))))
     obtain ⟨⟨k23,s22⟩,H⟩:=x
     rcases k23 with _ | k23
     ·exact aO H
     rw [cj] at H
     refine Ws (G (R 3 rfl (NQ (Wd rfl H (fun H=>?_) (fun H=>?_)))))
     ·refine Wk (Qn (Ws (Wb (Ws (Hp (.one 0 true (.one 1 true (.one 2 true (.one 3 true (.one 4 true (.one 5 true (.one 6 true (.one 7 true (.one 8 true (.one 9 true (.one 10 true (.one 11 true (.one 12 true (.one 13 true (.one 14 true (.one 15 true (.one 16 true (.one 17 true (.one 18 true (.one 19 true (.one 20 true (.one 21 true (.one 22 true (.one 23 true (.one 24 true (.one 25 true (.one 26 true .done))))))))))))))))))))))))))) [] [] rfl (by kernel_rfl) rfl (by kernel_rfl) rfl rfl (fun _ h=>h) rfl rfl rfl (fun _ _ _ h=>h) fun FK NK wK K=>?_)))))
      obtain ⟨g25,H⟩:=ay H
      obtain ⟨g26,H⟩:=ay H
      refine Hr 12 tk rfl rfl rfl rfl ⟨⟨(al g25).1,(al g25).2,rfl⟩,⟨(al g26).1,(al g26).2,rfl⟩,tv⟩ ?_
      obtain ⟨g27,H⟩:=e9 H
      refine WH.sect 6 11 false tk rfl rfl rfl rfl (fun hb=>⟨⟨(al (g27 hb)).1,(al (g27 hb)).2,rfl⟩,tv⟩) (Hr 2 tk rfl rfl rfl rfl ⟨by first | exact id | exact fun h=>by rw [h];rfl | simp_all,tv⟩ ?_)
      obtain ⟨g28,H⟩:=e9 H
      refine WH.sect 6 19 false tk rfl rfl rfl rfl (fun hb=>⟨⟨(al (g28 hb)).1,(al (g28 hb)).2,rfl⟩,tv⟩) (Hr 1 tk rfl rfl rfl rfl ⟨by first | exact id | exact fun h=>by rw [h];rfl | simp_all,tv⟩ (WH.nil rfl (Qn (Wd rfl H (fun H=>?_) (fun H=>?_)))))
      ·refine G (R 1 rfl (NQ (Wt (QB.r (QT.r (QT.r (QB.r (QB.r (QT.r (QT.r (QB.r (QB.r (QT.r (QT.r (QB.r (QT.r ?_))))))))))))))))
       cases H
       exact Ea rfl rfl rfl tv
      refine Wk (Qb (Qn ?_))
      exact Wg (R 3 rfl (NQ (⟨⟨(k23,IntKind.i64.wrap (s22+1)),H⟩,Z,Lm p6 tv⟩)))
     refine WC.exit (Qx (Qx (Qh (Qb (Qn ?_)))))
     exact ⟨Unit.unit,H,Lw q5 tv⟩
    ·rintro E m ⟨s21,H,hl⟩
     refine WC.lessW hl ?_
     replace H:=(hK20 _).symm.trans H
     try dsimp only at H
     exact Wg (R 3 rfl (NQ (⟨⟨(k18,IntKind.i64.wrap (s17+1)),H⟩,Z,Lm p5 tv⟩)))
   refine WC.exit (Qx (Qx (Qh (Qb (Qn ?_)))))
   exact ⟨Unit.unit,H,Lw q3 tv⟩
  ·rintro E m ⟨s7,H,hl⟩
   refine WC.lessW hl ?_
   replace H:=(hK6 _).symm.trans H
   try dsimp only at H
   exact Wg (R 3 rfl (NQ (⟨⟨(k4,IntKind.i64.wrap (s3+1)),H⟩,Z,Lm p3 tv⟩)))
 refine WC.exit (Qx (Qx (Qh (Qn ?_))))
 refine G (R 1 rfl (NQ (Wt ?_)))
 cases H
 exact Ea rfl rfl rfl tv
theorem nJ:aF Tryz.prog 75 Tryz.f75:=⟨Tryz.func75,rfl,by kernel_rfl⟩
theorem gH (a0:Int) {r:Bool} (H:dA a0=some r):LJ.Spec Tryz.prog 77 [.d (.int .i64 a0)] [] (.d (.bool r)) []:=by
 refine LJ.Spec.code Tryz.func77 rfl 9 rfl rfl [] rfl fun w0 F0 S0 B0=>?_
 unfold dA at H
 refine G (R 1 rfl (N (R 3 rfl (Wx 2 2 true tk sg0 rfl rfl (fun _=>tv) (RS 2 rfl ⟨by first | exact id | exact fun h=>by rw [h];rfl | simp_all,tv⟩ (NQ (Wt ?_)))))))
 cases H
 exact Ea rfl rfl rfl tv
theorem gJ:aF Tryz.prog 77 Tryz.f77:=⟨Tryz.func77,rfl,by kernel_rfl⟩
theorem tr {r:List ByteArray} (H:kB=some r):LJ.Spec Tryz.prog 78 [] [] (.d (slT fH r)) []:=by
 refine LJ.Spec.code Tryz.func78 rfl 2 rfl rfl [] rfl fun w0 F0 S0 B0=>?_
 unfold kB at H
 refine G (R 1 rfl (N (Ef 101 rfl (WL.freezeT 101 fH ([(⟨#[110]⟩:ByteArray),(⟨#[107]⟩:ByteArray),(⟨#[107]⟩:ByteArray),ByteArray.empty,ByteArray.empty,ByteArray.empty,ByteArray.empty,ByteArray.empty,ByteArray.empty,ByteArray.empty,ByteArray.empty,ByteArray.empty,ByteArray.empty,ByteArray.empty,ByteArray.empty,ByteArray.empty,ByteArray.empty,ByteArray.empty,(⟨#[116]⟩:ByteArray),(⟨#[116]⟩:ByteArray),(⟨#[102]⟩:ByteArray),ByteArray.empty,ByteArray.empty,ByteArray.empty,ByteArray.empty,ByteArray.empty,(⟨#[119]⟩:ByteArray),(⟨#[119]⟩:ByteArray),ByteArray.empty,(⟨#[117]⟩:ByteArray),(⟨#[115]⟩:ByteArray),(⟨#[112]⟩:ByteArray),(⟨#[99,109]⟩:ByteArray),(⟨#[99,109]⟩:ByteArray),(⟨#[99]⟩:ByteArray),(⟨#[99]⟩:ByteArray),(⟨#[98]⟩:ByteArray),(⟨#[98]⟩:ByteArray),(⟨#[98]⟩:ByteArray),(⟨#[98]⟩:ByteArray),(⟨#[102]⟩:ByteArray),(⟨#[106,106]⟩:ByteArray),(⟨#[106,106]⟩:ByteArray),ByteArray.empty,ByteArray.empty,(⟨#[118]⟩:ByteArray),(⟨#[118]⟩:ByteArray),ByteArray.empty,ByteArray.empty,(⟨#[113]⟩:ByteArray),(⟨#[109]⟩:ByteArray),(⟨#[109]⟩:ByteArray)]:List ByteArray) rfl rfl rfl rfl (R 1 rfl (NQ (Wt ?_)))))))
 cases H
 exact Ea rfl rfl rfl tv
theorem tu:aF Tryz.prog 78 Tryz.f78:=⟨Tryz.func78,rfl,by kernel_rfl⟩
theorem iK (a0:Int) {r:ByteArray} (H:gm a0=some r):LJ.Spec Tryz.prog 46 [.d (.int .i64 a0)] [] (.d (.str r)) []:=by
 refine LJ.Spec.code Tryz.func46 rfl 10 rfl rfl [] rfl fun w0 F0 S0 B0=>?_
 unfold gm at H
 refine G (R 1 rfl (NS (G (R 1 rfl ?_))))
 obtain ⟨x1,hx1,H⟩:=an H
 refine Cl [] (gH _ hx1) gJ rfl tv rfl (R 1 rfl (NQ (Wd rfl H (fun H=>?_) (fun H=>?_))))
 ·refine G (R 1 rfl (NQ (Wt (QT.r ?_))))
  cases H
  exact Ea rfl rfl rfl tv
 refine Wk (Qn (G ?_))
 obtain ⟨x3,hx3,H⟩:=an H
 refine Cl [] (tr hx3) tu rfl tv rfl ?_
 obtain ⟨g4,H⟩:=ay H
 refine RS 4 rfl ⟨⟨(al g4).1,(al g4).2,rfl⟩,tv⟩ (NQ (Wt ?_))
 cases H
 exact Ea rfl rfl rfl tv
theorem iL:aF Tryz.prog 46 Tryz.f46:=⟨Tryz.func46,rfl,by kernel_rfl⟩
theorem nK (a0:Int) {r:Int} (H:hJ a0=some r):LJ.Spec Tryz.prog 123 [.d (.int .u8 a0)] [] (.d (.int .i64 r)) []:=by
 refine LJ.Spec.code Tryz.func123 rfl 5 rfl rfl [] rfl fun w0 F0 S0 B0=>?_
 unfold hJ at H
 refine G (R 1 rfl (NS (G (R 2 rfl (NQ (Wd rfl H (fun H=>?_) (fun H=>?_)))))))
 ·refine G (R 1 rfl (NQ (Wt (QT.r ?_))))
  cases H
  exact Ea rfl rfl rfl tv
 refine Wk (Qn (G (R 1 rfl (NQ (Wt ?_)))))
 cases H
 exact Ea rfl rfl rfl tv
theorem nL:aF Tryz.prog 123 Tryz.f123:=⟨Tryz.func123,rfl,by kernel_rfl⟩
theorem oX (a0:Int) {r:Int} (H:jc a0=some r):LJ.Spec Tryz.prog 124 [.d (.int .u8 a0)] [] (.d (.int .i64 r)) []:=by
 refine LJ.Spec.code Tryz.func124 rfl 12 rfl rfl [] rfl fun w0 F0 S0 B0=>?_
 unfold jc at H
 refine G (R 1 rfl (NS (G (R 1 rfl (NQ (Wb (G (R 2 rfl (NQ (Wd rfl H (fun H=>?_) (fun H=>?_)))))))))))
 ·refine G (R 1 rfl (NQ (Wt (QB.r (QT.r ?_)))))
  cases H
  exact Ea rfl rfl rfl tv
 refine G (R 2 rfl (NQ (Wd rfl H (fun H=>?_) (fun H=>?_))))
 ·refine G (R 1 rfl (NQ (Wt (QB.r (QT.r ?_)))))
  cases H
  exact Ea rfl rfl rfl tv
 refine G (R 2 rfl (NQ (Wd rfl H (fun H=>?_) (fun H=>?_))))
 ·refine G (R 1 rfl (NQ (Wt (QB.r (QT.r ?_)))))
  cases H
  exact Ea rfl rfl rfl tv
 refine G (R 2 rfl (NQ (Wd rfl H (fun H=>?_) (fun H=>?_))))
 ·refine G (R 1 rfl (NQ (Wt (QB.r (QT.r ?_)))))
  cases H
  exact Ea rfl rfl rfl tv
 refine Wk (Qb (Qn ?_))
 refine G (R 1 rfl (NQ (Wt ?_)))
 cases H
 exact Ea rfl rfl rfl tv
theorem oY:aF Tryz.prog 124 Tryz.f124:=⟨Tryz.func124,rfl,by kernel_rfl⟩
theorem nM (a0:ar) {r:Int} (H:fY a0=some r):LJ.Spec Tryz.prog 102 [.d (.agg [.int .i64 a0.Op, .int .i64 a0.A, .int .i64 a0.B])] [] (.d (.int .i64 r)) []:=by
 refine LJ.Spec.code Tryz.func102 rfl 85 rfl rfl [] rfl fun w0 F0 S0 B0=>?_
 unfold fY at H
 refine G (Ef 101 rfl (R 1 rfl (NS (G (R 2 rfl ?_)))))
 obtain ⟨x1,hx1,H⟩:=an H
 refine Cl [] (gH _ hx1) gJ rfl tv rfl (R 1 rfl (NQ (Wd rfl H (fun H=>?_) (fun H=>?_))))
 ·refine G (R 1 rfl (NQ (Wt (QT.r ?_))))
  cases H
  exact Ea rfl rfl rfl tv
 refine Wk (Qn (Ws ?_))
 obtain ⟨x3_2_1,hx3_2_1,H⟩:=an H
 refine WC.heldF [(1, .ptr 101 0),(3, .d (.str x3_2_1)),(4, .d (slT aA ([a0.A,a0.B]:List Int)))] [(101, .box 100 [.d (.int .i64 a0.Op), .d (.int .i64 a0.A), .d (.int .i64 a0.B)])] (sT 0 (sT 1 (sT 3 (sT 4 (sT 5 (sT 6 (fk (sf 2 (sT 8 (sf 7 (sT 9 sd)))) (sf 7 (sf 2 (sT 8 (sT 9 sd))))))))))) [101] [101] rfl (by kernel_rfl) rfl (by kernel_rfl) rfl rfl (fun _ h=>h) rfl rfl rfl (fun FK NK wK K=>?_) ?_
 ·refine Hr 6 tk rfl rfl rfl rfl tv (WH.fork ?_ ?_)
  ·exact WH.call [] rfl (iK _ hx3_2_1) iL rfl rfl tv rfl rfl rfl rfl rfl (Hr 1 tk rfl rfl rfl rfl tv (He 118 tk ek rfl rfl rfl rfl tv rfl rfl (WH.freezeT 118 aA ([a0.A,a0.B]:List Int) rfl rfl rfl rfl (WH.mv rfl rfl rfl rfl rfl rfl rfl rfl rfl (Hn rfl (Lw q3 p1))))))
  ·exact He 118 tk ek rfl rfl rfl rfl tv rfl rfl (WH.freezeT 118 aA ([a0.A,a0.B]:List Int) rfl rfl rfl rfl (WH.call [] rfl (iK _ hx3_2_1) iL rfl rfl tv rfl rfl rfl rfl rfl (Hr 1 tk rfl rfl rfl rfl tv (WH.mv rfl rfl rfl rfl rfl rfl rfl rfl rfl (Hn rfl (Lw q3 p1))))))
 ·refine Qn (Ws (G (R 1 rfl (NQ (Wb (Wl (ι:= {x:Nat×Int //bV a0 x3_2_1 x.1 x.2=some r}) (fun x=>[(1, .ptr 101 0),(3, .d (.str x3_2_1)),(4, .d (slT aA ([a0.A,a0.B]:List Int))),(5, .d (.int .i64 x.1.2))]) (fun x=>[(101, .box 100 [.d (.int .i64 a0.Op), .d (.int .i64 a0.A), .d (.int .i64 a0.B)])]) (fun x=>x.1.1) ⟨(fuel,0),H⟩ (Lm p4 p1) fun x=>?_))))))
  obtain ⟨⟨k4,s3⟩,H⟩:=x
  rcases k4 with _ | k4
  ·exact aO H
  rw [bV] at H
  refine Ws (G (R 4 rfl (NQ (Wd rfl H (fun H=>?_) (fun H=>?_)))))
  ·refine Wk (Qn (Ws (Wb (Ws (Hp (.one 0 true (.one 1 true (.one 2 true (.one 3 true (.one 4 true (.one 5 true (.one 6 true (.one 7 true (.one 8 true (.one 9 false (.one 10 true (.one 11 true (.one 12 true (.one 13 true (.one 14 true (.one 15 true (.one 16 true (.one 17 true (.one 18 true (.one 19 true (.one 20 true (.one 21 true (.one 22 true (.one 23 true (.one 24 true (.one 25 false (.one 26 true (.one 27 true (.one 28 true (.one 29 true (.one 30 true (.one 31 true (.one 32 true (.one 33 true (.one 34 true (.one 35 false (.one 36 true (.one 37 true (.one 38 true (.one 39 true .done)))))))))))))))))))))))))))))))))))))))) [101] [101] rfl (by kernel_rfl) rfl (by kernel_rfl) rfl rfl (fun _ h=>h) rfl rfl rfl (fun _ _ _ h=>h) fun FK NK wK K=>?_)))))
   obtain ⟨g6,H⟩:=ay H
   refine Hr 5 tk rfl rfl rfl rfl ⟨(al g6),tv⟩ (WH.split (g:=29) rfl (fun h7=>?_) (fun h7=>?_))
   ·replace H:=of_t H h7
    obtain ⟨g8,H⟩:=ay H
    refine WH.grun 4 4 true 29 tk rfl rfl rfl rfl rfl rfl ⟨⟨(al g8).1,(al g8).2,rfl⟩,tv⟩ ?_
    obtain ⟨x9,hx9,H⟩:=an H
    refine WH.gcall [] rfl (oT _ hx9) oU rfl rfl tv rfl rfl rfl rfl rfl rfl rfl rfl (WH.grun 1 4 true 29 tk rfl rfl rfl rfl rfl rfl tv (WH.pick1 rfl rfl rfl rfl rfl rfl rfl (Hr 1 tk rfl rfl rfl rfl tv (WH.split (g:=37) rfl (fun h10=>?_) (fun h10=>?_)))))
    ·replace H:=of_t H h10
     refine Hg rfl rfl rfl rfl rfl rfl rfl (Hg rfl rfl rfl rfl rfl rfl rfl (Hg rfl rfl rfl rfl rfl rfl rfl (Hg rfl rfl rfl rfl rfl rfl rfl (Hg rfl rfl rfl rfl rfl rfl rfl (Hg rfl rfl rfl rfl rfl rfl rfl (Hg rfl rfl rfl rfl rfl rfl rfl (Hg rfl rfl rfl rfl rfl rfl rfl (Hg rfl rfl rfl rfl rfl rfl rfl (Hg rfl rfl rfl rfl rfl rfl rfl (Hg rfl rfl rfl rfl rfl rfl rfl (Hg rfl rfl rfl rfl rfl rfl rfl (Hg rfl rfl rfl rfl rfl rfl rfl (Hg rfl rfl rfl rfl rfl rfl rfl (Hg rfl rfl rfl rfl rfl rfl rfl (Hg rfl rfl rfl rfl rfl rfl rfl (Hg rfl rfl rfl rfl rfl rfl rfl (Hg rfl rfl rfl rfl rfl rfl rfl (Hg rfl rfl rfl rfl rfl rfl rfl (Hg rfl rfl rfl rfl rfl rfl rfl (Hg rfl rfl rfl rfl rfl rfl rfl (Hg rfl rfl rfl rfl rfl rfl rfl (Hg rfl rfl rfl rfl rfl rfl rfl (Hg rfl rfl rfl rfl rfl rfl rfl (Hg rfl rfl rfl rfl rfl rfl rfl (Hg rfl rfl rfl rfl rfl rfl rfl (WH.pick1 rfl rfl rfl rfl rfl rfl rfl (WH.nil rfl (Qn (Wc rfl (fun h=>?_) (fun h=>absurd h (by decide)))))))))))))))))))))))))))))))
     refine G (R 1 rfl (NQ (Wt (QB.r (QT.r (QT.r (QB.r (QT.r ?_))))))))
     cases H
     exact Ea rfl rfl rfl tv
    ·replace H:=of_f H h10
     obtain ⟨g11,H⟩:=ay H
     refine WH.grun 5 12 false 37 tk rfl rfl rfl rfl rfl rfl ⟨(al g11),tv⟩ (WH.split (g:=42) rfl (fun h12=>?_) (fun h12=>?_))
     ·replace H:=of_t H h12
      obtain ⟨g13,H⟩:=ay H
      obtain ⟨g14,H⟩:=ay H
      refine WH.grun 7 17 true 42 tk rfl rfl rfl rfl rfl rfl ⟨⟨(al g13).1,(al g13).2,rfl⟩,(al g14),tv⟩ ?_
      obtain ⟨x15,hx15,H⟩:=an H
      refine WH.gcall [] rfl (nK _ hx15) nL rfl rfl tv rfl rfl rfl rfl rfl rfl rfl rfl (WH.grun 2 17 true 42 tk rfl rfl rfl rfl rfl rfl tv (WH.split (g:=52) rfl (fun h16=>?_) (fun h16=>?_)))
      ·replace H:=of_t H h16
       refine Hg rfl rfl rfl rfl rfl rfl rfl (Hg rfl rfl rfl rfl rfl rfl rfl (Hg rfl rfl rfl rfl rfl rfl rfl (Hg rfl rfl rfl rfl rfl rfl rfl (Hg rfl rfl rfl rfl rfl rfl rfl (Hg rfl rfl rfl rfl rfl rfl rfl (Hg rfl rfl rfl rfl rfl rfl rfl (Hg rfl rfl rfl rfl rfl rfl rfl (Hg rfl rfl rfl rfl rfl rfl rfl (WH.gpick1 rfl rfl rfl rfl rfl rfl rfl rfl rfl rfl (WH.gpick1 rfl rfl rfl rfl rfl rfl rfl rfl rfl rfl (WH.pick1 rfl rfl rfl rfl rfl rfl rfl (WH.nil rfl (Qn (Wc rfl (fun h=>?_) (fun h=>absurd h (by decide))))))))))))))))
       refine G (R 1 rfl (NQ (Wt (QB.r (QT.r (QT.r (QB.r (QT.r ?_))))))))
       cases H
       exact Ea rfl rfl rfl tv
      ·replace H:=of_f H h16
       obtain ⟨g17,H⟩:=ay H
       obtain ⟨g18,H⟩:=ay H
       refine WH.grun 7 27 false 52 tk rfl rfl rfl rfl rfl rfl ⟨⟨(al g17).1,(al g17).2,rfl⟩,(al g18),tv⟩ ?_
       obtain ⟨x19,hx19,H⟩:=an H
       refine WH.gcall [] rfl (oX _ hx19) oY rfl rfl tv rfl rfl rfl rfl rfl rfl rfl rfl (WH.grun 1 27 false 52 tk rfl rfl rfl rfl rfl rfl tv (WH.gpick1 rfl rfl rfl rfl rfl rfl rfl rfl rfl rfl (WH.gpick1 rfl rfl rfl rfl rfl rfl rfl rfl rfl rfl (WH.pick1 rfl rfl rfl rfl rfl rfl rfl (WH.nil rfl (Qn (Wd rfl H (fun H=>?_) (fun H=>?_))))))))
       ·refine G (R 1 rfl (NQ (Wt (QB.r (QT.r (QT.r (QB.r (QT.r ?_))))))))
        cases H
        exact Ea rfl rfl rfl tv
       refine Wk (Qb (Qn ?_))
       exact Wg (R 3 rfl (NQ (⟨⟨(k4,IntKind.i64.wrap (s3+1)),H⟩,Z,Lm p4 p1⟩)))
     ·replace H:=of_f H h12
      refine Hg rfl rfl rfl rfl rfl rfl rfl (Hg rfl rfl rfl rfl rfl rfl rfl (Hg rfl rfl rfl rfl rfl rfl rfl (Hg rfl rfl rfl rfl rfl rfl rfl (Hg rfl rfl rfl rfl rfl rfl rfl (Hg rfl rfl rfl rfl rfl rfl rfl (Hg rfl rfl rfl rfl rfl rfl rfl (Hg rfl rfl rfl rfl rfl rfl rfl (Hg rfl rfl rfl rfl rfl rfl rfl (Hg rfl rfl rfl rfl rfl rfl rfl (Hg rfl rfl rfl rfl rfl rfl rfl (Hg rfl rfl rfl rfl rfl rfl rfl (Hg rfl rfl rfl rfl rfl rfl rfl (Hg rfl rfl rfl rfl rfl rfl rfl (Hg rfl rfl rfl rfl rfl rfl rfl (Hg rfl rfl rfl rfl rfl rfl rfl (Hg rfl rfl rfl rfl rfl rfl rfl (Hg rfl rfl rfl rfl rfl rfl rfl (Hg rfl rfl rfl rfl rfl rfl rfl (Hg rfl rfl rfl rfl rfl rfl rfl (WH.gpick1 rfl rfl rfl rfl rfl rfl rfl rfl rfl rfl (WH.pick1 rfl rfl rfl rfl rfl rfl rfl (WH.nil rfl (Qn (Wc rfl (fun h=>absurd h (by decide)) (fun h=>?_)))))))))))))))))))))))))
      refine Wk (Qb (Qn ?_))
      exact Wg (R 3 rfl (NQ (⟨⟨(k4,IntKind.i64.wrap (s3+1)),H⟩,Z,Lm p4 p1⟩)))
   ·replace H:=of_f H h7
    refine Hg rfl rfl rfl rfl rfl rfl rfl (Hg rfl rfl rfl rfl rfl rfl rfl (Hg rfl rfl rfl rfl rfl rfl rfl (Hg rfl rfl rfl rfl rfl rfl rfl (Hg rfl rfl rfl rfl rfl rfl rfl (Hg rfl rfl rfl rfl rfl rfl rfl (WH.pick1 rfl rfl rfl rfl rfl rfl rfl (Hr 1 tk rfl rfl rfl rfl tv ?_)))))))
    obtain ⟨g21,H⟩:=ay H
    refine WH.grun 5 12 false 37 tk rfl rfl rfl rfl rfl rfl ⟨(al g21),tv⟩ (WH.split (g:=42) rfl (fun h22=>?_) (fun h22=>?_))
    ·replace H:=of_t H h22
     obtain ⟨g23,H⟩:=ay H
     obtain ⟨g24,H⟩:=ay H
     refine WH.grun 7 17 true 42 tk rfl rfl rfl rfl rfl rfl ⟨⟨(al g23).1,(al g23).2,rfl⟩,(al g24),tv⟩ ?_
     obtain ⟨x25,hx25,H⟩:=an H
     refine WH.gcall [] rfl (nK _ hx25) nL rfl rfl tv rfl rfl rfl rfl rfl rfl rfl rfl (WH.grun 2 17 true 42 tk rfl rfl rfl rfl rfl rfl tv (WH.split (g:=52) rfl (fun h26=>?_) (fun h26=>?_)))
     ·replace H:=of_t H h26
      refine Hg rfl rfl rfl rfl rfl rfl rfl (Hg rfl rfl rfl rfl rfl rfl rfl (Hg rfl rfl rfl rfl rfl rfl rfl (Hg rfl rfl rfl rfl rfl rfl rfl (Hg rfl rfl rfl rfl rfl rfl rfl (Hg rfl rfl rfl rfl rfl rfl rfl (Hg rfl rfl rfl rfl rfl rfl rfl (Hg rfl rfl rfl rfl rfl rfl rfl (Hg rfl rfl rfl rfl rfl rfl rfl (WH.gpick1 rfl rfl rfl rfl rfl rfl rfl rfl rfl rfl (WH.gpick1 rfl rfl rfl rfl rfl rfl rfl rfl rfl rfl (WH.pick1 rfl rfl rfl rfl rfl rfl rfl (WH.nil rfl (Qn (Wc rfl (fun h=>?_) (fun h=>absurd h (by decide))))))))))))))))
      refine G (R 1 rfl (NQ (Wt (QB.r (QT.r (QT.r (QB.r (QT.r ?_))))))))
      cases H
      exact Ea rfl rfl rfl tv
     ·replace H:=of_f H h26
      obtain ⟨g27,H⟩:=ay H
      obtain ⟨g28,H⟩:=ay H
      refine WH.grun 7 27 false 52 tk rfl rfl rfl rfl rfl rfl ⟨⟨(al g27).1,(al g27).2,rfl⟩,(al g28),tv⟩ ?_
      obtain ⟨x29,hx29,H⟩:=an H
      refine WH.gcall [] rfl (oX _ hx29) oY rfl rfl tv rfl rfl rfl rfl rfl rfl rfl rfl (WH.grun 1 27 false 52 tk rfl rfl rfl rfl rfl rfl tv (WH.gpick1 rfl rfl rfl rfl rfl rfl rfl rfl rfl rfl (WH.gpick1 rfl rfl rfl rfl rfl rfl rfl rfl rfl rfl (WH.pick1 rfl rfl rfl rfl rfl rfl rfl (WH.nil rfl (Qn (Wd rfl H (fun H=>?_) (fun H=>?_))))))))
      ·refine G (R 1 rfl (NQ (Wt (QB.r (QT.r (QT.r (QB.r (QT.r ?_))))))))
       cases H
       exact Ea rfl rfl rfl tv
      refine Wk (Qb (Qn ?_))
      exact Wg (R 3 rfl (NQ (⟨⟨(k4,IntKind.i64.wrap (s3+1)),H⟩,Z,Lm p4 p1⟩)))
    ·replace H:=of_f H h22
     refine Hg rfl rfl rfl rfl rfl rfl rfl (Hg rfl rfl rfl rfl rfl rfl rfl (Hg rfl rfl rfl rfl rfl rfl rfl (Hg rfl rfl rfl rfl rfl rfl rfl (Hg rfl rfl rfl rfl rfl rfl rfl (Hg rfl rfl rfl rfl rfl rfl rfl (Hg rfl rfl rfl rfl rfl rfl rfl (Hg rfl rfl rfl rfl rfl rfl rfl (Hg rfl rfl rfl rfl rfl rfl rfl (Hg rfl rfl rfl rfl rfl rfl rfl (Hg rfl rfl rfl rfl rfl rfl rfl (Hg rfl rfl rfl rfl rfl rfl rfl (Hg rfl rfl rfl rfl rfl rfl rfl (Hg rfl rfl rfl rfl rfl rfl rfl (Hg rfl rfl rfl rfl rfl rfl rfl (Hg rfl rfl rfl rfl rfl rfl rfl (Hg rfl rfl rfl rfl rfl rfl rfl (Hg rfl rfl rfl rfl rfl rfl rfl (Hg rfl rfl rfl rfl rfl rfl rfl (Hg rfl rfl rfl rfl rfl rfl rfl (WH.gpick1 rfl rfl rfl rfl rfl rfl rfl rfl rfl rfl (WH.pick1 rfl rfl rfl rfl rfl rfl rfl (WH.nil rfl (Qn (Wc rfl (fun h=>absurd h (by decide)) (fun h=>?_)))))))))))))))))))))))))
     refine Wk (Qb (Qn ?_))
     exact Wg (R 3 rfl (NQ (⟨⟨(k4,IntKind.i64.wrap (s3+1)),H⟩,Z,Lm p4 p1⟩)))
  refine WC.exit (Qx (Qx (Qh (Qn ?_))))
  refine Ws (G (R 3 rfl (Wx 5 2 true tk sg0 rfl rfl (fun _=>tv) (RS 1 rfl ⟨by first | exact id | exact fun h=>by rw [h];rfl | simp_all,tv⟩ (NQ (Wd rfl H (fun H=>?_) (fun H=>?_)))))))
  ·refine G (R 1 rfl (NQ (Wt (QT.r ?_))))
   cases H
   exact Ea rfl rfl rfl tv
  refine Wk (Qn (Ws (G (R 3 rfl (NQ (Wb (Wl (ι:= {x:Nat×Int //cm a0 x.1 x.2=some r}) (fun x=>[(4, .d (slT aA ([a0.A,a0.B]:List Int))),(6, .d (.int .i64 x.1.2))]) (fun x=>[]) (fun x=>x.1.1) ⟨(fuel,(x3_2_1.size:Int)),H⟩ (Lm p2 tv) fun x=>?_)))))))
  obtain ⟨⟨k33,s32⟩,H⟩:=x
  rcases k33 with _ | k33
  ·exact aO H
  rw [cm] at H
  refine Ws (G (R 2 rfl (NQ (Wd rfl H (fun H=>?_) (fun H=>?_)))))
  ·refine Wk (Qn (Ws (Wb (G ?_))))
   obtain ⟨g35,H⟩:=ay H
   refine RS 5 rfl ⟨⟨(al g35).1,(al g35).2,rfl⟩,tv⟩ (NQ (Wd rfl H (fun H=>?_) (fun H=>?_)))
   ·refine G (R 1 rfl (NQ (Wt (QB.r (QT.r (QT.r (QB.r (QT.r ?_))))))))
    cases H
    exact Ea rfl rfl rfl tv
   refine Wk (Qb (Qn ?_))
   exact Wg (R 3 rfl (NQ (⟨⟨(k33,IntKind.i64.wrap (s32+1)),H⟩,Z,Lm p2 tv⟩)))
  refine WC.exit (Qx (Qx (Qh (Qn ?_))))
  refine G (R 1 rfl (NQ (Wt ?_)))
  cases H
  exact Ea rfl rfl rfl tv
theorem nN:aF Tryz.prog 102 Tryz.f102:=⟨Tryz.func102,rfl,by kernel_rfl⟩
theorem pf (a0:aq) {r:Int} (H:dT a0=some r):LJ.Spec Tryz.prog 76 [.d (.agg [.int .i64 a0.Args, .int .i64 a0.Locals,slT aE a0.Code])] [] (.d (.int .i64 r)) []:=by
 refine LJ.Spec.code Tryz.func76 rfl 44 rfl rfl [] rfl fun w0 F0 S0 B0=>?_
 unfold dT at H
 refine G (Ef 101 rfl (R 1 rfl (NS (G (R 4 rfl (Wx 5 3 false tk sg0 rfl rfl (fun _=>tv) (RS 2 rfl ⟨by first | exact id | exact fun h=>by rw [h];rfl | simp_all,tv⟩ (Wx 3 10 false tk sg0 rfl rfl (fun _=>tv) (RS 1 rfl ⟨by first | exact id | exact fun h=>by rw [h];rfl | simp_all,tv⟩ (NQ (Wd rfl H (fun H=>?_) (fun H=>?_))))))))))))
 ·refine G (R 1 rfl (NQ (Wt (QT.r ?_))))
  cases H
  exact Ea rfl rfl rfl tv
 refine Wk (Qn (Ws (G (R 4 rfl (NQ (Wd rfl H (fun H=>?_) (fun H=>?_)))))))
 ·refine G (R 1 rfl (NQ (Wt (QT.r ?_))))
  cases H
  exact Ea rfl rfl rfl tv
 refine Wk (Qn (Ws (G (R 4 rfl (NQ (Wd rfl H (fun H=>?_) (fun H=>?_)))))))
 ·refine G (R 1 rfl (NQ (Wt (QT.r ?_))))
  cases H
  exact Ea rfl rfl rfl tv
 refine Wk (Qn (Ws (G (R 1 rfl (NQ (Wb (Wl (ι:= {x:Nat×Int //bH a0 x.1 x.2=some r}) (fun x=>[(1, .ptr 101 0),(3, .d (.int .i64 x.1.2))]) (fun x=>[(101, .box 98 [.d (.int .i64 a0.Args), .d (.int .i64 a0.Locals), .d (slT aE a0.Code)])]) (fun x=>x.1.1) ⟨(fuel,0),H⟩ (Lm p2 p1) fun x=>?_)))))))
 obtain ⟨⟨k5,s4⟩,H⟩:=x
 rcases k5 with _ | k5
 ·exact aO H
 rw [bH] at H
 refine Ws (G (R 5 rfl (NQ (Wd rfl H (fun H=>?_) (fun H=>?_)))))
 ·refine Wk (Qn (Ws (Wb (G ?_))))
  obtain ⟨g7,H⟩:=ay H
  refine RS 5 rfl ⟨⟨(al g7).1,(al g7).2,rfl⟩,tv⟩ ?_
  obtain ⟨x8,hx8,H⟩:=an H
  refine Cl [] (nM _ hx8) nN rfl tv rfl (R 1 rfl (N (R 2 rfl (NQ (Wd rfl H (fun H=>?_) (fun H=>?_))))))
  ·refine G (R 2 rfl (NQ (Wt (QB.r (QT.r (QT.r (QB.r (QT.r ?_))))))))
   cases H
   exact Ea rfl rfl rfl tv
  refine Wk (Qb (Qn ?_))
  exact Wg (R 3 rfl (NQ (⟨⟨(k5,IntKind.i64.wrap (s4+1)),H⟩,Z,Lm p2 p1⟩)))
 refine WC.exit (Qx (Qx (Qh (Qn ?_))))
 refine G (R 1 rfl (NQ (Wt ?_)))
 cases H
 exact Ea rfl rfl rfl tv
theorem pg:aF Tryz.prog 76 Tryz.f76:=⟨Tryz.func76,rfl,by kernel_rfl⟩
theorem nO (a0:ah) {r:Int} (H:fh a0=some r):LJ.Spec Tryz.prog 45 [.d (.agg [slT ai a0.Decls,slT aa a0.Waits,slT ak a0.Funcs])] [] (.d (.int .i64 r)) []:=by
 refine LJ.Spec.code Tryz.func45 rfl 64 rfl rfl [] rfl fun w0 F0 S0 B0=>?_
 unfold fh at H
 refine G (Ef 101 rfl (R 1 rfl (NS (G (R 2 rfl ?_)))))
 obtain ⟨x1,hx1,H⟩:=an H
 refine Cl [] (nG _ hx1) nH rfl tv rfl (R 5 rfl (N (R 2 rfl (NQ (Wd rfl H (fun H=>?_) (fun H=>?_))))))
 ·refine G (R 2 rfl (NQ (Wt (QT.r ?_))))
  cases H
  exact Ea rfl rfl rfl tv
 refine Wk (Qn (Ws (G (R 4 rfl (NQ (Wd rfl H (fun H=>?_) (fun H=>?_)))))))
 ·refine G (R 1 rfl (NQ (Wt (QT.r ?_))))
  cases H
  exact Ea rfl rfl rfl tv
 refine Wk (Qn (Ws (G (R 1 rfl (NQ (Wb (Wl (ι:= {x:Nat×Int //cA a0 x.1 x.2=some r}) (fun x=>[(1, .ptr 101 0),(5, .d (.int .i64 x.1.2))]) (fun x=>[(101, .box 28 [.d (slT ai a0.Decls), .d (slT aa a0.Waits), .d (slT ak a0.Funcs)])]) (fun x=>x.1.1) ⟨(fuel,0),H⟩ (Lm p2 p1) fun x=>?_)))))))
 obtain ⟨⟨k5,s4⟩,H⟩:=x
 rcases k5 with _ | k5
 ·exact aO H
 rw [cA] at H
 refine Ws (G (R 5 rfl (NQ (Wd rfl H (fun H=>?_) (fun H=>?_)))))
 ·refine Wk (Qn (Ws (Wb (Ws (Hp (.one 0 true (.one 1 true (.one 2 true (.one 3 true (.one 4 true (.one 5 true (.one 6 true (.one 7 false (.one 8 true .done))))))))) [101] [101] rfl (by kernel_rfl) rfl (by kernel_rfl) rfl rfl (fun _ h=>h) rfl rfl rfl (fun _ _ _ h=>h) fun FK NK wK K=>?_)))))
  obtain ⟨g7,H⟩:=ay H
  refine Hr 7 tk rfl rfl rfl rfl ⟨⟨(al g7).1,(al g7).2,rfl⟩,tv⟩ ?_
  obtain ⟨x8,hx8,H⟩:=an H
  refine WH.call [] rfl (nI _ _ hx8) nJ rfl rfl tv rfl rfl rfl rfl rfl (Hr 1 tk rfl rfl rfl rfl tv (WH.nil rfl (Qn (G (R 2 rfl (NQ (Wd rfl H (fun H=>?_) (fun H=>?_))))))))
  ·refine G (R 2 rfl (NQ (Wt (QB.r (QT.r (QT.r (QB.r (QT.r ?_))))))))
   cases H
   exact Ea rfl rfl rfl tv
  refine Wk (Qb (Qn ?_))
  exact Wg (R 3 rfl (NQ (⟨⟨(k5,IntKind.i64.wrap (s4+1)),H⟩,Z,Lm p2 p1⟩)))
 refine WC.exit (Qx (Qx (Qh (Qn ?_))))
 refine Ws (G (R 4 rfl (NQ (Wd rfl H (fun H=>?_) (fun H=>?_)))))
 ·refine G (R 1 rfl (NQ (Wt (QT.r ?_))))
  cases H
  exact Ea rfl rfl rfl tv
 refine Wk (Qn (Ws (G (R 4 rfl (NQ (Wd rfl H (fun H=>?_) (fun H=>?_)))))))
 ·refine G (R 1 rfl (NQ (Wt (QT.r ?_))))
  cases H
  exact Ea rfl rfl rfl tv
 refine Wk (Qn (Ws (G (R 1 rfl (NQ (Wb (Wl (ι:= {x:Nat×Int //cn a0 x.1 x.2=some r}) (fun x=>[(1, .ptr 101 0),(7, .d (.int .i64 x.1.2))]) (fun x=>[(101, .box 28 [.d (slT ai a0.Decls), .d (slT aa a0.Waits), .d (slT ak a0.Funcs)])]) (fun x=>x.1.1) ⟨(fuel,0),H⟩ (Lm p2 p1) fun x=>?_)))))))
 obtain ⟨⟨k13,s12⟩,H⟩:=x
 rcases k13 with _ | k13
 ·exact aO H
 rw [cn] at H
 refine Ws (G (R 5 rfl (NQ (Wd rfl H (fun H=>?_) (fun H=>?_)))))
 ·refine Wk (Qn (Ws (Wb (G ?_))))
  obtain ⟨g15,H⟩:=ay H
  refine RS 5 rfl ⟨⟨(al g15).1,(al g15).2,rfl⟩,tv⟩ ?_
  obtain ⟨x16,hx16,H⟩:=an H
  refine Cl [] (pf _ hx16) pg rfl tv rfl (R 1 rfl (N (R 2 rfl (NQ (Wd rfl H (fun H=>?_) (fun H=>?_))))))
  ·refine G (R 2 rfl (NQ (Wt (QB.r (QT.r (QT.r (QB.r (QT.r ?_))))))))
   cases H
   exact Ea rfl rfl rfl tv
  refine Wk (Qb (Qn ?_))
  exact Wg (R 3 rfl (NQ (⟨⟨(k13,IntKind.i64.wrap (s12+1)),H⟩,Z,Lm p2 p1⟩)))
 refine WC.exit (Qx (Qx (Qh (Qn ?_))))
 refine G (R 1 rfl (NQ (Wt ?_)))
 cases H
 exact Ea rfl rfl rfl tv
theorem nP:aF Tryz.prog 45 Tryz.f45:=⟨Tryz.func45,rfl,by kernel_rfl⟩
theorem rz (a0:Int) {r:Bool} (H:jH a0=some r):LJ.Spec Tryz.prog 79 [.d (.int .u8 a0)] [] (.d (.bool r)) []:=by
 refine LJ.Spec.code Tryz.func79 rfl 25 rfl rfl [] rfl fun w0 F0 S0 B0=>?_
 unfold jH at H
 refine G (R 1 rfl (N (R 3 rfl (Wx 2 2 true tk sg0 rfl rfl (fun _=>tv) (RS 2 rfl ⟨by first | exact id | exact fun h=>by rw [h];rfl | simp_all,tv⟩ (Wx 2 6 true tk sg0 rfl rfl (fun _=>tv) (RS 2 rfl ⟨by first | exact id | exact fun h=>by rw [h];rfl | simp_all,tv⟩ (Wx 2 10 true tk sg0 rfl rfl (fun _=>tv) (RS 2 rfl ⟨by first | exact id | exact fun h=>by rw [h];rfl | simp_all,tv⟩ (Wx 2 14 true tk sg0 rfl rfl (fun _=>tv) ?_))))))))))
 refine RS 2 rfl ⟨by first | exact id | exact fun h=>by rw [h];rfl | simp_all,tv⟩ (Wx 2 18 true tk sg0 rfl rfl (fun _=>tv) (RS 2 rfl ⟨by first | exact id | exact fun h=>by rw [h];rfl | simp_all,tv⟩ (NQ (Wt ?_))))
 cases H
 exact Ea rfl rfl rfl tv
theorem rA:aF Tryz.prog 79 Tryz.f79:=⟨Tryz.func79,rfl,by kernel_rfl⟩
theorem qL (a0:ah) (a1:aq) (a2:ar) (a3:Int) (a4:Int) {r:Int} (H:gy a0 a1 a2 a3 a4=some r):LJ.Spec Tryz.prog 47 [.d (.agg [slT ai a0.Decls,slT aa a0.Waits,slT ak a0.Funcs]), .d (.agg [.int .i64 a1.Args, .int .i64 a1.Locals,slT aE a1.Code]), .d (.agg [.int .i64 a2.Op, .int .i64 a2.A, .int .i64 a2.B]), .d (.int .u8 a3), .d (.int .i64 a4)] [] (.d (.int .i64 r)) []:=by
 refine LJ.Spec.code Tryz.func47 rfl 74 rfl rfl [] rfl fun w0 F0 S0 B0=>?_
 unfold gy at H
 refine G (Ef 105 rfl (Ef 106 rfl (Ef 107 rfl (R 1 rfl (NS (G (R 3 rfl (Wx 4 2 true tk sg0 rfl rfl (fun _=>tv) (RS 2 rfl ⟨by first | exact id | exact fun h=>by rw [h];rfl | simp_all,tv⟩ (Wx 3 8 false tk sg0 rfl rfl (fun _=>tv) (Wx 5 11 true tk sg0 rfl rfl (fun _=>tv) ?_)))))))))))
 refine Wx 1 8 false tk sg0 rfl rfl (fun hb=>⟨by first | exact id | exact ⟨hb,fun h=>by rw [hb,h];rfl⟩ | exact ⟨hb,id⟩ | exact fun h=>by rw [hb,h];rfl | exact fun h=>by rw [h];rfl | simp_all,tv⟩) (RS 2 rfl ⟨by first | exact id | exact fun h=>by rw [h];rfl | simp_all,tv⟩ (Wx 3 19 false tk sg0 rfl rfl (fun _=>tv) (Wx 5 22 true tk sg0 rfl rfl (fun _=>tv) (Wx 1 19 false tk sg0 rfl rfl (fun hb=>⟨by first | exact id | exact ⟨hb,fun h=>by rw [hb,h];rfl⟩ | exact ⟨hb,id⟩ | exact fun h=>by rw [hb,h];rfl | exact fun h=>by rw [h];rfl | simp_all,tv⟩) (RS 1 rfl ⟨by first | exact id | exact fun h=>by rw [h];rfl | simp_all,tv⟩ (NQ (Wd rfl H (fun H=>?_) (fun H=>?_))))))))
 ·refine G (R 1 rfl (NQ (Wt (QT.r ?_))))
  cases H
  exact Ea rfl rfl rfl tv
 refine Wk (Qn (Ws (G (R 3 rfl (Wx 6 2 true tk sg0 rfl rfl (fun _=>tv) (Wx 4 8 false tk sg0 rfl rfl (fun _=>tv) ?_))))))
 obtain ⟨g2,H⟩:=e9 H
 refine Wx 7 12 true tk sg0 rfl rfl (fun hb=>⟨⟨(al (g2 hb)).1,(al (g2 hb)).2,rfl⟩,tv⟩) (Wx 1 8 false tk sg0 rfl rfl (fun hb=>⟨by first | exact id | exact ⟨hb,fun h=>by rw [hb,h];rfl⟩ | exact ⟨hb,id⟩ | exact fun h=>by rw [hb,h];rfl | exact fun h=>by rw [h];rfl | simp_all,tv⟩) (Wx 1 2 true tk sg0 rfl rfl (fun hb=>⟨by first | exact id | exact ⟨hb,fun h=>by rw [hb,h];rfl⟩ | exact ⟨hb,id⟩ | exact fun h=>by rw [hb,h];rfl | exact fun h=>by rw [h];rfl | simp_all,tv⟩) (RS 1 rfl ⟨by first | exact id | exact fun h=>by rw [h];rfl | simp_all,tv⟩ (NQ (Wd rfl H (fun H=>?_) (fun H=>?_))))))
 ·refine G (R 1 rfl (NQ (Wt (QT.r ?_))))
  cases H
  exact Ea rfl rfl rfl tv
 refine Wk (Qn (Ws (G (R 1 rfl ?_))))
 obtain ⟨x4,hx4,H⟩:=an H
 refine Cl [] (rz _ hx4) rA rfl tv rfl (R 1 rfl ?_)
 obtain ⟨x5,hx5,H⟩:=an H
 refine Wx 6 2 true tk [PSig.at' oW (x4=true) rfl (fun hb=>oV _ _ _ (of_t hx5 hb))] rfl rfl (fun hb=>⟨⟨hb,rfl⟩,tv⟩) (RS 1 rfl ⟨by first | exact id | exact fun h=>by rw [h];rfl | simp_all,tv⟩ (NQ (Wd rfl H (fun H=>?_) (fun H=>?_))))
 ·refine G (R 1 rfl (NQ (Wt (QT.r ?_))))
  cases H
  exact Ea rfl rfl rfl tv
 refine Wk (Qn (G (R 1 rfl (NQ (Wt ?_)))))
 cases H
 exact Ea rfl rfl rfl tv
theorem qM:aF Tryz.prog 47 Tryz.f47:=⟨Tryz.func47,rfl,by kernel_rfl⟩
theorem nQ {r:List Int} (H:jl=some r):LJ.Spec Tryz.prog 144 [] [] (.d (slT aA r)) []:=by
 refine LJ.Spec.code Tryz.func144 rfl 2 rfl rfl [] rfl fun w0 F0 S0 B0=>?_
 unfold jl at H
 refine G (R 1 rfl (N (Ef 101 rfl (WL.freezeT 101 aA ([0,0,1,2,2,2,2,2,1,2,2,2,2,2,2,2,1,1,0,1,0,1,0,0,1,0,0,1,1,0,1,1,0,1,0,0,0,0,0,1,2,0,1,2,1,0,1,0,0,1,0,0]:List Int) rfl rfl rfl rfl (R 1 rfl (NQ (Wt ?_)))))))
 cases H
 exact Ea rfl rfl rfl tv
theorem nR:aF Tryz.prog 144 Tryz.f144:=⟨Tryz.func144,rfl,by kernel_rfl⟩
theorem oZ (a0:ar) (a1:Int) {r:Int} (H:dy a0 a1=some r):LJ.Spec Tryz.prog 125 [.d (.agg [.int .i64 a0.Op, .int .i64 a0.A, .int .i64 a0.B]), .d (.int .i64 a1)] [] (.d (.int .i64 r)) []:=by
 refine LJ.Spec.code Tryz.func125 rfl 34 rfl rfl [] rfl fun w0 F0 S0 B0=>?_
 unfold dy at H
 refine G (Ef 102 rfl (R 1 rfl (NS (G (R 2 rfl ?_)))))
 obtain ⟨x1,hx1,H⟩:=an H
 refine Cl [] (gH _ hx1) gJ rfl tv rfl (R 1 rfl (NQ (Wd rfl H (fun H=>?_) (fun H=>?_))))
 ·refine G (R 1 rfl (NQ (Wt (QT.r ?_))))
  cases H
  exact Ea rfl rfl rfl tv
 refine Wk (Qn (Ws (G (R 3 rfl (NQ (Wd rfl H (fun H=>?_) (fun H=>?_)))))))
 ·refine G (R 2 rfl (NQ (Wt (QT.r ?_))))
  cases H
  exact Ea rfl rfl rfl tv
 refine Wk (Qn (Ws (G (R 4 rfl (Wx 3 3 false tk sg0 rfl rfl (fun _=>tv) (RS 1 rfl ⟨by first | exact id | exact fun h=>by rw [h];rfl | simp_all,tv⟩ (NQ (Wd rfl H (fun H=>?_) (fun H=>?_)))))))))
 ·refine Ws (Hp (.one 1 true (.one 2 true (.one 5 true (.one 6 true (.one 0 false (.one 3 false (.one 4 false (.one 7 true (.one 8 true .done))))))))) [102] [102] rfl (by kernel_rfl) rfl (by kernel_rfl) rfl rfl (fun _ h=>h) rfl rfl rfl (fun _ _ _ h=>h) fun FK NK wK K=>(Hr 4 tk rfl rfl rfl rfl tv ?_))
  obtain ⟨x5,hx5,H⟩:=an H
  refine WH.call [] rfl (nQ hx5) nR rfl rfl tv rfl rfl rfl rfl rfl ?_
  obtain ⟨g6,H⟩:=ay H
  refine WH.val tk rfl rfl rfl rfl rfl ⟨(al g6).1,(al g6).2,rfl⟩ rfl rfl (WH.val tk rfl rfl rfl rfl rfl tv rfl rfl (Hr 2 tk rfl rfl rfl rfl tv (WH.nil rfl (Qn (Wt (QT.r ?_))))))
  cases H
  exact Ea rfl rfl rfl tv
 refine Wk (Qn (Ws (Hp (.one 1 true (.one 2 true (.one 0 false (.one 3 false (.one 4 false (.one 5 true .done)))))) [102] [102] rfl (by kernel_rfl) rfl (by kernel_rfl) rfl rfl (fun _ h=>h) rfl rfl rfl (fun _ _ _ h=>h) fun FK NK wK K=>(Hr 2 tk rfl rfl rfl rfl tv ?_))))
 obtain ⟨x7,hx7,H⟩:=an H
 refine WH.call [] rfl (nQ hx7) nR rfl rfl tv rfl rfl rfl rfl rfl ?_
 obtain ⟨g8,H⟩:=ay H
 refine WH.val tk rfl rfl rfl rfl rfl ⟨(al g8).1,(al g8).2,rfl⟩ rfl rfl (WH.val tk rfl rfl rfl rfl rfl tv rfl rfl (Hr 1 tk rfl rfl rfl rfl tv (WH.nil rfl (Qn (Wt ?_)))))
 cases H
 exact Ea rfl rfl rfl tv
theorem o0:aF Tryz.prog 125 Tryz.f125:=⟨Tryz.func125,rfl,by kernel_rfl⟩
theorem uW {r:List Int} (H:lS=some r):LJ.Spec Tryz.prog 145 [] [] (.d (slT aA r)) []:=by
 refine LJ.Spec.code Tryz.func145 rfl 2 rfl rfl [] rfl fun w0 F0 S0 B0=>?_
 unfold lS at H
 refine G (R 1 rfl (N (Ef 101 rfl (WL.freezeT 101 aA ([1,1,0,1,1,1,1,1,1,1,1,1,1,1,1,1,2,0,0,0,1,0,1,1,1,0,1,1,1,1,1,1,1,1,1,1,1,1,1,1,1,1,1,1,1,2,1,1,1,1,1,1]:List Int) rfl rfl rfl rfl (R 1 rfl (NQ (Wt ?_)))))))
 cases H
 exact Ea rfl rfl rfl tv
theorem uX:aF Tryz.prog 145 Tryz.f145:=⟨Tryz.func145,rfl,by kernel_rfl⟩
theorem mc (a0:Int) {r:Int} (H:dt a0=some r):LJ.Spec Tryz.prog 126 [.d (.int .i64 a0)] [] (.d (.int .i64 r)) []:=by
 refine LJ.Spec.code Tryz.func126 rfl 10 rfl rfl [] rfl fun w0 F0 S0 B0=>?_
 unfold dt at H
 refine G (R 1 rfl (NS (G (R 1 rfl ?_))))
 obtain ⟨x1,hx1,H⟩:=an H
 refine Cl [] (gH _ hx1) gJ rfl tv rfl (R 1 rfl (NQ (Wd rfl H (fun H=>?_) (fun H=>?_))))
 ·refine G (R 1 rfl (NQ (Wt (QT.r ?_))))
  cases H
  exact Ea rfl rfl rfl tv
 refine Wk (Qn (G ?_))
 obtain ⟨x3,hx3,H⟩:=an H
 refine Cl [] (uW hx3) uX rfl tv rfl ?_
 obtain ⟨g4,H⟩:=ay H
 refine RS 4 rfl ⟨⟨(al g4).1,(al g4).2,rfl⟩,tv⟩ (NQ (Wt ?_))
 cases H
 exact Ea rfl rfl rfl tv
theorem me:aF Tryz.prog 126 Tryz.f126:=⟨Tryz.func126,rfl,by kernel_rfl⟩
theorem rB (a0:ah) (a1:ar) (a2:Int) {r:Int} (H:iC a0 a1 a2=some r):LJ.Spec Tryz.prog 104 [.d (.agg [slT ai a0.Decls,slT aa a0.Waits,slT ak a0.Funcs]), .d (.agg [.int .i64 a1.Op, .int .i64 a1.A, .int .i64 a1.B]), .d (.int .i64 a2)] [] (.d (.int .i64 r)) []:=by
 refine LJ.Spec.code Tryz.func104 rfl 39 rfl rfl [] rfl fun w0 F0 S0 B0=>?_
 unfold iC at H
 refine G (Ef 103 rfl (Ef 104 rfl (R 1 rfl (N (R 1 rfl (NS (G (R 4 rfl (Wx 6 3 true tk sg0 rfl rfl (fun _=>tv) (RS 1 rfl ⟨by first | exact id | exact fun h=>by rw [h];rfl | simp_all,tv⟩ (NQ (Wd rfl H (fun H=>?_) (fun H=>?_)))))))))))))
 ·refine Wg ?_
  obtain ⟨g2,H⟩:=ay H
  refine RS 8 rfl ⟨⟨(al g2).1,(al g2).2,rfl⟩,tv⟩ (N (R 3 rfl ?_))
  obtain ⟨x3,hx3,H⟩:=an H
  refine Cl [] (oZ _ _ hx3) o0 rfl tv rfl (R 2 rfl (NS (G (R 2 rfl (NQ (Wd rfl H (fun H=>?_) (fun H=>?_)))))))
  ·refine G (R 1 rfl (NQ (Wt (QT.r ?_))))
   cases H
   exact Ea rfl rfl rfl tv
  refine Wk (Qn (G (R 3 rfl ?_)))
  obtain ⟨x5,hx5,H⟩:=an H
  refine Cl [] (mc _ hx5) me rfl tv rfl (R 2 rfl (NQ (Wt ?_)))
  cases H
  exact Ea rfl rfl rfl tv
 refine Wk (Qn (G (R 3 rfl ?_)))
 obtain ⟨x6,hx6,H⟩:=an H
 refine Cl [] (oZ _ _ hx6) o0 rfl tv rfl (R 2 rfl (NS (G (R 2 rfl (NQ (Wd rfl H (fun H=>?_) (fun H=>?_)))))))
 ·refine G (R 1 rfl (NQ (Wt (QT.r ?_))))
  cases H
  exact Ea rfl rfl rfl tv
 refine Wk (Qn (G (R 3 rfl ?_)))
 obtain ⟨x8,hx8,H⟩:=an H
 refine Cl [] (mc _ hx8) me rfl tv rfl (R 2 rfl (NQ (Wt ?_)))
 cases H
 exact Ea rfl rfl rfl tv
theorem rC:aF Tryz.prog 104 Tryz.f104:=⟨Tryz.func104,rfl,by kernel_rfl⟩
theorem uY (a0:ar) (a1:Int) {r:List Int} (H:j6 a0 a1=some r):LJ.Spec Tryz.prog 105 [.d (.agg [.int .i64 a0.Op, .int .i64 a0.A, .int .i64 a0.B]), .d (.int .i64 a1)] [] (.d (slT aA r)) []:=by
 refine LJ.Spec.code Tryz.func105 rfl 34 rfl rfl [] rfl fun w0 F0 S0 B0=>?_
 unfold j6 at H
 refine G (Ef 102 rfl (R 1 rfl (N (Ef 106 rfl (R 1 rfl (NS (G (R 4 rfl (Wx 3 3 true tk sg0 rfl rfl (fun _=>tv) (RS 1 rfl ⟨by first | exact id | exact fun h=>by rw [h];rfl | simp_all,tv⟩ (NQ (Wd rfl H (fun H=>?_) (fun H=>?_)))))))))))))
 ·refine Wg (R 3 rfl (Ef 118 rfl (WL.freezeT 118 aA ([IntKind.i64.wrap (a1+1)]:List Int) rfl rfl rfl rfl (WL.row 106 (([]:List Int).map aA) rfl rfl rfl ?_))))
  obtain ⟨g2,H⟩:=ay H
  refine WL.appT aA ([]:List Int) ([IntKind.i64.wrap (a1+1)]:List Int) tk ek rfl rfl (fun _=>rfl) (fun _=>rfl) rfl rfl rfl rfl (bQ g2) rfl rfl rfl rfl rfl ?_
  refine R 1 rfl (NS (G (R 4 rfl (Wx 3 3 false tk sg0 rfl rfl (fun _=>tv) (RS 1 rfl ⟨by first | exact id | exact fun h=>by rw [h];rfl | simp_all,tv⟩ (NQ (Wd rfl H (fun H=>?_) (fun H=>?_))))))))
  ·refine Wg (R 3 rfl (Ef 131 rfl (WL.freezeT 131 aA ([a0.A]:List Int) rfl rfl rfl rfl ?_)))
   obtain ⟨g4,H⟩:=ay H
   refine WL.appT aA (([]:List Int)++([IntKind.i64.wrap (a1+1)]:List Int)) ([a0.A]:List Int) tk ek rfl rfl (fun _=>rfl) (fun _=>rfl) rfl rfl rfl rfl (bQ g4) rfl rfl rfl rfl rfl ?_
   refine R 1 rfl (N (R 2 rfl (NQ (WC.freezeT 106 aA ((([]:List Int)++([IntKind.i64.wrap (a1+1)]:List Int))++([a0.A]:List Int)) rfl rfl rfl rfl (Wt ?_)))))
   cases H
   exact Ea rfl rfl rfl tv
  refine Wk (Qn (G (R 2 rfl (NQ (WC.freezeT 106 aA (([]:List Int)++([IntKind.i64.wrap (a1+1)]:List Int)) rfl rfl rfl rfl (Wt ?_))))))
  cases H
  exact Ea rfl rfl rfl tv
 refine Wk (Qn (Ws (G (R 4 rfl (Wx 3 3 false tk sg0 rfl rfl (fun _=>tv) (RS 1 rfl ⟨by first | exact id | exact fun h=>by rw [h];rfl | simp_all,tv⟩ (NQ (Wd rfl H (fun H=>?_) (fun H=>?_)))))))))
 ·refine Wg (R 3 rfl (Ef 131 rfl (WL.freezeT 131 aA ([a0.A]:List Int) rfl rfl rfl rfl (WL.row 106 (([]:List Int).map aA) rfl rfl rfl ?_))))
  obtain ⟨g6,H⟩:=ay H
  refine WL.appT aA ([]:List Int) ([a0.A]:List Int) tk ek rfl rfl (fun _=>rfl) (fun _=>rfl) rfl rfl rfl rfl (bQ g6) rfl rfl rfl rfl rfl ?_
  refine R 1 rfl (N (R 2 rfl (NQ (WC.freezeT 106 aA (([]:List Int)++([a0.A]:List Int)) rfl rfl rfl rfl (Wt ?_)))))
  cases H
  exact Ea rfl rfl rfl tv
 refine Wk (Qn (G (R 2 rfl (NQ (WC.freezeT 106 aA ([]:List Int) rfl rfl rfl rfl (Wt ?_))))))
 cases H
 exact Ea rfl rfl rfl tv
theorem uZ:aF Tryz.prog 105 Tryz.f105:=⟨Tryz.func105,rfl,by kernel_rfl⟩
theorem wD (a0:ah) (a1:List ar) (a2:List Int) (a3:Int) {r:Int×(List Int)} (H:iE a0 a1 a2 a3=some r):LJ.Spec Tryz.prog 81 [.d (.agg [slT ai a0.Decls,slT aa a0.Waits,slT ak a0.Funcs]), .d (slT aE a1), .own 0, .d (.int .i64 a3)] [(0, .row 3 1 (a2.map aA))] (.tup [.own 0, .d (.int .i64 r.1)]) [(0, .row 3 1 (r.2.map aA))]:=by
 refine LJ.Spec.code Tryz.func81 rfl 77 rfl rfl [] rfl fun w0 F0 S0 B0=>?_
 unfold iE at H
 refine G (Ef 104 rfl (R 2 rfl (NS (Hp (.one 0 true (.one 1 true (.one 2 true (.one 3 true (.one 4 true (.one 5 true (.one 6 true (.one 7 false (.one 8 false (.one 9 false (.one 10 true .done))))))))))) [104] [104] rfl (by kernel_rfl) rfl (by kernel_rfl) rfl rfl (fun _ h=>h) rfl rfl rfl (fun _ _ _ h=>h) fun FK NK wK K=>?_))))
 obtain ⟨g1,H⟩:=ay H
 refine Hr 5 tk rfl rfl rfl rfl ⟨⟨(al g1).1,(al g1).2,rfl⟩,tv⟩ (WH.mv rfl rfl rfl rfl rfl rfl rfl rfl rfl (Hr 1 tk rfl rfl rfl rfl tv ?_))
 obtain ⟨g2,H⟩:=ay H
 refine WH.yvs rfl (LJ.Y.idxRel aA a2 a3 tk rfl rfl rfl rfl rfl (al g2)) rfl rfl rfl rfl rfl (WH.yvs rfl (LJ.Y.loadRel aA a2 a3 0 rfl rfl (fun _=>rfl) rfl (by kernel_rfl) rfl (by first | exact al g2 | (have:=al g2;simpa only [List.length_set,List.length_map] using this))) rfl rfl rfl rfl rfl ?_)
 obtain ⟨x3,hx3,H⟩:=an H
 refine WH.call [] rfl (rB _ _ _ hx3) rC rfl rfl tv rfl rfl rfl rfl rfl (Hr 1 tk rfl rfl rfl rfl tv (WH.nil rfl (Qn (Ws (G (R 2 rfl (NQ (Wd rfl H (fun H=>?_) (fun H=>?_)))))))))
 ·refine G (R 3 rfl (NQ (Wt (QT.r ?_))))
  cases H
  exact Ea rfl rfl rfl p1
 refine Wk (Qn (Ws (G (R 2 rfl (NQ (Wd rfl H (fun H=>?_) (fun H=>?_)))))))
 ·refine G (R 3 rfl (NQ (Wt (QT.r ?_))))
  cases H
  exact Ea rfl rfl rfl p1
 refine Wk (Qn (G ?_))
 obtain ⟨g6,H⟩:=ay H
 refine RS 5 rfl ⟨⟨(al g6).1,(al g6).2,rfl⟩,tv⟩ ?_
 obtain ⟨x7,hx7,H⟩:=an H
 refine Cl [] (uY _ _ hx7) uZ rfl tv rfl (R 1 rfl (NS (G (R 1 rfl (NQ (Wb (Wl (ι:= {x:Nat×(Int×(List Int)) //cK a1 x3 x7 x.1 x.2=some r}) (fun x=>[(1, .d (slT aE a1)),(2, .own 0),(10, .d (.int .i64 x3)),(11, .d (slT aA x7)),(12, .d (.int .i64 x.1.2.1))]) (fun x=>[(0, .row 3 1 (x.1.2.2.map aA))]) (fun x=>x.1.1) ⟨(fuel,(0,a2)),H⟩ (Lm p5 p1) fun x=>?_)))))))
 obtain ⟨⟨k9,s8⟩,H⟩:=x
 rcases k9 with _ | k9
 ·exact aO H
 rw [cK] at H
 refine Ws (G (R 4 rfl (NQ (Wd rfl H (fun H=>?_) (fun H=>?_)))))
 ·refine Wk (Qn (Ws (Wb (Ws (G ?_)))))
  obtain ⟨g11,H⟩:=ay H
  refine RS 7 rfl ⟨⟨(al g11).1,(al g11).2,rfl⟩,tv⟩ (NQ (Wd rfl H (fun H=>?_) (fun H=>?_)))
  ·refine G (R 3 rfl (NQ (Wt (QT.r (QB.r (QT.r (QT.r (QB.r (QT.r ?_)))))))))
   cases H
   exact Ea rfl rfl rfl p1
  refine Wk (Qn (Ws (G ?_)))
  obtain ⟨g13,H⟩:=ay H
  refine RS 5 rfl ⟨⟨(al g13).1,(al g13).2,rfl⟩,tv⟩ ?_
  obtain ⟨g14,H⟩:=ay H
  refine WL.yv (LJ.Y.idxRel aA s8.2 (x7.getD s8.1.toNat default) tk rfl rfl rfl rfl rfl (al g14)) rfl rfl rfl (WL.yv (LJ.Y.loadRel aA s8.2 (x7.getD s8.1.toNat default) 0 rfl rfl (fun _=>rfl) rfl (by kernel_rfl) rfl (by first | exact al g14 | (have:=al g14;simpa only [List.length_set,List.length_map] using this))) rfl rfl rfl (R 2 rfl (WL.split (g:=57) rfl (fun h15=>?_) (fun h15=>?_))))
  ·replace H:=of_t H h15
   obtain ⟨g16,H⟩:=ay H
   refine WL.grun 5 8 true 57 tk sg0 rfl rfl rfl rfl ⟨⟨(al g16).1,(al g16).2,rfl⟩,tv⟩ ?_
   obtain ⟨g17,H⟩:=ay H
   refine WL.gyv (LJ.Y.idxRel aA s8.2 (x7.getD s8.1.toNat default) tk rfl rfl rfl rfl rfl (al g17)) rfl rfl rfl rfl rfl rfl (WL.gyv (LJ.Y.loadRel aA s8.2 (x7.getD s8.1.toNat default) 0 rfl rfl (fun _=>rfl) rfl (by kernel_rfl) rfl (by first | exact al g17 | (have:=al g17;simpa only [List.length_set,List.length_map] using this))) rfl rfl rfl rfl rfl rfl (WL.grun 2 8 true 57 tk sg0 rfl rfl rfl rfl tv (WL.pickT rfl rfl rfl rfl rfl rfl (NQ (Wd rfl H (fun H=>?_) (fun H=>?_))))))
   ·refine G (R 3 rfl (NQ (Wt (QT.r (QB.r (QT.r (QT.r (QB.r (QT.r ?_)))))))))
    cases H
    exact Ea rfl rfl rfl p1
   refine Wk (Qn (Wg ?_))
   obtain ⟨g19,H⟩:=ay H
   refine RS 6 rfl ⟨⟨(al g19).1,(al g19).2,rfl⟩,tv⟩ ?_
   obtain ⟨g20,H⟩:=ay H
   refine WL.yv (LJ.Y.idxRel aA s8.2 (x7.getD s8.1.toNat default) tk rfl rfl rfl rfl rfl (al g20)) rfl rfl rfl (WL.storeRel aA s8.2 (x7.getD s8.1.toNat default) 0 x3 (.int .i64 x3) rfl rfl rfl rfl (fun _=>rfl) rfl (by kernel_rfl) rfl rfl (by first | exact al g20 | (have:=al g20;simpa only [List.length_set,List.length_map] using this)) rfl rfl rfl rfl ?_)
   refine Wn (Qb (Qn ?_))
   exact Wg (R 3 rfl (NQ (⟨⟨(k9,(IntKind.i64.wrap (s8.1+1),s8.2.set (x7.getD s8.1.toNat default).toNat x3)),H⟩,Z,Lm p5 p1⟩)))
  ·replace H:=of_f H h15
   refine WL.gskips 9 8 true 57 rfl rfl rfl rfl (WL.pickF rfl rfl rfl rfl rfl rfl (NQ (Wc rfl (fun h=>absurd h (by decide)) (fun h=>?_))))
   refine Wk (Qn (Wg ?_))
   obtain ⟨g21,H⟩:=ay H
   refine RS 6 rfl ⟨⟨(al g21).1,(al g21).2,rfl⟩,tv⟩ ?_
   obtain ⟨g22,H⟩:=ay H
   refine WL.yv (LJ.Y.idxRel aA s8.2 (x7.getD s8.1.toNat default) tk rfl rfl rfl rfl rfl (al g22)) rfl rfl rfl (WL.storeRel aA s8.2 (x7.getD s8.1.toNat default) 0 x3 (.int .i64 x3) rfl rfl rfl rfl (fun _=>rfl) rfl (by kernel_rfl) rfl rfl (by first | exact al g22 | (have:=al g22;simpa only [List.length_set,List.length_map] using this)) rfl rfl rfl rfl ?_)
   refine Wn (Qb (Qn ?_))
   exact Wg (R 3 rfl (NQ (⟨⟨(k9,(IntKind.i64.wrap (s8.1+1),s8.2.set (x7.getD s8.1.toNat default).toNat x3)),H⟩,Z,Lm p5 p1⟩)))
 refine WC.exit (Qx (Qx (Qh (Qn ?_))))
 refine G (R 3 rfl (NQ (Wt ?_)))
 cases H
 exact Ea rfl rfl rfl p1
theorem wE (n0:Nat) (hn:cJ [n0]=true) (a0:ah) (a1:List ar) (a2:List Int) (a3:Int) {r:Int×(List Int)} (H:iE a0 a1 a2 a3=some r):LJ.Spec Tryz.prog 81 [.d (.agg [slT ai a0.Decls,slT aa a0.Waits,slT ak a0.Funcs]), .d (slT aE a1), .own n0, .d (.int .i64 a3)] [(n0, .row 3 1 (a2.map aA))] (.tup [.own n0, .d (.int .i64 r.1)]) [(n0, .row 3 1 (r.2.map aA))]:=
 Spec.names [n0] hn rfl rfl (wD a0 a1 a2 a3 H)
theorem wF:aF Tryz.prog 81 Tryz.f81:=⟨Tryz.func81,rfl,by kernel_rfl⟩
theorem yJ (a0:ah) (a1:Int) {r:(List Int)×Int×Int} (H:jI a0 a1=some r):LJ.Spec Tryz.prog 48 [.d (.agg [slT ai a0.Decls,slT aa a0.Waits,slT ak a0.Funcs]), .d (.int .i64 a1)] [] (.tup [.d (slT aA r.1), .d (.int .i64 r.2.1), .d (.int .i64 r.2.2)]) []:=by
 refine LJ.Spec.code Tryz.func48 rfl 100 rfl rfl [] rfl fun w0 F0 S0 B0=>?_
 unfold jI at H
 refine G (Ef 102 rfl (R 3 rfl (NS (G (R 3 rfl (Wx 5 2 false tk sg0 rfl rfl (fun _=>tv) (RS 1 rfl ⟨by first | exact id | exact fun h=>by rw [h];rfl | simp_all,tv⟩ (NQ (Wd rfl H (fun H=>?_) (fun H=>?_))))))))))
 ·refine G (R 3 rfl (NQ (WC.nilT 4 aA rfl (Wt (QT.r ?_)))))
  cases H
  exact Ea rfl rfl rfl tv
 refine Wk (Qn (G ?_))
 obtain ⟨g2,H⟩:=ay H
 refine RS 7 rfl ⟨⟨(al g2).1,(al g2).2,rfl⟩,tv⟩ (NS (G (R 3 rfl (NQ (Wd rfl H (fun H=>?_) (fun H=>?_))))))
 ·refine G (R 3 rfl (NQ (WC.nilT 4 aA rfl (Wt (QT.r ?_)))))
  cases H
  exact Ea rfl rfl rfl tv
 refine Wk (Qn (Ws ?_))
 obtain ⟨g6_2_1,H⟩:=ay H
 obtain ⟨g6_5_1,H⟩:=ay H
 refine WC.heldF [(2, .ptr 102 0),(7, .d (slT aE ((a0.Funcs.getD a1.toNat default).Code))),(8, .own 136),(9, .own 139),(10, .d (.int .i64 (((a0.Funcs.getD a1.toNat default).Code).length:Int))),(11, .d (.int .i64 0))] [(102, .box 28 [.d (slT ai a0.Decls), .d (slT aa a0.Waits), .d (slT ak a0.Funcs)]),(136, .row 3 1 ((List.replicate (((a0.Funcs.getD a1.toNat default).Code).length:Int).toNat (0:Int)).map aA)),(139, .row 4 1 ((List.replicate (((a0.Funcs.getD a1.toNat default).Code).length:Int).toNat (false:Bool)).map bw))] (sT 0 (sT 1 (sT 3 (sT 4 (sT 6 (sT 7 (fk (sf 2 (sT 8 (sf 5 (sT 9 (sT 10 (sT 11 sd)))))) (sf 5 (sf 2 (sT 8 (sT 9 (sT 10 (sT 11 sd))))))))))))) [102] [102] rfl (by kernel_rfl) rfl (by kernel_rfl) rfl rfl (fun _ h=>h) rfl rfl rfl (fun FK NK wK K=>?_) ?_
 ·refine Hr 6 tk rfl rfl rfl rfl tv (WH.fork ?_ ?_)
  ·exact WH.makeT (r:=136) aA (0:Int) (((a0.Funcs.getD a1.toNat default).Code).length:Int) tk ek rfl rfl rfl rfl rfl rfl rfl rfl (qm g6_2_1) rfl rfl rfl rfl rfl rfl (WH.mv rfl rfl rfl rfl rfl rfl rfl rfl rfl (WH.makeT (r:=139) bw (false:Bool) (((a0.Funcs.getD a1.toNat default).Code).length:Int) tk ek rfl rfl rfl rfl rfl rfl rfl rfl (qm g6_5_1) rfl rfl rfl rfl rfl rfl (WH.mv rfl rfl rfl rfl rfl rfl rfl rfl rfl (Hr 2 tk rfl rfl rfl rfl tv (Hn rfl (Lw q6 p3))))))
  ·exact WH.makeT (r:=139) bw (false:Bool) (((a0.Funcs.getD a1.toNat default).Code).length:Int) tk ek rfl rfl rfl rfl rfl rfl rfl rfl (qm g6_5_1) rfl rfl rfl rfl rfl rfl (WH.makeT (r:=136) aA (0:Int) (((a0.Funcs.getD a1.toNat default).Code).length:Int) tk ek rfl rfl rfl rfl rfl rfl rfl rfl (qm g6_2_1) rfl rfl rfl rfl rfl rfl (WH.mv rfl rfl rfl rfl rfl rfl rfl rfl rfl (WH.mv rfl rfl rfl rfl rfl rfl rfl rfl rfl (Hr 2 tk rfl rfl rfl rfl tv (Hn rfl (Lw q6 p3))))))
 ·refine Qn (Ws (G (R 1 rfl (NQ (Wb (Wl (ι:= {x:Nat×(Int×(List Int)) //eu a0 a1 x.1 x.2=some r}) (fun x=>[(2, .ptr 102 0),(7, .d (slT aE ((a0.Funcs.getD a1.toNat default).Code))),(8, .own 136),(9, .own 139),(10, .d (.int .i64 (((a0.Funcs.getD a1.toNat default).Code).length:Int))),(11, .d (.int .i64 0)),(12, .d (.int .i64 x.1.2.1))]) (fun x=>[(102, .box 28 [.d (slT ai a0.Decls), .d (slT aa a0.Waits), .d (slT ak a0.Funcs)]),(136, .row 3 1 (x.1.2.2.map aA)),(139, .row 4 1 ((List.replicate (((a0.Funcs.getD a1.toNat default).Code).length:Int).toNat (false:Bool)).map bw))]) (fun x=>x.1.1) ⟨(fuel,(1,List.replicate (((a0.Funcs.getD a1.toNat default).Code).length:Int).toNat (0:Int))),H⟩ (Lm p7 p3) fun x=>?_))))))
  obtain ⟨⟨k5,s4⟩,H⟩:=x
  rcases k5 with _ | k5
  ·exact aO H
  rw [eu] at H
  refine Ws (G (R 4 rfl (NQ (Wd rfl H (fun H=>?_) (fun H=>?_)))))
  ·refine Wk (Qn (Ws (Wb (Wg (R 2 rfl ?_)))))
   obtain ⟨g7,H⟩:=ay H
   refine WL.yv (LJ.Y.idxRel aA s4.2 s4.1 tk rfl rfl rfl rfl rfl (al g7)) rfl rfl rfl (WL.storeRel aA s4.2 s4.1 0 (-1) (.int .i64 (-1)) rfl rfl rfl rfl (fun _=>rfl) rfl (by kernel_rfl) rfl rfl (by first | exact al g7 | (have:=al g7;simpa only [List.length_set,List.length_map] using this)) rfl rfl rfl rfl ?_)
   refine Wn (Qb (Qn ?_))
   exact Wg (R 3 rfl (NQ (⟨⟨(k5,(IntKind.i64.wrap (s4.1+1),s4.2.set s4.1.toNat (-1))),H⟩,Z,Lm p7 p3⟩)))
  refine WC.exit (Qx (Qx (Qh (Qn ?_))))
  obtain ⟨K8,hK8,H⟩:=db H
  refine WC.cut (fun E m=>∃ s9:Int×Int×(List Int),K8 s9=some r∧iA E m [(8, .own 136),(10, .d (.int .i64 s9.1)),(11, .d (.int .i64 s9.2.1))] [(136, .row 3 1 (s9.2.2.map aA))]) ?_ ?_
  ·refine Wb (Wl (ι:= {x:Nat×(Int×Int×(List Int)×(List Bool)) //du a0 a1 K8 x.1 x.2=some r}) (fun x=>[(2, .ptr 102 0),(7, .d (slT aE ((a0.Funcs.getD a1.toNat default).Code))),(8, .own 136),(9, .own 139),(10, .d (.int .i64 x.1.2.1)),(11, .d (.int .i64 x.1.2.2.1))]) (fun x=>[(102, .box 28 [.d (slT ai a0.Decls), .d (slT aa a0.Waits), .d (slT ak a0.Funcs)]),(136, .row 3 1 (x.1.2.2.2.1.map aA)),(139, .row 4 1 (x.1.2.2.2.2.map bw))]) (fun x=>x.1.1) ⟨(fuel,((((a0.Funcs.getD a1.toNat default).Code).length:Int),0,s4.2,List.replicate (((a0.Funcs.getD a1.toNat default).Code).length:Int).toNat (false:Bool))),H⟩ (Lm p6 p3) fun x=>?_)
   obtain ⟨⟨k11,s10⟩,H⟩:=x
   rcases k11 with _ | k11
   ·exact aO H
   rw [du] at H
   refine Wb (G (R 1 rfl (NQ ?_)))
   obtain ⟨K12,hK12,H⟩:=db H
   refine WC.cut (fun E m=>∃ s13:Int,K12 s13=some r∧iA E m [(2, .ptr 102 0),(7, .d (slT aE ((a0.Funcs.getD a1.toNat default).Code))),(8, .own 136),(9, .own 139),(10, .d (.int .i64 s10.1)),(11, .d (.int .i64 s10.2.1)),(13, .d (.int .i64 s13))] [(102, .box 28 [.d (slT ai a0.Decls), .d (slT aa a0.Waits), .d (slT ak a0.Funcs)]),(136, .row 3 1 (s10.2.2.1.map aA)),(139, .row 4 1 (s10.2.2.2.map bw))]) ?_ ?_
   ·refine Wb (Wl (ι:= {x:Nat×Int //cx a0 a1 s10 K12 x.1 x.2=some r}) (fun x=>[(2, .ptr 102 0),(7, .d (slT aE ((a0.Funcs.getD a1.toNat default).Code))),(8, .own 136),(9, .own 139),(10, .d (.int .i64 s10.1)),(11, .d (.int .i64 s10.2.1)),(13, .d (.int .i64 x.1.2))]) (fun x=>[(102, .box 28 [.d (slT ai a0.Decls), .d (slT aa a0.Waits), .d (slT ak a0.Funcs)]),(136, .row 3 1 (s10.2.2.1.map aA)),(139, .row 4 1 (s10.2.2.2.map bw))]) (fun x=>x.1.1) ⟨(fuel,0),H⟩ (Lm p7 p3) fun x=>?_)
    obtain ⟨⟨k15,s14⟩,H⟩:=x
    rcases k15 with _ | k15
    ·exact aO H
    rw [cx] at H
    refine Ws (G (R 5 rfl (WL.split (g:=55) rfl (fun h16=>?_) (fun h16=>?_))))
    ·replace H:=of_t H h16
     refine WL.grun 2 4 true 55 tk sg0 rfl rfl rfl rfl tv ?_
     obtain ⟨g17,H⟩:=ay H
     refine WL.gyv (LJ.Y.idxRel bw s10.2.2.2 s14 tk rfl rfl rfl rfl rfl (al g17)) rfl rfl rfl rfl rfl rfl (WL.gyv (LJ.Y.loadRel bw s10.2.2.2 s14 0 rfl rfl (fun _=>rfl) rfl (by kernel_rfl) rfl (by first | exact al g17 | (have:=al g17;simpa only [List.length_set,List.length_map] using this))) rfl rfl rfl rfl rfl rfl (WL.grun 1 4 true 55 tk sg0 rfl rfl rfl rfl tv (WL.split (g:=60) rfl (fun h18=>?_) (fun h18=>?_))))
     ·replace H:=of_t H h18
      refine WL.gskips 5 9 false 60 rfl rfl rfl rfl (WL.gpickT rfl rfl rfl rfl rfl rfl rfl rfl rfl (WL.pickT rfl rfl rfl rfl rfl rfl (NQ (Wc rfl (fun h=>?_) (fun h=>absurd h (by decide))))))
      refine Wk (Qn (Wb (Wg (R 3 rfl (Wn (Qb (Qn ?_)))))))
      exact ⟨⟨(k15,IntKind.i64.wrap (s14+1)),H⟩,Z,Lm p7 p3⟩
     ·replace H:=of_f H h18
      refine WL.grun 2 9 false 60 tk sg0 rfl rfl rfl rfl tv ?_
      obtain ⟨g19,H⟩:=ay H
      refine WL.gyv (LJ.Y.idxRel aA s10.2.2.1 s14 tk rfl rfl rfl rfl rfl (al g19)) rfl rfl rfl rfl rfl rfl (WL.gyv (LJ.Y.loadRel aA s10.2.2.1 s14 0 rfl rfl (fun _=>rfl) rfl (by kernel_rfl) rfl (by first | exact al g19 | (have:=al g19;simpa only [List.length_set,List.length_map] using this))) rfl rfl rfl rfl rfl rfl (WL.grun 1 9 false 60 tk sg0 rfl rfl rfl rfl tv (WL.gpickF rfl rfl rfl rfl rfl rfl rfl rfl rfl (WL.pickT rfl rfl rfl rfl rfl rfl (NQ (Wd rfl H (fun H=>?_) (fun H=>?_)))))))
      ·refine Wk (Qn (Wb (Wg (R 3 rfl (Wn (Qb (Qn ?_)))))))
       exact ⟨⟨(k15,IntKind.i64.wrap (s14+1)),H⟩,Z,Lm p7 p3⟩
      refine WC.exit (Qx (Qx (Qh (Qn ?_))))
      exact ⟨s14,H,Lw q7 p3⟩
    ·replace H:=of_f H h16
     refine WL.gskips 5 4 true 55 rfl rfl rfl rfl (WL.gskips 5 9 false 60 rfl rfl rfl rfl (WL.gskips 1 4 true 55 rfl rfl rfl rfl (WL.pickF rfl rfl rfl rfl rfl rfl (NQ (Wc rfl (fun h=>absurd h (by decide)) (fun h=>?_))))))
     refine WC.exit (Qx (Qx (Qh (Qn ?_))))
     exact ⟨s14,H,Lw q7 p3⟩
   ·rintro E m ⟨s13,H,hl⟩
    refine WC.lessW hl ?_
    replace H:=(hK12 _).symm.trans H
    try dsimp only at H
    refine Ws (G (R 4 rfl (NQ (Wd rfl H (fun H=>?_) (fun H=>?_)))))
    ·refine WC.exit (Qx (QB.miss rfl (Qx (Qh (Qn ?_)))))
     exact ⟨(s10.1,s10.2.1,s10.2.2.1),H,Lw q3 p1⟩
    refine Wk (Qn (G (R 4 rfl ?_)))
    obtain ⟨x22,hx22,H⟩:=an H
    refine Cl [136] (wE 136 rfl _ _ _ _ hx22) wF rfl p1 rfl (R 5 rfl (N (R 4 rfl ?_)))
    obtain ⟨g23,H⟩:=ay H
    refine WL.yv (LJ.Y.idxRel bw s10.2.2.2 s13 tk rfl rfl rfl rfl rfl (al g23)) rfl rfl rfl (WL.storeRel bw s10.2.2.2 s13 0 true (.bool true) rfl rfl rfl rfl (fun _=>rfl) rfl (by kernel_rfl) rfl rfl (by first | exact al g23 | (have:=al g23;simpa only [List.length_set,List.length_map] using this)) rfl rfl rfl rfl ?_)
    refine N (R 3 rfl (Wx 3 2 true tk sg0 rfl rfl (fun _=>tv) (RS 1 rfl ⟨by first | exact id | exact fun h=>by rw [h];rfl | simp_all,tv⟩ (NQ (Wd rfl H (fun H=>?_) (fun H=>?_))))))
    ·refine Wg (R 4 rfl (Wn (Qb (Qn ?_))))
     exact ⟨⟨(k11,(s13,x22.1,x22.2,s10.2.2.2.set s13.toNat true)),H⟩,Z,Lm p6 p3⟩
    refine Wk (Qb (Qn ?_))
    exact ⟨⟨(k11,(s10.1,s10.2.1,x22.2,s10.2.2.2.set s13.toNat true)),H⟩,Z,Lm p6 p3⟩
  ·rintro E m ⟨s9,H,hl⟩
   refine WC.lessW hl ?_
   replace H:=(hK8 _).symm.trans H
   try dsimp only at H
   refine Ws (G (R 2 rfl (NQ (Wd rfl H (fun H=>?_) (fun H=>?_)))))
   ·refine G (R 5 rfl (NQ (WC.nilT 4 aA rfl (Wt (QT.r ?_)))))
    cases H
    exact Ea rfl rfl rfl tv
   refine Wk (Qn (G (R 4 rfl (NQ (WC.freezeT 136 aA s9.2.2 rfl rfl rfl rfl (Wt ?_))))))
   cases H
   exact Ea rfl rfl rfl tv
theorem yK:aF Tryz.prog 48 Tryz.f48:=⟨Tryz.func48,rfl,by kernel_rfl⟩
theorem qN (a0:ah) {r:Int×Int×Int} (H:ew a0=some r):LJ.Spec Tryz.prog 20 [.d (.agg [slT ai a0.Decls,slT aa a0.Waits,slT ak a0.Funcs])] [] (.tup [.d (.int .i64 r.1), .d (.int .i64 r.2.1), .d (.int .i64 r.2.2)]) []:=by
 refine LJ.Spec.code Tryz.func20 rfl 94 rfl rfl [] rfl fun w0 F0 S0 B0=>?_
 unfold ew at H
 refine G (Ef 101 rfl (R 3 rfl (NS (G (R 1 rfl ?_)))))
 obtain ⟨x1,hx1,H⟩:=an H
 refine Cl [] (nO _ hx1) nP rfl tv rfl (R 1 rfl (N (R 2 rfl (NQ (Wd rfl H (fun H=>?_) (fun H=>?_))))))
 ·refine G (R 4 rfl (NQ (Wt (QT.r ?_))))
  cases H
  exact Ea rfl rfl rfl tv
 refine Wk (Qn (Ws (G ?_)))
 obtain ⟨g3,H⟩:=ay H
 refine RS 6 rfl ⟨⟨(al g3).1,(al g3).2,rfl⟩,tv⟩ (NQ (Wd rfl H (fun H=>?_) (fun H=>?_)))
 ·refine G (R 3 rfl (NQ (Wt (QT.r ?_))))
  cases H
  exact Ea rfl rfl rfl tv
 refine Wk (Qn (Ws (G (R 1 rfl (NQ (Wb (Wl (ι:= {x:Nat×Int //cL a0 x.1 x.2=some r}) (fun x=>[(1, .ptr 101 0),(6, .d (.int .i64 x.1.2))]) (fun x=>[(101, .box 28 [.d (slT ai a0.Decls), .d (slT aa a0.Waits), .d (slT ak a0.Funcs)])]) (fun x=>x.1.1) ⟨(fuel,0),H⟩ (Lm p2 p1) fun x=>?_)))))))
 obtain ⟨⟨k6,s5⟩,H⟩:=x
 rcases k6 with _ | k6
 ·exact aO H
 rw [cL] at H
 refine Ws (G (R 5 rfl (NQ (Wd rfl H (fun H=>?_) (fun H=>?_)))))
 ·refine Wk (Qn ?_)
  obtain ⟨K8,hK8,H⟩:=db H
  refine WC.cut (fun E m=>∃ s9:Unit,K8 s9=some r∧iA E m [(1, .ptr 101 0),(6, .d (.int .i64 s5))] [(101, .box 28 [.d (slT ai a0.Decls), .d (slT aa a0.Waits), .d (slT ak a0.Funcs)])]) ?_ ?_
  ·refine Wb (G ?_)
   obtain ⟨g10,H⟩:=ay H
   refine RS 5 rfl ⟨⟨(al g10).1,(al g10).2,rfl⟩,tv⟩ (Wa 107 tk rfl rfl rfl (Ef 0 rfl (NS (G (R 1 rfl (NQ (Wb (Wl (ι:= {x:Nat×Int //cR a0 s5 K8 x.1 x.2=some r}) (fun x=>[(1, .ptr 101 0),(6, .d (.int .i64 s5)),(7, .ptr 107 0),(8, .d (.int .i64 x.1.2))]) (fun x=>[(101, .box 28 [.d (slT ai a0.Decls), .d (slT aa a0.Waits), .d (slT ak a0.Funcs)]),(107, .box 98 [.d (.int .i64 ((a0.Funcs.getD s5.toNat default).Args)), .d (.int .i64 ((a0.Funcs.getD s5.toNat default).Locals)), .d (slT aE ((a0.Funcs.getD s5.toNat default).Code))])]) (fun x=>x.1.1) ⟨(fuel,0),H⟩ (Lm p4 p2) fun x=>?_))))))))
   obtain ⟨⟨k12,s11⟩,H⟩:=x
   rcases k12 with _ | k12
   ·exact aO H
   rw [cR] at H
   refine Ws (G (R 5 rfl (NQ (Wd rfl H (fun H=>?_) (fun H=>?_)))))
   ·refine Wk (Qn ?_)
    obtain ⟨K14,hK14,H⟩:=db H
    refine WC.cut (fun E m=>∃ s15:Unit,K14 s15=some r∧iA E m [(1, .ptr 101 0),(6, .d (.int .i64 s5)),(7, .ptr 107 0),(8, .d (.int .i64 s11))] [(101, .box 28 [.d (slT ai a0.Decls), .d (slT aa a0.Waits), .d (slT ak a0.Funcs)]),(107, .box 98 [.d (.int .i64 ((a0.Funcs.getD s5.toNat default).Args)), .d (.int .i64 ((a0.Funcs.getD s5.toNat default).Locals)), .d (slT aE ((a0.Funcs.getD s5.toNat default).Code))])]) ?_ ?_
    ·refine Wb (G ?_)
     obtain ⟨g16,H⟩:=ay H
     refine RS 5 rfl ⟨⟨(al g16).1,(al g16).2,rfl⟩,tv⟩ (Wa 109 tk rfl rfl rfl (Ef 0 rfl (NQ (Ws ?_))))
     obtain ⟨x14_2_1,hx14_2_1,H⟩:=an H
     refine WC.heldF [(1, .ptr 101 0),(6, .d (.int .i64 s5)),(7, .ptr 107 0),(8, .d (.int .i64 s11)),(9, .ptr 109 0),(10, .d (.str x14_2_1)),(11, .d (slT aA ([(((a0.Funcs.getD s5.toNat default).Code).getD s11.toNat default).A,(((a0.Funcs.getD s5.toNat default).Code).getD s11.toNat default).B]:List Int)))] [(101, .box 28 [.d (slT ai a0.Decls), .d (slT aa a0.Waits), .d (slT ak a0.Funcs)]),(107, .box 98 [.d (.int .i64 ((a0.Funcs.getD s5.toNat default).Args)), .d (.int .i64 ((a0.Funcs.getD s5.toNat default).Locals)), .d (slT aE ((a0.Funcs.getD s5.toNat default).Code))]),(109, .box 100 [.d (.int .i64 ((((a0.Funcs.getD s5.toNat default).Code).getD s11.toNat default).Op)), .d (.int .i64 ((((a0.Funcs.getD s5.toNat default).Code).getD s11.toNat default).A)), .d (.int .i64 ((((a0.Funcs.getD s5.toNat default).Code).getD s11.toNat default).B))])] (sT 0 (sT 1 (sT 3 (sT 4 (sT 5 (sT 6 (fk (sf 2 (sT 8 (sf 7 (sT 9 sd)))) (sf 7 (sf 2 (sT 8 (sT 9 sd))))))))))) [101,107,109] [101,107,109] rfl (by kernel_rfl) rfl (by kernel_rfl) rfl rfl (fun _ h=>h) rfl rfl rfl (fun FK NK wK K=>?_) ?_
     ·refine Hr 6 tk rfl rfl rfl rfl tv (WH.fork ?_ ?_)
      ·exact WH.call [] rfl (iK _ hx14_2_1) iL rfl rfl tv rfl rfl rfl rfl rfl (Hr 1 tk rfl rfl rfl rfl tv (He 159 tk ek rfl rfl rfl rfl tv rfl rfl (WH.freezeT 159 aA ([(((a0.Funcs.getD s5.toNat default).Code).getD s11.toNat default).A,(((a0.Funcs.getD s5.toNat default).Code).getD s11.toNat default).B]:List Int) rfl rfl rfl rfl (WH.mv rfl rfl rfl rfl rfl rfl rfl rfl rfl (Hn rfl (Lw q7 p3))))))
      ·exact He 159 tk ek rfl rfl rfl rfl tv rfl rfl (WH.freezeT 159 aA ([(((a0.Funcs.getD s5.toNat default).Code).getD s11.toNat default).A,(((a0.Funcs.getD s5.toNat default).Code).getD s11.toNat default).B]:List Int) rfl rfl rfl rfl (WH.call [] rfl (iK _ hx14_2_1) iL rfl rfl tv rfl rfl rfl rfl rfl (Hr 1 tk rfl rfl rfl rfl tv (WH.mv rfl rfl rfl rfl rfl rfl rfl rfl rfl (Hn rfl (Lw q7 p3))))))
     ·refine Qn (G (R 1 rfl (NQ (Wb (Wl (ι:= {x:Nat×Int //cQ a0 s5 s11 x14_2_1 K14 x.1 x.2=some r}) (fun x=>[(1, .ptr 101 0),(6, .d (.int .i64 s5)),(7, .ptr 107 0),(8, .d (.int .i64 s11)),(9, .ptr 109 0),(10, .d (.str x14_2_1)),(11, .d (slT aA ([(((a0.Funcs.getD s5.toNat default).Code).getD s11.toNat default).A,(((a0.Funcs.getD s5.toNat default).Code).getD s11.toNat default).B]:List Int))),(12, .d (.int .i64 x.1.2))]) (fun x=>[(101, .box 28 [.d (slT ai a0.Decls), .d (slT aa a0.Waits), .d (slT ak a0.Funcs)]),(107, .box 98 [.d (.int .i64 ((a0.Funcs.getD s5.toNat default).Args)), .d (.int .i64 ((a0.Funcs.getD s5.toNat default).Locals)), .d (slT aE ((a0.Funcs.getD s5.toNat default).Code))]),(109, .box 100 [.d (.int .i64 ((((a0.Funcs.getD s5.toNat default).Code).getD s11.toNat default).Op)), .d (.int .i64 ((((a0.Funcs.getD s5.toNat default).Code).getD s11.toNat default).A)), .d (.int .i64 ((((a0.Funcs.getD s5.toNat default).Code).getD s11.toNat default).B))])]) (fun x=>x.1.1) ⟨(fuel,0),H⟩ (Lm p8 p3) fun x=>?_)))))
      obtain ⟨⟨k18,s17⟩,H⟩:=x
      rcases k18 with _ | k18
      ·exact aO H
      rw [cQ] at H
      refine Ws (G (R 4 rfl (NQ (Wd rfl H (fun H=>?_) (fun H=>?_)))))
      ·refine Wk (Qn (Ws (Wb (Ws (Hp (.one 0 true (.one 1 true (.one 2 true (.one 3 true (.one 4 true (.one 5 true (.one 6 true (.one 7 true (.one 8 true (.one 9 true (.one 10 false (.one 11 true .done)))))))))))) [101,107,109] [101,107,109] rfl (by kernel_rfl) rfl (by kernel_rfl) rfl rfl (fun _ h=>h) rfl rfl rfl (fun _ _ _ h=>h) fun FK NK wK K=>?_)))))
       obtain ⟨g20,H⟩:=ay H
       obtain ⟨g21,H⟩:=ay H
       refine Hr 10 tk rfl rfl rfl rfl ⟨(al g20),⟨(al g21).1,(al g21).2,rfl⟩,tv⟩ ?_
       obtain ⟨x22,hx22,H⟩:=an H
       refine WH.call [] rfl (qL _ _ _ _ _ hx22) qM rfl rfl tv rfl rfl rfl rfl rfl (Hr 1 tk rfl rfl rfl rfl tv (WH.nil rfl (Qn (G (R 2 rfl (NQ (Wd rfl H (fun H=>?_) (fun H=>?_))))))))
       ·refine G (R 6 rfl (NQ (Wt (QB.r (QT.r (QT.r (QB.r (QB.r (QT.r (QT.r (QB.r (QT.r (QB.r (QT.r (QT.r (QB.r (QT.r ?_)))))))))))))))))
        cases H
        exact Ea rfl rfl rfl tv
       refine Wk (Qb (Qn ?_))
       exact Wg (R 3 rfl (NQ (⟨⟨(k18,IntKind.i64.wrap (s17+1)),H⟩,Z,Lm p8 p3⟩)))
      refine WC.exit (Qx (Qx (Qh (Qb (Qn ?_)))))
      exact ⟨Unit.unit,H,Lw q4 p2⟩
    ·rintro E m ⟨s15,H,hl⟩
     refine WC.lessW hl ?_
     replace H:=(hK14 _).symm.trans H
     try dsimp only at H
     exact Wg (R 3 rfl (NQ (⟨⟨(k12,IntKind.i64.wrap (s11+1)),H⟩,Z,Lm p4 p2⟩)))
   refine WC.exit (Qx (Qx (Qh (Qn ?_))))
   refine G (R 2 rfl ?_)
   obtain ⟨x24,hx24,H⟩:=an H
   refine Cl [] (yJ _ _ hx24) yK rfl tv rfl (R 7 rfl (N (R 2 rfl (NQ (Wd rfl H (fun H=>?_) (fun H=>?_))))))
   ·refine G (R 6 rfl (NQ (Wt (QB.r (QT.r (QT.r (QB.r (QT.r ?_))))))))
    cases H
    exact Ea rfl rfl rfl tv
   refine Wk (Qb (Qn ?_))
   exact ⟨Unit.unit,H,Lw q2 p1⟩
  ·rintro E m ⟨s9,H,hl⟩
   refine WC.lessW hl ?_
   replace H:=(hK8 _).symm.trans H
   try dsimp only at H
   exact Wg (R 3 rfl (NQ (⟨⟨(k6,IntKind.i64.wrap (s5+1)),H⟩,Z,Lm p2 p1⟩)))
 refine WC.exit (Qx (Qx (Qh (Qn ?_))))
 refine G (R 3 rfl (NQ (Wt ?_)))
 cases H
 exact Ea rfl rfl rfl tv
theorem qO:aF Tryz.prog 20 Tryz.f20:=⟨Tryz.func20,rfl,by kernel_rfl⟩
theorem tw (a0:aw) {r:Int} (H:fZ a0=some r):LJ.Spec Tryz.prog 8 [.d (.agg [.int .i64 a0.Config.Mode, .int .i64 a0.Config.Workers, .int .i64 a0.Config.Quantum, .int .i64 a0.Config.Policy,slT ai a0.Program.Decls,slT aa a0.Program.Waits,slT ak a0.Program.Funcs,slT aC a0.Events])] [] (.d (.int .i64 r)) []:=by
 refine LJ.Spec.code Tryz.func8 rfl 54 rfl rfl [] rfl fun w0 F0 S0 B0=>?_
 unfold fZ at H
 refine G (Ef 101 rfl (R 1 rfl (NS (G (R 2 rfl ?_)))))
 obtain ⟨x1,hx1,H⟩:=an H
 refine Cl [] (rr _ hx1) ry rfl tv rfl (R 1 rfl (NQ (Wd rfl H (fun H=>?_) (fun H=>?_))))
 ·refine G (R 1 rfl (NQ (Wt (QT.r ?_))))
  cases H
  exact Ea rfl rfl rfl tv
 refine Wk (Qn (Ws (G (R 2 rfl ?_))))
 obtain ⟨x3,hx3,H⟩:=an H
 refine Cl [] (qN _ hx3) qO rfl tv rfl (R 7 rfl (N (R 2 rfl (NQ (Wd rfl H (fun H=>?_) (fun H=>?_))))))
 ·refine G (R 2 rfl (NQ (Wt (QT.r ?_))))
  cases H
  exact Ea rfl rfl rfl tv
 refine Wk (Qn (Ws (G (R 4 rfl (NQ (Wd rfl H (fun H=>?_) (fun H=>?_)))))))
 ·refine G (R 1 rfl (NQ (Wt (QT.r ?_))))
  cases H
  exact Ea rfl rfl rfl tv
 refine Wk (Qn (Ws (G (R 1 rfl (NQ (Wb (Wl (ι:= {x:Nat×Int //dU a0 x.1 x.2=some r}) (fun x=>[(1, .ptr 101 0),(6, .d (.int .i64 x.1.2))]) (fun x=>[(101, .box 31 [.d (.int .i64 a0.Config.Mode), .d (.int .i64 a0.Config.Workers), .d (.int .i64 a0.Config.Quantum), .d (.int .i64 a0.Config.Policy), .d (slT ai a0.Program.Decls), .d (slT aa a0.Program.Waits), .d (slT ak a0.Program.Funcs), .d (slT aC a0.Events)])]) (fun x=>x.1.1) ⟨(fuel,0),H⟩ (Lm p2 p1) fun x=>?_)))))))
 obtain ⟨⟨k7,s6⟩,H⟩:=x
 rcases k7 with _ | k7
 ·exact aO H
 rw [dU] at H
 refine Ws (G (R 5 rfl (NQ (Wd rfl H (fun H=>?_) (fun H=>?_)))))
 ·refine Wk (Qn (Ws (Wb (G ?_))))
  obtain ⟨g9,H⟩:=ay H
  refine RS 5 rfl ⟨⟨(al g9).1,(al g9).2,rfl⟩,tv⟩ (Wa 107 tk rfl rfl rfl (Ef 0 rfl (NS (G (R 4 rfl (Wx 3 3 true tk sg0 rfl rfl (fun _=>tv) (RS 1 rfl ⟨by first | exact id | exact fun h=>by rw [h];rfl | simp_all,tv⟩ (NQ (Wd rfl H (fun H=>?_) (fun H=>?_))))))))))
  ·refine G (R 1 rfl (NQ (Wt (QT.r (QB.r (QT.r (QT.r (QB.r (QT.r ?_)))))))))
   cases H
   exact Ea rfl rfl rfl tv
  refine Wk (Qn (G (R 4 rfl (Wx 3 3 true tk sg0 rfl rfl (fun _=>tv) (RS 1 rfl ⟨by first | exact id | exact fun h=>by rw [h];rfl | simp_all,tv⟩ (NQ (Wd rfl H (fun H=>?_) (fun H=>?_))))))))
  ·refine G (R 1 rfl (NQ (Wt (QB.r (QT.r (QT.r (QB.r (QT.r ?_))))))))
   cases H
   exact Ea rfl rfl rfl tv
  refine Wk (Qb (Qn ?_))
  exact Wg (R 3 rfl (NQ (⟨⟨(k7,IntKind.i64.wrap (s6+1)),H⟩,Z,Lm p2 p1⟩)))
 refine WC.exit (Qx (Qx (Qh (Qn ?_))))
 refine G (R 1 rfl (NQ (Wt ?_)))
 cases H
 exact Ea rfl rfl rfl tv
theorem tz:aF Tryz.prog 8 Tryz.f8:=⟨Tryz.func8,rfl,by kernel_rfl⟩
theorem kP (a0:Int) (a1:Int) (a2:Int) {r:Bool} (H:jm a0 a1 a2=some r):LJ.Spec Tryz.prog 28 [.d (.int .i64 a0), .d (.int .i64 a1), .d (.int .i64 a2)] [] (.d (.bool r)) []:=by
 refine LJ.Spec.code Tryz.func28 rfl 15 rfl rfl [] rfl fun w0 F0 S0 B0=>?_
 unfold jm at H
 refine G (R 1 rfl (N (R 4 rfl (Wx 3 3 true tk sg0 rfl rfl (fun _=>tv) (RS 2 rfl ⟨by first | exact id | exact fun h=>by rw [h];rfl | simp_all,tv⟩ (NQ (Wt ?_)))))))
 cases H
 exact Ea rfl rfl rfl tv
theorem kQ:aF Tryz.prog 28 Tryz.f28:=⟨Tryz.func28,rfl,by kernel_rfl⟩
theorem qP (a0:aM) {r:Int} (H:fv a0=some r):LJ.Spec Tryz.prog 11 [.d (.agg [.int .i64 a0.Mode, .int .i64 a0.Workers, .int .i64 a0.Quantum, .int .i64 a0.Policy])] [] (.d (.int .i64 r)) []:=by
 refine LJ.Spec.code Tryz.func11 rfl 21 rfl rfl [] rfl fun w0 F0 S0 B0=>?_
 unfold fv at H
 refine G (Ef 101 rfl (R 1 rfl (NS (G (R 2 rfl ?_)))))
 obtain ⟨x1,hx1,H⟩:=an H
 refine Cl [] (kP _ _ _ hx1) kQ rfl tv rfl (R 1 rfl ?_)
 obtain ⟨x2,hx2,H⟩:=an H
 refine Wx 3 3 true tk [PSig.at' kQ (x1=true) rfl (fun hb=>kP _ _ _ (of_t hx2 hb))] rfl rfl (fun hb=>⟨⟨hb,rfl⟩,tv⟩) (RS 2 rfl ⟨by first | exact id | exact fun h=>by rw [h];rfl | simp_all,tv⟩ ?_)
 obtain ⟨x3,hx3,H⟩:=an H
 refine Wx 3 8 true tk [PSig.at' kQ ((x1&&x2)=true) rfl (fun hb=>kP _ _ _ (of_t hx3 hb))] rfl rfl (fun hb=>⟨⟨hb,rfl⟩,tv⟩) (RS 2 rfl ⟨by first | exact id | exact fun h=>by rw [h];rfl | simp_all,tv⟩ ?_)
 obtain ⟨x4,hx4,H⟩:=an H
 refine Wx 3 13 true tk [PSig.at' kQ (((x1&&x2)&&x3)=true) rfl (fun hb=>kP _ _ _ (of_t hx4 hb))] rfl rfl (fun hb=>⟨⟨hb,rfl⟩,tv⟩) (RS 1 rfl ⟨by first | exact id | exact fun h=>by rw [h];rfl | simp_all,tv⟩ (NQ (Wd rfl H (fun H=>?_) (fun H=>?_))))
 ·refine G (R 1 rfl (NQ (Wt (QT.r ?_))))
  cases H
  exact Ea rfl rfl rfl tv
 refine Wk (Qn (G (R 1 rfl (NQ (Wt ?_)))))
 cases H
 exact Ea rfl rfl rfl tv
theorem qQ:aF Tryz.prog 11 Tryz.f11:=⟨Tryz.func11,rfl,by kernel_rfl⟩
theorem o3 (a0:Int) (a1:Int) {r:Bool} (H:j7 a0 a1=some r):LJ.Spec Tryz.prog 127 [.d (.int .i64 a0), .d (.int .i64 a1)] [] (.d (.bool r)) []:=by
 refine LJ.Spec.code Tryz.func127 rfl 12 rfl rfl [] rfl fun w0 F0 S0 B0=>?_
 unfold j7 at H
 refine G (R 1 rfl (N (R 4 rfl (Wx 2 3 true tk sg0 rfl rfl (fun _=>tv) (RS 2 rfl ⟨by first | exact id | exact fun h=>by rw [h];rfl | simp_all,tv⟩ (NQ (Wt ?_)))))))
 cases H
 exact Ea rfl rfl rfl tv
theorem o4:aF Tryz.prog 127 Tryz.f127:=⟨Tryz.func127,rfl,by kernel_rfl⟩
theorem qR (a0:Int) {r:Bool} (H:j8 a0=some r):LJ.Spec Tryz.prog 128 [.d (.int .i64 a0)] [] (.d (.bool r)) []:=by
 refine LJ.Spec.code Tryz.func128 rfl 8 rfl rfl [] rfl fun w0 F0 S0 B0=>?_
 unfold j8 at H
 refine G (R 1 rfl (N (R 6 rfl (NQ (Wt ?_)))))
 cases H
 exact Ea rfl rfl rfl tv
theorem qS:aF Tryz.prog 128 Tryz.f128:=⟨Tryz.func128,rfl,by kernel_rfl⟩
theorem gi (a0:List ab) (a1:Int) (a2:Int) {r:Bool} (H:fi a0 a1 a2=some r):LJ.Spec Tryz.prog 113 [.d (slT ai a0), .d (.int .u8 a1), .d (.int .i64 a2)] [] (.d (.bool r)) []:=by
 refine LJ.Spec.code Tryz.func113 rfl 62 rfl rfl [] rfl fun w0 F0 S0 B0=>?_
 unfold fi at H
 refine G (R 1 rfl (NS (G (R 3 rfl (Wx 4 2 false tk sg0 rfl rfl (fun _=>tv) (RS 1 rfl ⟨by first | exact id | exact fun h=>by rw [h];rfl | simp_all,tv⟩ (NQ (Wd rfl H (fun H=>?_) (fun H=>?_)))))))))
 ·refine G (R 1 rfl (NQ (Wt (QT.r ?_))))
  cases H
  exact Ea rfl rfl rfl tv
 refine Wk (Qn (G ?_))
 obtain ⟨g2,H⟩:=ay H
 refine RS 6 rfl ⟨⟨(al g2).1,(al g2).2,rfl⟩,tv⟩ (NS (G (R 1 rfl (NQ (Wb (G (R 2 rfl (NQ (Wd rfl H (fun H=>?_) (fun H=>?_))))))))))
 ·refine G (R 3 rfl (Wx 2 2 false tk sg0 rfl rfl (fun _=>tv) (RS 2 rfl ⟨by first | exact id | exact fun h=>by rw [h];rfl | simp_all,tv⟩ (NQ (Wt (QB.r (QT.r ?_)))))))
  cases H
  exact Ea rfl rfl rfl tv
 refine G (R 2 rfl (NQ (Wd rfl H (fun H=>?_) (fun H=>?_))))
 ·refine G (R 3 rfl (NQ (Wt (QB.r (QT.r ?_)))))
  cases H
  exact Ea rfl rfl rfl tv
 refine G (R 2 rfl (NQ (Wd rfl H (fun H=>?_) (fun H=>?_))))
 ·refine G (R 3 rfl (NQ (Wt (QB.r (QT.r ?_)))))
  cases H
  exact Ea rfl rfl rfl tv
 refine G (R 2 rfl (NQ (Wd rfl H (fun H=>?_) (fun H=>?_))))
 ·refine G (R 3 rfl (NQ (Wt (QB.r (QT.r ?_)))))
  cases H
  exact Ea rfl rfl rfl tv
 refine G (R 2 rfl (NQ (Wd rfl H (fun H=>?_) (fun H=>?_))))
 ·refine G (R 3 rfl (NQ (Wt (QB.r (QT.r ?_)))))
  cases H
  exact Ea rfl rfl rfl tv
 refine G (R 2 rfl (NQ (Wd rfl H (fun H=>?_) (fun H=>?_))))
 ·refine G (R 3 rfl (NQ (Wt (QB.r (QT.r ?_)))))
  cases H
  exact Ea rfl rfl rfl tv
 refine G (R 2 rfl (NQ (Wd rfl H (fun H=>?_) (fun H=>?_))))
 ·refine G (R 3 rfl (NQ (Wt (QB.r (QT.r ?_)))))
  cases H
  exact Ea rfl rfl rfl tv
 refine G (R 2 rfl (NQ (Wd rfl H (fun H=>?_) (fun H=>?_))))
 ·refine G (R 3 rfl (Wx 2 2 false tk sg0 rfl rfl (fun _=>tv) (RS 2 rfl ⟨by first | exact id | exact fun h=>by rw [h];rfl | simp_all,tv⟩ (NQ (Wt (QB.r (QT.r ?_)))))))
  cases H
  exact Ea rfl rfl rfl tv
 refine Wk (Qb (Qn ?_))
 refine G (R 1 rfl (NQ (Wt ?_)))
 cases H
 exact Ea rfl rfl rfl tv
theorem gj:aF Tryz.prog 113 Tryz.f113:=⟨Tryz.func113,rfl,by kernel_rfl⟩
theorem yL (a0:List ab) (a1:ab) {r:Int} (H:nc a0 a1=some r):LJ.Spec Tryz.prog 106 [.d (slT ai a0), .d (.agg [.int .i64 a1.Kind, .int .i64 a1.A, .int .i64 a1.B])] [] (.d (.int .i64 r)) []:=by
 refine LJ.Spec.code Tryz.func106 rfl 62 rfl rfl [] rfl fun w0 F0 S0 B0=>?_
 unfold nc at H
 refine G (Ef 103 rfl (R 1 rfl (NS (Hp (.one 0 true (.one 1 true (.one 2 true (.one 3 true (.one 4 true (.one 5 true (.one 6 true (.one 7 true (.one 8 true (.one 9 true .done)))))))))) [103] [103] rfl (by kernel_rfl) rfl (by kernel_rfl) rfl rfl (fun _ h=>h) rfl rfl rfl (fun _ _ _ h=>h) fun FK NK wK K=>(Hr 4 tk rfl rfl rfl rfl tv (WH.sect 3 3 true tk rfl rfl rfl rfl (fun _=>tv) (Hr 3 tk rfl rfl rfl rfl ⟨by first | exact id | exact fun h=>by rw [h];rfl | simp_all,tv⟩ (WH.nil rfl (Qn (Ws (G (R 2 rfl (NQ (Wb (G (R 2 rfl (NQ (Wd rfl H (fun H=>?_) (fun H=>?_)))))))))))))))))))
 ·refine Wg (R 2 rfl ?_)
  obtain ⟨x2,hx2,H⟩:=an H
  refine Cl [] (o3 _ _ hx2) o4 rfl tv rfl (R 1 rfl (Wx 3 3 true tk sg0 rfl rfl (fun _=>tv) (RS 2 rfl ⟨by first | exact id | exact fun h=>by rw [h];rfl | simp_all,tv⟩ (Wx 5 8 true tk sg0 rfl rfl (fun _=>tv) (RS 3 rfl ⟨by first | exact id | exact fun h=>by rw [h];rfl | simp_all,tv⟩ (Wn (Qb (Qn ?_))))))))
  refine Ws (G (R 2 rfl (NQ (Wd rfl H (fun H=>?_) (fun H=>?_)))))
  ·refine G (R 1 rfl (NQ (Wt (QT.r ?_))))
   cases H
   exact Ea rfl rfl rfl tv
  refine Wk (Qn (Ws (G (R 2 rfl (NQ (Wc rfl (fun h=>absurd h (by decide)) (fun h=>?_)))))))
  refine Wk (Qn (G (R 1 rfl (NQ (Wt ?_)))))
  cases H
  exact Ea rfl rfl rfl tv
 refine G (R 2 rfl (NQ (Wd rfl H (fun H=>?_) (fun H=>?_))))
 ·refine Hp (.one 0 true (.one 1 true (.one 3 true (.one 4 true (.one 5 true (.one 2 false (.one 6 true (.one 7 true .done)))))))) [103] [103] rfl (by kernel_rfl) rfl (by kernel_rfl) rfl rfl (fun _ h=>h) rfl rfl rfl (fun _ _ _ h=>h) fun FK NK wK K=>(Hr 5 tk rfl rfl rfl rfl tv ?_)
  obtain ⟨x5,hx5,H⟩:=an H
  refine WH.call [] rfl (o3 _ _ hx5) o4 rfl rfl tv rfl rfl rfl rfl rfl (Hr 2 tk rfl rfl rfl rfl tv (WH.nil rfl (Qb (Qn ?_))))
  refine Ws (G (R 2 rfl (NQ (Wd rfl H (fun H=>?_) (fun H=>?_)))))
  ·refine G (R 1 rfl (NQ (Wt (QT.r ?_))))
   cases H
   exact Ea rfl rfl rfl tv
  refine Wk (Qn (Ws (G (R 2 rfl (NQ (Wd rfl H (fun H=>?_) (fun H=>?_)))))))
  ·refine G (R 1 rfl (NQ (Wt (QT.r ?_))))
   cases H
   exact Ea rfl rfl rfl tv
  refine Wk (Qn (G (R 1 rfl (NQ (Wt ?_)))))
  cases H
  exact Ea rfl rfl rfl tv
 refine G (R 2 rfl (NQ (Wd rfl H (fun H=>?_) (fun H=>?_))))
 ·refine Wg (R 2 rfl ?_)
  obtain ⟨x9,hx9,H⟩:=an H
  refine Cl [] (qR _ hx9) qS rfl tv rfl (R 1 rfl ?_)
  obtain ⟨x10,hx10,H⟩:=an H
  refine Wx 4 3 true tk [PSig.at' gj (x9=true) rfl (fun hb=>gi _ _ _ (of_t hx10 hb))] rfl rfl (fun hb=>⟨⟨hb,rfl⟩,tv⟩) (RS 3 rfl ⟨by first | exact id | exact fun h=>by rw [h];rfl | simp_all,tv⟩ (Wn (Qb (Qn ?_))))
  refine Ws (G (R 2 rfl (NQ (Wd rfl H (fun H=>?_) (fun H=>?_)))))
  ·refine G (R 1 rfl (NQ (Wt (QT.r ?_))))
   cases H
   exact Ea rfl rfl rfl tv
  refine Wk (Qn (Ws (G (R 2 rfl (NQ (Wc rfl (fun h=>absurd h (by decide)) (fun h=>?_)))))))
  refine Wk (Qn (G (R 1 rfl (NQ (Wt ?_)))))
  cases H
  exact Ea rfl rfl rfl tv
 refine Ws (G (R 2 rfl (NQ (Wc rfl (fun h12=>?_) (fun h12=>?_)))))
 ·replace H:=of_t H h12
  refine WC.known (g:=53) true rfl h12 (Wk (Qn (Wc rfl (fun h=>?_) (fun h=>absurd h (by decide)))))
  refine Wk (Qb (Qn ?_))
  refine Ws (G (R 2 rfl (NQ (Wc rfl (fun h=>absurd h (by decide)) (fun h=>?_)))))
  refine Wk (Qn (Ws (G (R 2 rfl (NQ (Wd rfl H (fun H=>?_) (fun H=>?_)))))))
  ·refine G (R 1 rfl (NQ (Wt (QT.r ?_))))
   cases H
   exact Ea rfl rfl rfl tv
  refine Wk (Qn (G (R 1 rfl (NQ (Wt ?_)))))
  cases H
  exact Ea rfl rfl rfl tv
 replace H:=of_f H h12
 refine G (R 2 rfl (NQ (Wc rfl (fun h14=>?_) (fun h14=>?_))))
 ·replace H:=of_t H h14
  refine WC.known (g:=53) true rfl h14 (Wk (Qn (Wc rfl (fun h=>?_) (fun h=>absurd h (by decide)))))
  refine Wk (Qb (Qn ?_))
  refine Ws (G (R 2 rfl (NQ (Wc rfl (fun h=>absurd h (by decide)) (fun h=>?_)))))
  refine Wk (Qn (Ws (G (R 2 rfl (NQ (Wd rfl H (fun H=>?_) (fun H=>?_)))))))
  ·refine G (R 1 rfl (NQ (Wt (QT.r ?_))))
   cases H
   exact Ea rfl rfl rfl tv
  refine Wk (Qn (G (R 1 rfl (NQ (Wt ?_)))))
  cases H
  exact Ea rfl rfl rfl tv
 replace H:=of_f H h14
 refine G (R 2 rfl (NQ (Wc rfl (fun h16=>?_) (fun h16=>?_))))
 ·replace H:=of_t H h16
  refine WC.known (g:=53) true rfl h16 (Wk (Qn (Wc rfl (fun h=>?_) (fun h=>absurd h (by decide)))))
  refine Wk (Qb (Qn ?_))
  refine Ws (G (R 2 rfl (NQ (Wc rfl (fun h=>absurd h (by decide)) (fun h=>?_)))))
  refine Wk (Qn (Ws (G (R 2 rfl (NQ (Wd rfl H (fun H=>?_) (fun H=>?_)))))))
  ·refine G (R 1 rfl (NQ (Wt (QT.r ?_))))
   cases H
   exact Ea rfl rfl rfl tv
  refine Wk (Qn (G (R 1 rfl (NQ (Wt ?_)))))
  cases H
  exact Ea rfl rfl rfl tv
 replace H:=of_f H h16
 refine Wg (R 2 rfl (NQ (Wd rfl H (fun H=>?_) (fun H=>?_))))
 ·refine Wk (Qb (Qn ?_))
  refine Ws (G (R 2 rfl (NQ (Wc rfl (fun h=>absurd h (by decide)) (fun h=>?_)))))
  refine Wk (Qn (Ws (G (R 2 rfl (NQ (Wd rfl H (fun H=>?_) (fun H=>?_)))))))
  ·refine G (R 1 rfl (NQ (Wt (QT.r ?_))))
   cases H
   exact Ea rfl rfl rfl tv
  refine Wk (Qn (G (R 1 rfl (NQ (Wt ?_)))))
  cases H
  exact Ea rfl rfl rfl tv
 refine G (R 1 rfl (NQ (Wt (QB.r (QT.r ?_)))))
 cases H
 exact Ea rfl rfl rfl tv
theorem yM:aF Tryz.prog 106 Tryz.f106:=⟨Tryz.func106,rfl,by kernel_rfl⟩
theorem lB (a0:List ab) {r:Int×Int} (H:hX a0=some r):LJ.Spec Tryz.prog 82 [.d (slT ai a0)] [] (.tup [.d (.int .i64 r.1), .d (.int .i64 r.2)]) []:=by
 refine LJ.Spec.code Tryz.func82 rfl 25 rfl rfl [] rfl fun w0 F0 S0 B0=>?_
 unfold hX at H
 refine G (R 2 rfl (NS (G (R 3 rfl (NQ (Wd rfl H (fun H=>?_) (fun H=>?_)))))))
 ·refine G (R 2 rfl (NQ (Wt (QT.r ?_))))
  cases H
  exact Ea rfl rfl rfl tv
 refine Wk (Qn (Ws (G (R 3 rfl (NQ (Wb (Wl (ι:= {x:Nat×Int //ey a0 x.1 x.2=some r}) (fun x=>[(0, .d (slT ai a0)),(10, .d (slT ai a0)),(11, .d (.int .i64 (a0.length:Int))),(12, .d (.int .i64 x.1.2))]) (fun x=>[]) (fun x=>x.1.1) ⟨(fuel,0),H⟩ (Lm p4 tv) fun x=>?_)))))))
 obtain ⟨⟨k3,s2⟩,H⟩:=x
 rcases k3 with _ | k3
 ·exact aO H
 rw [ey] at H
 refine G (R 1 rfl (NS (Wd rfl H (fun H=>?_) (fun H=>?_))))
 ·refine Wk (Qn (Ws (Wb (G ?_))))
  obtain ⟨g5,H⟩:=ay H
  refine RS 3 rfl ⟨⟨(al g5).1,(al g5).2,rfl⟩,tv⟩ (Wa 105 tk rfl rfl rfl (R 1 rfl (Ef 0 rfl (N (R 2 rfl ?_)))))
  obtain ⟨x6,hx6,H⟩:=an H
  refine Cl [] (yL _ _ hx6) yM rfl tv rfl (R 1 rfl (N (R 2 rfl (NQ (Wd rfl H (fun H=>?_) (fun H=>?_))))))
  ·refine G (R 4 rfl (NQ (Wt (QB.r (QT.r (QT.r (QB.r (QT.r ?_))))))))
   cases H
   exact Ea rfl rfl rfl tv
  refine Wk (Qb (Qn ?_))
  exact Wg (R 2 rfl (NQ (⟨⟨(k3,IntKind.i64.wrap (s2+1)),H⟩,Z,Lm p4 tv⟩)))
 refine WC.exit (Qx (Qx (Qh (Qn ?_))))
 refine G (R 2 rfl (NQ (Wt ?_)))
 cases H
 exact Ea rfl rfl rfl tv
theorem lC:aF Tryz.prog 82 Tryz.f82:=⟨Tryz.func82,rfl,by kernel_rfl⟩
theorem bt (a0:Int) {r:Bool} (H:bo a0=some r):LJ.Spec Tryz.prog 86 [.d (.int .i64 a0)] [] (.d (.bool r)) []:=by
 refine LJ.Spec.code Tryz.func86 rfl 9 rfl rfl [] rfl fun w0 F0 S0 B0=>?_
 unfold bo at H
 refine G (R 1 rfl (N (R 3 rfl (Wx 2 2 false tk sg0 rfl rfl (fun _=>tv) (RS 2 rfl ⟨by first | exact id | exact fun h=>by rw [h];rfl | simp_all,tv⟩ (NQ (Wt ?_)))))))
 cases H
 exact Ea rfl rfl rfl tv
theorem bu:aF Tryz.prog 86 Tryz.f86:=⟨Tryz.func86,rfl,by kernel_rfl⟩
theorem yN (a0:List ab) (a1:af) {r:Int} (H:nf a0 a1=some r):LJ.Spec Tryz.prog 129 [.d (slT ai a0), .d (.agg [.int .i64 a1.Kind, .int .i64 a1.Obj, .int .i64 a1.N])] [] (.d (.int .i64 r)) []:=by
 refine LJ.Spec.code Tryz.func129 rfl 74 rfl rfl [] rfl fun w0 F0 S0 B0=>?_
 unfold nf at H
 refine G (Ef 103 rfl (R 1 rfl (N (R 2 rfl (NS (G (R 2 rfl (NQ (Wb (G (R 2 rfl (NQ (Wd rfl H (fun H=>?_) (fun H=>?_))))))))))))))
 ·refine Wg (R 1 rfl (Wn (Qb (Qn ?_))))
  refine Ws (G (R 4 rfl ?_))
  obtain ⟨x2,hx2,H⟩:=an H
  refine Cl [] (gi _ _ _ hx2) gj rfl tv rfl (R 2 rfl (Wx 3 6 false tk sg0 rfl rfl (fun _=>tv) ?_))
  obtain ⟨g3,H⟩:=e9 H
  refine Wx 7 9 true tk sg0 rfl rfl (fun hb=>⟨⟨(al (g3 hb)).1,(al (g3 hb)).2,rfl⟩,tv⟩) (Wx 1 6 false tk sg0 rfl rfl (fun hb=>⟨by first | exact id | exact ⟨hb,fun h=>by rw [hb,h];rfl⟩ | exact ⟨hb,id⟩ | exact fun h=>by rw [hb,h];rfl | exact fun h=>by rw [h];rfl | simp_all,tv⟩) (RS 1 rfl ⟨by first | exact id | exact fun h=>by rw [h];rfl | simp_all,tv⟩ (NQ (Wd rfl H (fun H=>?_) (fun H=>?_)))))
  ·refine G (R 1 rfl (NQ (Wt (QT.r ?_))))
   cases H
   exact Ea rfl rfl rfl tv
  refine Wk (Qn (Ws (G (R 2 rfl (NQ (Wb (G (R 2 rfl (NQ (Wd rfl H (fun H=>?_) (fun H=>?_)))))))))))
  ·refine Wg ?_
   obtain ⟨g6,H⟩:=ay H
   refine RS 7 rfl ⟨⟨(al g6).1,(al g6).2,rfl⟩,tv⟩ (Wn (Qb (Qn ?_)))
   refine Ws (G (R 2 rfl ?_))
   obtain ⟨x7,hx7,H⟩:=an H
   refine Cl [] (bt _ hx7) bu rfl tv rfl (R 1 rfl (Wx 3 3 true tk sg0 rfl rfl (fun _=>tv) (RS 2 rfl ⟨by first | exact id | exact fun h=>by rw [h];rfl | simp_all,tv⟩ (Wx 3 8 false tk sg0 rfl rfl (fun _=>tv) (RS 2 rfl ⟨by first | exact id | exact fun h=>by rw [h];rfl | simp_all,tv⟩ (Wx 4 13 false tk sg0 rfl rfl (fun _=>tv) (RS 1 rfl ⟨by first | exact id | exact fun h=>by rw [h];rfl | simp_all,tv⟩ (NQ (Wd rfl H (fun H=>?_) (fun H=>?_))))))))))
   ·refine G (R 1 rfl (NQ (Wt (QT.r ?_))))
    cases H
    exact Ea rfl rfl rfl tv
   refine Wk (Qn (G (R 1 rfl (NQ (Wt ?_)))))
   cases H
   exact Ea rfl rfl rfl tv
  refine G (R 2 rfl (NQ (Wd rfl H (fun H=>?_) (fun H=>?_))))
  ·refine Wg ?_
   obtain ⟨g10,H⟩:=ay H
   refine RS 7 rfl ⟨⟨(al g10).1,(al g10).2,rfl⟩,tv⟩ (Wn (Qb (Qn ?_)))
   refine Ws (G (R 2 rfl ?_))
   obtain ⟨x11,hx11,H⟩:=an H
   refine Cl [] (bt _ hx11) bu rfl tv rfl (R 1 rfl (Wx 3 3 true tk sg0 rfl rfl (fun _=>tv) (RS 2 rfl ⟨by first | exact id | exact fun h=>by rw [h];rfl | simp_all,tv⟩ (Wx 3 8 false tk sg0 rfl rfl (fun _=>tv) (RS 2 rfl ⟨by first | exact id | exact fun h=>by rw [h];rfl | simp_all,tv⟩ (Wx 4 13 false tk sg0 rfl rfl (fun _=>tv) (RS 1 rfl ⟨by first | exact id | exact fun h=>by rw [h];rfl | simp_all,tv⟩ (NQ (Wd rfl H (fun H=>?_) (fun H=>?_))))))))))
   ·refine G (R 1 rfl (NQ (Wt (QT.r ?_))))
    cases H
    exact Ea rfl rfl rfl tv
   refine Wk (Qn (G (R 1 rfl (NQ (Wt ?_)))))
   cases H
   exact Ea rfl rfl rfl tv
  refine Wk (Qb (Qn ?_))
  refine Ws (G (R 2 rfl ?_))
  obtain ⟨x13,hx13,H⟩:=an H
  refine Cl [] (bt _ hx13) bu rfl tv rfl (R 1 rfl (Wx 3 3 true tk sg0 rfl rfl (fun _=>tv) (RS 2 rfl ⟨by first | exact id | exact fun h=>by rw [h];rfl | simp_all,tv⟩ (Wx 3 8 false tk sg0 rfl rfl (fun _=>tv) (RS 2 rfl ⟨by first | exact id | exact fun h=>by rw [h];rfl | simp_all,tv⟩ (Wx 4 13 false tk sg0 rfl rfl (fun _=>tv) (RS 1 rfl ⟨by first | exact id | exact fun h=>by rw [h];rfl | simp_all,tv⟩ (NQ (Wd rfl H (fun H=>?_) (fun H=>?_))))))))))
  ·refine G (R 1 rfl (NQ (Wt (QT.r ?_))))
   cases H
   exact Ea rfl rfl rfl tv
  refine Wk (Qn (G (R 1 rfl (NQ (Wt ?_)))))
  cases H
  exact Ea rfl rfl rfl tv
 refine Ws (G (R 2 rfl (NQ (Wc rfl (fun h15=>?_) (fun h15=>?_)))))
 ·replace H:=of_t H h15
  refine WC.known (g:=11) true rfl h15 (Wk (Qn (Wc rfl (fun h=>?_) (fun h=>absurd h (by decide)))))
  refine Wk (Qb (Qn ?_))
  refine Ws (G (R 4 rfl ?_))
  obtain ⟨x16,hx16,H⟩:=an H
  refine Cl [] (gi _ _ _ hx16) gj rfl tv rfl (R 2 rfl (Wx 3 6 false tk sg0 rfl rfl (fun _=>tv) ?_))
  obtain ⟨g17,H⟩:=e9 H
  refine Wx 7 9 true tk sg0 rfl rfl (fun hb=>⟨⟨(al (g17 hb)).1,(al (g17 hb)).2,rfl⟩,tv⟩) (Wx 1 6 false tk sg0 rfl rfl (fun hb=>⟨by first | exact id | exact ⟨hb,fun h=>by rw [hb,h];rfl⟩ | exact ⟨hb,id⟩ | exact fun h=>by rw [hb,h];rfl | exact fun h=>by rw [h];rfl | simp_all,tv⟩) (RS 1 rfl ⟨by first | exact id | exact fun h=>by rw [h];rfl | simp_all,tv⟩ (NQ (Wd rfl H (fun H=>?_) (fun H=>?_)))))
  ·refine G (R 1 rfl (NQ (Wt (QT.r ?_))))
   cases H
   exact Ea rfl rfl rfl tv
  refine Wk (Qn (Ws (G (R 2 rfl (NQ (Wb (G (R 2 rfl (NQ (Wd rfl H (fun H=>?_) (fun H=>?_)))))))))))
  ·refine Wg ?_
   obtain ⟨g20,H⟩:=ay H
   refine RS 7 rfl ⟨⟨(al g20).1,(al g20).2,rfl⟩,tv⟩ (Wn (Qb (Qn ?_)))
   refine Ws (G (R 2 rfl ?_))
   obtain ⟨x21,hx21,H⟩:=an H
   refine Cl [] (bt _ hx21) bu rfl tv rfl (R 1 rfl (Wx 3 3 true tk sg0 rfl rfl (fun _=>tv) (RS 2 rfl ⟨by first | exact id | exact fun h=>by rw [h];rfl | simp_all,tv⟩ (Wx 3 8 false tk sg0 rfl rfl (fun _=>tv) (RS 2 rfl ⟨by first | exact id | exact fun h=>by rw [h];rfl | simp_all,tv⟩ (Wx 4 13 false tk sg0 rfl rfl (fun _=>tv) (RS 1 rfl ⟨by first | exact id | exact fun h=>by rw [h];rfl | simp_all,tv⟩ (NQ (Wd rfl H (fun H=>?_) (fun H=>?_))))))))))
   ·refine G (R 1 rfl (NQ (Wt (QT.r ?_))))
    cases H
    exact Ea rfl rfl rfl tv
   refine Wk (Qn (G (R 1 rfl (NQ (Wt ?_)))))
   cases H
   exact Ea rfl rfl rfl tv
  refine G (R 2 rfl (NQ (Wd rfl H (fun H=>?_) (fun H=>?_))))
  ·refine Wg ?_
   obtain ⟨g24,H⟩:=ay H
   refine RS 7 rfl ⟨⟨(al g24).1,(al g24).2,rfl⟩,tv⟩ (Wn (Qb (Qn ?_)))
   refine Ws (G (R 2 rfl ?_))
   obtain ⟨x25,hx25,H⟩:=an H
   refine Cl [] (bt _ hx25) bu rfl tv rfl (R 1 rfl (Wx 3 3 true tk sg0 rfl rfl (fun _=>tv) (RS 2 rfl ⟨by first | exact id | exact fun h=>by rw [h];rfl | simp_all,tv⟩ (Wx 3 8 false tk sg0 rfl rfl (fun _=>tv) (RS 2 rfl ⟨by first | exact id | exact fun h=>by rw [h];rfl | simp_all,tv⟩ (Wx 4 13 false tk sg0 rfl rfl (fun _=>tv) (RS 1 rfl ⟨by first | exact id | exact fun h=>by rw [h];rfl | simp_all,tv⟩ (NQ (Wd rfl H (fun H=>?_) (fun H=>?_))))))))))
   ·refine G (R 1 rfl (NQ (Wt (QT.r ?_))))
    cases H
    exact Ea rfl rfl rfl tv
   refine Wk (Qn (G (R 1 rfl (NQ (Wt ?_)))))
   cases H
   exact Ea rfl rfl rfl tv
  refine Wk (Qb (Qn ?_))
  refine Ws (G (R 2 rfl ?_))
  obtain ⟨x27,hx27,H⟩:=an H
  refine Cl [] (bt _ hx27) bu rfl tv rfl (R 1 rfl (Wx 3 3 true tk sg0 rfl rfl (fun _=>tv) (RS 2 rfl ⟨by first | exact id | exact fun h=>by rw [h];rfl | simp_all,tv⟩ (Wx 3 8 false tk sg0 rfl rfl (fun _=>tv) (RS 2 rfl ⟨by first | exact id | exact fun h=>by rw [h];rfl | simp_all,tv⟩ (Wx 4 13 false tk sg0 rfl rfl (fun _=>tv) (RS 1 rfl ⟨by first | exact id | exact fun h=>by rw [h];rfl | simp_all,tv⟩ (NQ (Wd rfl H (fun H=>?_) (fun H=>?_))))))))))
  ·refine G (R 1 rfl (NQ (Wt (QT.r ?_))))
   cases H
   exact Ea rfl rfl rfl tv
  refine Wk (Qn (G (R 1 rfl (NQ (Wt ?_)))))
  cases H
  exact Ea rfl rfl rfl tv
 replace H:=of_f H h15
 refine Wg (R 2 rfl (NQ (Wd rfl H (fun H=>?_) (fun H=>?_))))
 ·refine Wk (Qb (Qn ?_))
  refine Ws (G (R 4 rfl ?_))
  obtain ⟨x30,hx30,H⟩:=an H
  refine Cl [] (gi _ _ _ hx30) gj rfl tv rfl (R 2 rfl (Wx 3 6 false tk sg0 rfl rfl (fun _=>tv) ?_))
  obtain ⟨g31,H⟩:=e9 H
  refine Wx 7 9 true tk sg0 rfl rfl (fun hb=>⟨⟨(al (g31 hb)).1,(al (g31 hb)).2,rfl⟩,tv⟩) (Wx 1 6 false tk sg0 rfl rfl (fun hb=>⟨by first | exact id | exact ⟨hb,fun h=>by rw [hb,h];rfl⟩ | exact ⟨hb,id⟩ | exact fun h=>by rw [hb,h];rfl | exact fun h=>by rw [h];rfl | simp_all,tv⟩) (RS 1 rfl ⟨by first | exact id | exact fun h=>by rw [h];rfl | simp_all,tv⟩ (NQ (Wd rfl H (fun H=>?_) (fun H=>?_)))))
  ·refine G (R 1 rfl (NQ (Wt (QT.r ?_))))
   cases H
   exact Ea rfl rfl rfl tv
  refine Wk (Qn (Ws (G (R 2 rfl (NQ (Wb (G (R 2 rfl (NQ (Wd rfl H (fun H=>?_) (fun H=>?_)))))))))))
  ·refine Wg ?_
   obtain ⟨g34,H⟩:=ay H
   refine RS 7 rfl ⟨⟨(al g34).1,(al g34).2,rfl⟩,tv⟩ (Wn (Qb (Qn ?_)))
   refine Ws (G (R 2 rfl ?_))
   obtain ⟨x35,hx35,H⟩:=an H
   refine Cl [] (bt _ hx35) bu rfl tv rfl (R 1 rfl (Wx 3 3 true tk sg0 rfl rfl (fun _=>tv) (RS 2 rfl ⟨by first | exact id | exact fun h=>by rw [h];rfl | simp_all,tv⟩ (Wx 3 8 false tk sg0 rfl rfl (fun _=>tv) (RS 2 rfl ⟨by first | exact id | exact fun h=>by rw [h];rfl | simp_all,tv⟩ (Wx 4 13 false tk sg0 rfl rfl (fun _=>tv) (RS 1 rfl ⟨by first | exact id | exact fun h=>by rw [h];rfl | simp_all,tv⟩ (NQ (Wd rfl H (fun H=>?_) (fun H=>?_))))))))))
   ·refine G (R 1 rfl (NQ (Wt (QT.r ?_))))
    cases H
    exact Ea rfl rfl rfl tv
   refine Wk (Qn (G (R 1 rfl (NQ (Wt ?_)))))
   cases H
   exact Ea rfl rfl rfl tv
  refine G (R 2 rfl (NQ (Wd rfl H (fun H=>?_) (fun H=>?_))))
  ·refine Wg ?_
   obtain ⟨g38,H⟩:=ay H
   refine RS 7 rfl ⟨⟨(al g38).1,(al g38).2,rfl⟩,tv⟩ (Wn (Qb (Qn ?_)))
   refine Ws (G (R 2 rfl ?_))
   obtain ⟨x39,hx39,H⟩:=an H
   refine Cl [] (bt _ hx39) bu rfl tv rfl (R 1 rfl (Wx 3 3 true tk sg0 rfl rfl (fun _=>tv) (RS 2 rfl ⟨by first | exact id | exact fun h=>by rw [h];rfl | simp_all,tv⟩ (Wx 3 8 false tk sg0 rfl rfl (fun _=>tv) (RS 2 rfl ⟨by first | exact id | exact fun h=>by rw [h];rfl | simp_all,tv⟩ (Wx 4 13 false tk sg0 rfl rfl (fun _=>tv) (RS 1 rfl ⟨by first | exact id | exact fun h=>by rw [h];rfl | simp_all,tv⟩ (NQ (Wd rfl H (fun H=>?_) (fun H=>?_))))))))))
   ·refine G (R 1 rfl (NQ (Wt (QT.r ?_))))
    cases H
    exact Ea rfl rfl rfl tv
   refine Wk (Qn (G (R 1 rfl (NQ (Wt ?_)))))
   cases H
   exact Ea rfl rfl rfl tv
  refine Wk (Qb (Qn ?_))
  refine Ws (G (R 2 rfl ?_))
  obtain ⟨x41,hx41,H⟩:=an H
  refine Cl [] (bt _ hx41) bu rfl tv rfl (R 1 rfl (Wx 3 3 true tk sg0 rfl rfl (fun _=>tv) (RS 2 rfl ⟨by first | exact id | exact fun h=>by rw [h];rfl | simp_all,tv⟩ (Wx 3 8 false tk sg0 rfl rfl (fun _=>tv) (RS 2 rfl ⟨by first | exact id | exact fun h=>by rw [h];rfl | simp_all,tv⟩ (Wx 4 13 false tk sg0 rfl rfl (fun _=>tv) (RS 1 rfl ⟨by first | exact id | exact fun h=>by rw [h];rfl | simp_all,tv⟩ (NQ (Wd rfl H (fun H=>?_) (fun H=>?_))))))))))
  ·refine G (R 1 rfl (NQ (Wt (QT.r ?_))))
   cases H
   exact Ea rfl rfl rfl tv
  refine Wk (Qn (G (R 1 rfl (NQ (Wt ?_)))))
  cases H
  exact Ea rfl rfl rfl tv
 refine G (R 2 rfl (NQ (Wd rfl H (fun H=>?_) (fun H=>?_))))
 ·refine Wg (R 1 rfl (Wn (Qb (Qn ?_))))
  refine Ws (G (R 4 rfl ?_))
  obtain ⟨x44,hx44,H⟩:=an H
  refine Cl [] (gi _ _ _ hx44) gj rfl tv rfl (R 2 rfl (Wx 3 6 false tk sg0 rfl rfl (fun _=>tv) ?_))
  obtain ⟨g45,H⟩:=e9 H
  refine Wx 7 9 true tk sg0 rfl rfl (fun hb=>⟨⟨(al (g45 hb)).1,(al (g45 hb)).2,rfl⟩,tv⟩) (Wx 1 6 false tk sg0 rfl rfl (fun hb=>⟨by first | exact id | exact ⟨hb,fun h=>by rw [hb,h];rfl⟩ | exact ⟨hb,id⟩ | exact fun h=>by rw [hb,h];rfl | exact fun h=>by rw [h];rfl | simp_all,tv⟩) (RS 1 rfl ⟨by first | exact id | exact fun h=>by rw [h];rfl | simp_all,tv⟩ (NQ (Wd rfl H (fun H=>?_) (fun H=>?_)))))
  ·refine G (R 1 rfl (NQ (Wt (QT.r ?_))))
   cases H
   exact Ea rfl rfl rfl tv
  refine Wk (Qn (Ws (G (R 2 rfl (NQ (Wb (G (R 2 rfl (NQ (Wd rfl H (fun H=>?_) (fun H=>?_)))))))))))
  ·refine Wg ?_
   obtain ⟨g48,H⟩:=ay H
   refine RS 7 rfl ⟨⟨(al g48).1,(al g48).2,rfl⟩,tv⟩ (Wn (Qb (Qn ?_)))
   refine Ws (G (R 2 rfl ?_))
   obtain ⟨x49,hx49,H⟩:=an H
   refine Cl [] (bt _ hx49) bu rfl tv rfl (R 1 rfl (Wx 3 3 true tk sg0 rfl rfl (fun _=>tv) (RS 2 rfl ⟨by first | exact id | exact fun h=>by rw [h];rfl | simp_all,tv⟩ (Wx 3 8 false tk sg0 rfl rfl (fun _=>tv) (RS 2 rfl ⟨by first | exact id | exact fun h=>by rw [h];rfl | simp_all,tv⟩ (Wx 4 13 false tk sg0 rfl rfl (fun _=>tv) (RS 1 rfl ⟨by first | exact id | exact fun h=>by rw [h];rfl | simp_all,tv⟩ (NQ (Wd rfl H (fun H=>?_) (fun H=>?_))))))))))
   ·refine G (R 1 rfl (NQ (Wt (QT.r ?_))))
    cases H
    exact Ea rfl rfl rfl tv
   refine Wk (Qn (G (R 1 rfl (NQ (Wt ?_)))))
   cases H
   exact Ea rfl rfl rfl tv
  refine G (R 2 rfl (NQ (Wd rfl H (fun H=>?_) (fun H=>?_))))
  ·refine Wg ?_
   obtain ⟨g52,H⟩:=ay H
   refine RS 7 rfl ⟨⟨(al g52).1,(al g52).2,rfl⟩,tv⟩ (Wn (Qb (Qn ?_)))
   refine Ws (G (R 2 rfl ?_))
   obtain ⟨x53,hx53,H⟩:=an H
   refine Cl [] (bt _ hx53) bu rfl tv rfl (R 1 rfl (Wx 3 3 true tk sg0 rfl rfl (fun _=>tv) (RS 2 rfl ⟨by first | exact id | exact fun h=>by rw [h];rfl | simp_all,tv⟩ (Wx 3 8 false tk sg0 rfl rfl (fun _=>tv) (RS 2 rfl ⟨by first | exact id | exact fun h=>by rw [h];rfl | simp_all,tv⟩ (Wx 4 13 false tk sg0 rfl rfl (fun _=>tv) (RS 1 rfl ⟨by first | exact id | exact fun h=>by rw [h];rfl | simp_all,tv⟩ (NQ (Wd rfl H (fun H=>?_) (fun H=>?_))))))))))
   ·refine G (R 1 rfl (NQ (Wt (QT.r ?_))))
    cases H
    exact Ea rfl rfl rfl tv
   refine Wk (Qn (G (R 1 rfl (NQ (Wt ?_)))))
   cases H
   exact Ea rfl rfl rfl tv
  refine Wk (Qb (Qn ?_))
  refine Ws (G (R 2 rfl ?_))
  obtain ⟨x55,hx55,H⟩:=an H
  refine Cl [] (bt _ hx55) bu rfl tv rfl (R 1 rfl (Wx 3 3 true tk sg0 rfl rfl (fun _=>tv) (RS 2 rfl ⟨by first | exact id | exact fun h=>by rw [h];rfl | simp_all,tv⟩ (Wx 3 8 false tk sg0 rfl rfl (fun _=>tv) (RS 2 rfl ⟨by first | exact id | exact fun h=>by rw [h];rfl | simp_all,tv⟩ (Wx 4 13 false tk sg0 rfl rfl (fun _=>tv) (RS 1 rfl ⟨by first | exact id | exact fun h=>by rw [h];rfl | simp_all,tv⟩ (NQ (Wd rfl H (fun H=>?_) (fun H=>?_))))))))))
  ·refine G (R 1 rfl (NQ (Wt (QT.r ?_))))
   cases H
   exact Ea rfl rfl rfl tv
  refine Wk (Qn (G (R 1 rfl (NQ (Wt ?_)))))
  cases H
  exact Ea rfl rfl rfl tv
 refine G (R 2 rfl (NQ (Wd rfl H (fun H=>?_) (fun H=>?_))))
 ·refine Wg (R 1 rfl (Wn (Qb (Qn ?_))))
  refine Ws (G (R 4 rfl ?_))
  obtain ⟨x58,hx58,H⟩:=an H
  refine Cl [] (gi _ _ _ hx58) gj rfl tv rfl (R 2 rfl (Wx 3 6 false tk sg0 rfl rfl (fun _=>tv) ?_))
  obtain ⟨g59,H⟩:=e9 H
  refine Wx 7 9 true tk sg0 rfl rfl (fun hb=>⟨⟨(al (g59 hb)).1,(al (g59 hb)).2,rfl⟩,tv⟩) (Wx 1 6 false tk sg0 rfl rfl (fun hb=>⟨by first | exact id | exact ⟨hb,fun h=>by rw [hb,h];rfl⟩ | exact ⟨hb,id⟩ | exact fun h=>by rw [hb,h];rfl | exact fun h=>by rw [h];rfl | simp_all,tv⟩) (RS 1 rfl ⟨by first | exact id | exact fun h=>by rw [h];rfl | simp_all,tv⟩ (NQ (Wd rfl H (fun H=>?_) (fun H=>?_)))))
  ·refine G (R 1 rfl (NQ (Wt (QT.r ?_))))
   cases H
   exact Ea rfl rfl rfl tv
  refine Wk (Qn (Ws (G (R 2 rfl (NQ (Wb (G (R 2 rfl (NQ (Wd rfl H (fun H=>?_) (fun H=>?_)))))))))))
  ·refine Wg ?_
   obtain ⟨g62,H⟩:=ay H
   refine RS 7 rfl ⟨⟨(al g62).1,(al g62).2,rfl⟩,tv⟩ (Wn (Qb (Qn ?_)))
   refine Ws (G (R 2 rfl ?_))
   obtain ⟨x63,hx63,H⟩:=an H
   refine Cl [] (bt _ hx63) bu rfl tv rfl (R 1 rfl (Wx 3 3 true tk sg0 rfl rfl (fun _=>tv) (RS 2 rfl ⟨by first | exact id | exact fun h=>by rw [h];rfl | simp_all,tv⟩ (Wx 3 8 false tk sg0 rfl rfl (fun _=>tv) (RS 2 rfl ⟨by first | exact id | exact fun h=>by rw [h];rfl | simp_all,tv⟩ (Wx 4 13 false tk sg0 rfl rfl (fun _=>tv) (RS 1 rfl ⟨by first | exact id | exact fun h=>by rw [h];rfl | simp_all,tv⟩ (NQ (Wd rfl H (fun H=>?_) (fun H=>?_))))))))))
   ·refine G (R 1 rfl (NQ (Wt (QT.r ?_))))
    cases H
    exact Ea rfl rfl rfl tv
   refine Wk (Qn (G (R 1 rfl (NQ (Wt ?_)))))
   cases H
   exact Ea rfl rfl rfl tv
  refine G (R 2 rfl (NQ (Wd rfl H (fun H=>?_) (fun H=>?_))))
  ·refine Wg ?_
   obtain ⟨g66,H⟩:=ay H
   refine RS 7 rfl ⟨⟨(al g66).1,(al g66).2,rfl⟩,tv⟩ (Wn (Qb (Qn ?_)))
   refine Ws (G (R 2 rfl ?_))
   obtain ⟨x67,hx67,H⟩:=an H
   refine Cl [] (bt _ hx67) bu rfl tv rfl (R 1 rfl (Wx 3 3 true tk sg0 rfl rfl (fun _=>tv) (RS 2 rfl ⟨by first | exact id | exact fun h=>by rw [h];rfl | simp_all,tv⟩ (Wx 3 8 false tk sg0 rfl rfl (fun _=>tv) (RS 2 rfl ⟨by first | exact id | exact fun h=>by rw [h];rfl | simp_all,tv⟩ (Wx 4 13 false tk sg0 rfl rfl (fun _=>tv) (RS 1 rfl ⟨by first | exact id | exact fun h=>by rw [h];rfl | simp_all,tv⟩ (NQ (Wd rfl H (fun H=>?_) (fun H=>?_))))))))))
   ·refine G (R 1 rfl (NQ (Wt (QT.r ?_))))
    cases H
    exact Ea rfl rfl rfl tv
   refine Wk (Qn (G (R 1 rfl (NQ (Wt ?_)))))
   cases H
   exact Ea rfl rfl rfl tv
  refine Wk (Qb (Qn ?_))
  refine Ws (G (R 2 rfl ?_))
  obtain ⟨x69,hx69,H⟩:=an H
  refine Cl [] (bt _ hx69) bu rfl tv rfl (R 1 rfl (Wx 3 3 true tk sg0 rfl rfl (fun _=>tv) (RS 2 rfl ⟨by first | exact id | exact fun h=>by rw [h];rfl | simp_all,tv⟩ (Wx 3 8 false tk sg0 rfl rfl (fun _=>tv) (RS 2 rfl ⟨by first | exact id | exact fun h=>by rw [h];rfl | simp_all,tv⟩ (Wx 4 13 false tk sg0 rfl rfl (fun _=>tv) (RS 1 rfl ⟨by first | exact id | exact fun h=>by rw [h];rfl | simp_all,tv⟩ (NQ (Wd rfl H (fun H=>?_) (fun H=>?_))))))))))
  ·refine G (R 1 rfl (NQ (Wt (QT.r ?_))))
   cases H
   exact Ea rfl rfl rfl tv
  refine Wk (Qn (G (R 1 rfl (NQ (Wt ?_)))))
  cases H
  exact Ea rfl rfl rfl tv
 refine G (R 1 rfl (NQ (Wt (QB.r (QT.r ?_)))))
 cases H
 exact Ea rfl rfl rfl tv
theorem yO:aF Tryz.prog 129 Tryz.f129:=⟨Tryz.func129,rfl,by kernel_rfl⟩
theorem yP (a0:Int) {r:Int} (H:pK a0=some r):LJ.Spec Tryz.prog 146 [.d (.int .i64 a0)] [] (.d (.int .u64 r)) []:=by
 refine LJ.Spec.code Tryz.func146 rfl 11 rfl rfl [] rfl fun w0 F0 S0 B0=>?_
 unfold pK at H
 refine G (R 1 rfl (NS (G (R 3 rfl (Wx 2 2 false tk sg0 rfl rfl (fun _=>tv) (RS 1 rfl ⟨by first | exact id | exact fun h=>by rw [h];rfl | simp_all,tv⟩ (NQ (Wd rfl H (fun H=>?_) (fun H=>?_)))))))))
 ·refine G (R 1 rfl (NQ (Wt (QT.r ?_))))
  cases H
  exact Ea rfl rfl rfl tv
 refine Wk (Qn (G ?_))
 obtain ⟨g2,H⟩:=ay H
 refine RS 3 rfl ⟨(zS g2),tv⟩ (NQ (Wt ?_))
 cases H
 exact Ea rfl rfl rfl tv
theorem yQ:aF Tryz.prog 146 Tryz.f146:=⟨Tryz.func146,rfl,by kernel_rfl⟩
end Go.Proofs.YtdebndfaknfefaaGreatDoor.W
