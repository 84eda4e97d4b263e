/- Each Go function comes to what its plain function gives, where that gives something. -/
import Derived.Test.YtdebndfaknfefaaGreatDoorPF
import Derived.Test.YtdebndfaknfefaaGreatDoorSq
import Derived.Test.YtdebndfaknfefaaGreatDoorWF2
import Derived.Test.YtdebndfaknfefaaGreatDoorXByt
import Derived.Test.YtdebndfaknfefaaGreatDoorXDef
import Derived.Test.YtdebndfaknfefaaGreatDoorXPan
import Derived.Test.YtdebndfaknfefaaGreatDoorXShelf
namespace Go.Proofs.YtdebndfaknfefaaGreatDoor.W
open Go Go.RowKit LJ
set_option linter.unusedVariables false
set_option linter.unusedSimpArgs false
set_option maxRecDepth 10000
theorem nX {r:aw} (H:kJ=some r):LJ.Spec Tryz.prog 33 [] [] (.d (.agg [.int .i64 r.Config.Mode, .int .i64 r.Config.Workers, .int .i64 r.Config.Quantum, .int .i64 r.Config.Policy,slT ai r.Program.Decls,slT aa r.Program.Waits,slT ak r.Program.Funcs,slT aC r.Events])) []:=by
 refine LJ.Spec.code Tryz.func33 rfl 12 rfl rfl [] rfl fun w0 F0 S0 B0=>?_
 unfold kJ at H
 refine G (Wa 100 tk rfl rfl rfl (N (R 3 rfl (Ef 104 rfl (WL.freezeT 104 aE ([(⟨22,0,0⟩:ar),(⟨21,0,0⟩:ar)]:List ar) rfl rfl rfl rfl (R 1 rfl (Ef 106 rfl (WL.freezeT 106 ak ([(⟨0,0,([(⟨22,0,0⟩:ar),(⟨21,0,0⟩:ar)]:List ar)⟩:aq)]:List aq) rfl rfl rfl rfl (R 1 rfl (WL.le 7 (.agg [slT ai [],slT aa [],slT ak ([(⟨0,0,([(⟨22,0,0⟩:ar),(⟨21,0,0⟩:ar)]:List ar)⟩:aq)]:List aq)]) rfl (Le.agg (.cons (Le.nilT ai) (.cons (Le.nilT aa) (.cons .rfl' .nil)))) (R 2 rfl (Ef 110 rfl ?_))))))))))))
 refine WL.freezeT 110 aC ([(⟨1,0,1⟩:av),(⟨2,5,0⟩:av)]:List av) rfl rfl rfl rfl (R 1 rfl (Ef 0 rfl (NQ (Wt ?_))))
 cases H
 exact Ends.autoC tk rfl rfl rfl tv
theorem nY:aF Tryz.prog 33 Tryz.f33:=⟨Tryz.func33,rfl,by kernel_rfl⟩
theorem gr (a0:ByteArray) (a1:ByteArray) {r:Bool} (H:cg a0 a1=some r):LJ.Spec Tryz.prog 91 [.d (.str a0), .d (.str a1)] [] (.d (.bool r)) []:=by
 refine LJ.Spec.code Tryz.func91 rfl 18 rfl rfl [] rfl fun w0 F0 S0 B0=>?_
 unfold cg at H
 refine G (R 1 rfl (N (R 6 rfl ?_)))
 obtain ⟨g1,H⟩:=e9 H
 refine Wx 6 5 true tk sg0 rfl rfl (fun hb=>⟨(qh (g1 hb)),tv⟩) (RS 2 rfl ⟨by first | exact id | exact fun h=>by rw [h];rfl | simp_all,tv⟩ (NQ (Wt ?_)))
 cases H
 exact Ea rfl rfl rfl tv
theorem gu:aF Tryz.prog 91 Tryz.f91:=⟨Tryz.func91,rfl,by kernel_rfl⟩
theorem kq (a0:ByteArray) (a1:ByteArray) {r:ByteArray×Bool} (H:dF a0 a1=some r):LJ.Spec Tryz.prog 60 [.d (.str a0), .d (.str a1)] [] (.tup [.d (.str r.1), .d (.bool r.2)]) []:=by
 refine LJ.Spec.code Tryz.func60 rfl 15 rfl rfl [] rfl fun w0 F0 S0 B0=>?_
 unfold dF at H
 refine G (R 2 rfl (NS (G (R 2 rfl ?_))))
 obtain ⟨x1,hx1,H⟩:=an H
 refine Cl [] (gr _ _ hx1) gu rfl tv rfl (R 1 rfl (NQ (Wd rfl H (fun H=>?_) (fun H=>?_))))
 ·refine G (R 3 rfl (NQ (Wt (QT.r ?_))))
  cases H
  exact Ea rfl rfl rfl tv
 refine Wk (Qn (G ?_))
 obtain ⟨g3,H⟩:=ay H
 refine RS 6 rfl ⟨(qh g3),tv⟩ (NQ (Wt ?_))
 cases H
 exact Ea rfl rfl rfl tv
theorem kr:aF Tryz.prog 60 Tryz.f60:=⟨Tryz.func60,rfl,by kernel_rfl⟩
theorem mB (a0:ByteArray) (a1:ByteArray) {r:ByteArray×Bool} (H:fx a0 a1=some r):LJ.Spec Tryz.prog 34 [.d (.str a0), .d (.str a1)] [] (.tup [.d (.str r.1), .d (.bool r.2)]) []:=by
 refine LJ.Spec.code Tryz.func34 rfl 11 rfl rfl [] rfl fun w0 F0 S0 B0=>?_
 unfold fx at H
 refine G (R 2 rfl (N (R 2 rfl ?_)))
 obtain ⟨x1,hx1,H⟩:=an H
 refine Cl [] (kq _ _ hx1) kr rfl tv rfl (R 4 rfl (NQ (Wt ?_)))
 cases H
 exact Ea rfl rfl rfl tv
theorem mC:aF Tryz.prog 34 Tryz.f34:=⟨Tryz.func34,rfl,by kernel_rfl⟩
theorem vc (a0:ByteArray) {r:ao} (H:eU a0=some r):LJ.Spec Tryz.prog 36 [.d (.str a0)] [] (.ptr 0 0) [(0, .box 131 [.d (.str r.s), .d (.int .i64 r.at_), .d (.int .i64 r.err)])]:=by
 refine LJ.Spec.code Tryz.func36 rfl 6 rfl rfl [] rfl fun w0 F0 S0 B0=>?_
 unfold eU at H
 refine G (R 1 rfl (N (R 2 rfl (Ef 0 rfl (R 1 rfl (NQ (Wt ?_)))))))
 cases H
 exact Ea rfl rfl rfl p1
theorem iP (n0:Nat) (hn:cJ [n0]=true) (a0:ByteArray) {r:ao} (H:eU a0=some r):LJ.Spec Tryz.prog 36 [.d (.str a0)] [] (.ptr n0 0) [(n0, .box 131 [.d (.str r.s), .d (.int .i64 r.at_), .d (.int .i64 r.err)])]:=
 Spec.names [n0] hn rfl rfl (vc a0 H)
theorem iQ:aF Tryz.prog 36 Tryz.f36:=⟨Tryz.func36,rfl,by kernel_rfl⟩
theorem rb (a0:ao) (a1:Int) {r:ao} (H:dk a0 a1=some r):LJ.Spec Tryz.prog 92 [.ptr 0 0, .d (.int .i64 a1)] [(0, .box 131 [.d (.str a0.s), .d (.int .i64 a0.at_), .d (.int .i64 a0.err)])] (.tup []) [(0, .box 131 [.d (.str r.s), .d (.int .i64 r.at_), .d (.int .i64 r.err)])]:=by
 refine LJ.Spec.code Tryz.func92 rfl 21 rfl rfl [0] rfl fun w0 F0 S0 B0=>?_
 unfold dk at H
 refine G (R 5 rfl (NQ (Wd rfl H (fun H=>?_) (fun H=>?_))))
 ·refine Wg (R 10 rfl (Ef 0 rfl (R 2 rfl (Ef 0 rfl (Wn ?_)))))
  cases H
  exact Ends.auton rfl rfl rfl p1
 refine Wk ?_
 cases H
 exact Ends.auton rfl rfl rfl p1
theorem jz (n0:Nat) (hn:cJ [n0]=true) (a0:ao) (a1:Int) {r:ao} (H:dk a0 a1=some r):LJ.Spec Tryz.prog 92 [.ptr n0 0, .d (.int .i64 a1)] [(n0, .box 131 [.d (.str a0.s), .d (.int .i64 a0.at_), .d (.int .i64 a0.err)])] (.tup []) [(n0, .box 131 [.d (.str r.s), .d (.int .i64 r.at_), .d (.int .i64 r.err)])]:=
 Spec.names [n0] hn rfl rfl (rb a0 a1 H)
theorem jA:aF Tryz.prog 92 Tryz.f92:=⟨Tryz.func92,rfl,by kernel_rfl⟩
theorem re (a0:ao) {r:Int×ao} (H:cf a0=some r):LJ.Spec Tryz.prog 96 [.ptr 0 0] [(0, .box 131 [.d (.str a0.s), .d (.int .i64 a0.at_), .d (.int .i64 a0.err)])] (.d (.int .i64 r.1)) [(0, .box 131 [.d (.str r.2.s), .d (.int .i64 r.2.at_), .d (.int .i64 r.2.err)])]:=by
 refine LJ.Spec.code Tryz.func96 rfl 35 rfl rfl [0] rfl fun w0 F0 S0 B0=>?_
 unfold cf at H
 refine G (R 1 rfl (NS (G (R 2 rfl (NQ (Wc rfl (fun h=>absurd h (by decide)) (fun h=>?_)))))))
 refine Wk (Qn (Ws (Ws (Hp (.one 0 true (.one 1 true (.one 2 true (.one 3 true (.one 4 true (.one 5 true (.one 6 true (.one 7 true (.one 8 true (.one 9 true .done)))))))))) [0] [0] rfl (by kernel_rfl) rfl (by kernel_rfl) rfl rfl (fun _ h=>h) rfl rfl rfl (fun _ _ _ h=>h) fun FK NK wK K=>(Hr 10 tk rfl rfl rfl rfl tv (WH.nil rfl (Qn (Wd rfl H (fun H=>?_) (fun H=>?_)))))))))
 ·refine G (R 1 rfl ?_)
  obtain ⟨x2,hx2,H⟩:=an H
  refine Cl [] (jz 0 rfl _ _ hx2) jA rfl p1 rfl (N (R 1 rfl (NQ (Wt (QT.r ?_)))))
  cases H
  exact Ea rfl rfl rfl p1
 refine Wk (Qn (G (R 7 rfl (Ef 0 rfl (NS (Hp (.one 0 true (.one 1 true (.one 2 true (.one 3 true (.one 4 true (.one 5 true (.one 6 true (.one 7 true (.one 8 true (.one 9 true (.one 10 true (.one 11 true .done)))))))))))) [0] [0] rfl (by kernel_rfl) rfl (by kernel_rfl) rfl rfl (fun _ h=>h) rfl rfl rfl (fun _ _ _ h=>h) fun FK NK wK K=>?_))))))
 obtain ⟨g3,H⟩:=ay H
 refine Hr 12 tk rfl rfl rfl rfl ⟨(al g3),tv⟩ (WH.nil rfl (Qn (Wt ?_)))
 cases H
 exact Ea rfl rfl rfl p1
theorem fr (n0:Nat) (hn:cJ [n0]=true) (a0:ao) {r:Int×ao} (H:cf a0=some r):LJ.Spec Tryz.prog 96 [.ptr n0 0] [(n0, .box 131 [.d (.str a0.s), .d (.int .i64 a0.at_), .d (.int .i64 a0.err)])] (.d (.int .i64 r.1)) [(n0, .box 131 [.d (.str r.2.s), .d (.int .i64 r.2.at_), .d (.int .i64 r.2.err)])]:=
 Spec.names [n0] hn rfl rfl (re a0 H)
theorem ft:aF Tryz.prog 96 Tryz.f96:=⟨Tryz.func96,rfl,by kernel_rfl⟩
theorem rD (a0:ao) {r:Int×ao} (H:bF a0=some r):LJ.Spec Tryz.prog 65 [.ptr 0 0] [(0, .box 131 [.d (.str a0.s), .d (.int .i64 a0.at_), .d (.int .i64 a0.err)])] (.d (.int .u64 r.1)) [(0, .box 131 [.d (.str r.2.s), .d (.int .i64 r.2.at_), .d (.int .i64 r.2.err)])]:=by
 refine LJ.Spec.code Tryz.func65 rfl 49 rfl rfl [0] rfl fun w0 F0 S0 B0=>?_
 unfold bF at H
 refine G (R 1 rfl (N (R 1 rfl (NS (G (R 1 rfl (NQ (Wb (Wl (ι:= {x:Nat×(Int×Int×ByteArray×Int×Int) //cZ x.1 x.2=some r}) (fun x=>[(0, .ptr 0 0),(3, .d (.int .u64 x.1.2.1)),(6, .d (.int .i64 x.1.2.2.1))]) (fun x=>[(0, .box 131 [.d (.str x.1.2.2.2.1), .d (.int .i64 x.1.2.2.2.2.1), .d (.int .i64 x.1.2.2.2.2.2)])]) (fun x=>x.1.1) ⟨(fuel,(0,0,a0.s,a0.at_,a0.err)),H⟩ (Lm p3 p1) fun x=>?_)))))))))
 obtain ⟨⟨k2,s1⟩,H⟩:=x
 rcases k2 with _ | k2
 ·exact aO H
 rw [cZ] at H
 refine G (R 1 rfl (NS (Wd rfl H (fun H=>?_) (fun H=>?_))))
 ·refine Wk (Qn (Ws (Wb (G (R 2 rfl (N (R 1 rfl ?_)))))))
  obtain ⟨x4,hx4,H⟩:=an H
  refine Cl [] (fr 0 rfl _ hx4) ft rfl p1 rfl (R 1 rfl (NS (G (R 3 rfl (WL.grun 5 2 false 13 tk sg0 rfl rfl rfl rfl tv (WL.pickF rfl rfl rfl rfl rfl rfl (NQ (Wd rfl H (fun H=>?_) (fun H=>?_)))))))))
  ·refine G (R 1 rfl (NQ (Wt (QT.r (QB.r (QT.r (QT.r (QB.r (QT.r ?_)))))))))
   cases H
   exact Ea rfl rfl rfl p1
  refine Wk (Qn (Ws (G (R 3 rfl (Wx 2 2 true tk sg0 rfl rfl (fun _=>tv) (RS 2 rfl ⟨by first | exact id | exact fun h=>by rw [h];rfl | simp_all,tv⟩ (Wx 3 6 false tk sg0 rfl rfl (fun _=>tv) (Wx 2 9 true tk sg0 rfl rfl (fun _=>tv) (Wx 1 6 false tk sg0 rfl rfl (fun hb=>⟨by first | exact id | exact ⟨hb,fun h=>by rw [hb,h];rfl⟩ | exact ⟨hb,id⟩ | exact fun h=>by rw [hb,h];rfl | exact fun h=>by rw [h];rfl | simp_all,tv⟩) (RS 1 rfl ⟨by first | exact id | exact fun h=>by rw [h];rfl | simp_all,tv⟩ (NQ (Wd rfl H (fun H=>?_) (fun H=>?_)))))))))))))
  ·refine G (R 1 rfl ?_)
   obtain ⟨x7,hx7,H⟩:=an H
   refine Cl [] (jz 0 rfl _ _ hx7) jA rfl p1 rfl (N (R 1 rfl (NQ (Wt (QT.r (QB.r (QT.r (QT.r (QB.r (QT.r ?_))))))))))
   cases H
   exact Ea rfl rfl rfl p1
  refine Wk (Qn (G ?_))
  obtain ⟨g8,H⟩:=ay H
  refine RS 9 rfl ⟨(zS g8),tv⟩ (N (R 2 rfl (NQ (Wd rfl H (fun H=>?_) (fun H=>?_)))))
  ·refine G (R 2 rfl (NQ (Wt (QB.r (QT.r (QT.r (QB.r (QT.r ?_))))))))
   cases H
   exact Ea rfl rfl rfl p1
  refine Wk (Qb (Qn ?_))
  exact Wg (R 2 rfl (NQ (⟨⟨(k2,(Go.bits .or .u64 s1.1 (IntKind.u64.wrap ((IntKind.u64.wrap (Go.bits .and .i64 x4.1 127))*2 ^min (IntKind.i64.wrap ((7:Int)*s1.2.1):Int).toNat IntKind.u64.bits)),IntKind.i64.wrap (s1.2.1+1),x4.2.s,x4.2.at_,x4.2.err)),H⟩,Z,Lm p3 p1⟩)))
 refine WC.exit (Qx (Qx (Qh (Qn ?_))))
 refine G (R 2 rfl (NQ (Wt ?_)))
 cases H
 exact Ea rfl rfl rfl p1
theorem ct (n0:Nat) (hn:cJ [n0]=true) (a0:ao) {r:Int×ao} (H:bF a0=some r):LJ.Spec Tryz.prog 65 [.ptr n0 0] [(n0, .box 131 [.d (.str a0.s), .d (.int .i64 a0.at_), .d (.int .i64 a0.err)])] (.d (.int .u64 r.1)) [(n0, .box 131 [.d (.str r.2.s), .d (.int .i64 r.2.at_), .d (.int .i64 r.2.err)])]:=
 Spec.names [n0] hn rfl rfl (rD a0 H)
theorem cu:aF Tryz.prog 65 Tryz.f65:=⟨Tryz.func65,rfl,by kernel_rfl⟩
theorem vd (a0:ao) {r:Int×ao} (H:fy a0=some r):LJ.Spec Tryz.prog 61 [.ptr 0 0] [(0, .box 131 [.d (.str a0.s), .d (.int .i64 a0.at_), .d (.int .i64 a0.err)])] (.d (.int .i64 r.1)) [(0, .box 131 [.d (.str r.2.s), .d (.int .i64 r.2.at_), .d (.int .i64 r.2.err)])]:=by
 refine LJ.Spec.code Tryz.func61 rfl 7 rfl rfl [0] rfl fun w0 F0 S0 B0=>?_
 unfold fy at H
 refine G (R 1 rfl (N (R 1 rfl ?_)))
 obtain ⟨x1,hx1,H⟩:=an H
 refine Cl [] (ct 0 rfl _ hx1) cu rfl p1 rfl (WL.yv (LJ.Y.min rfl rfl rfl) rfl rfl rfl (R 2 rfl (NQ (Wt ?_))))
 cases H
 exact Ea rfl rfl rfl p1
theorem jT (n0:Nat) (hn:cJ [n0]=true) (a0:ao) {r:Int×ao} (H:fy a0=some r):LJ.Spec Tryz.prog 61 [.ptr n0 0] [(n0, .box 131 [.d (.str a0.s), .d (.int .i64 a0.at_), .d (.int .i64 a0.err)])] (.d (.int .i64 r.1)) [(n0, .box 131 [.d (.str r.2.s), .d (.int .i64 r.2.at_), .d (.int .i64 r.2.err)])]:=
 Spec.names [n0] hn rfl rfl (vd a0 H)
theorem jU:aF Tryz.prog 61 Tryz.f61:=⟨Tryz.func61,rfl,by kernel_rfl⟩
theorem rf (a0:ao) {r:ByteArray×ao} (H:fz a0=some r):LJ.Spec Tryz.prog 62 [.ptr 0 0] [(0, .box 131 [.d (.str a0.s), .d (.int .i64 a0.at_), .d (.int .i64 a0.err)])] (.d (.str r.1)) [(0, .box 131 [.d (.str r.2.s), .d (.int .i64 r.2.at_), .d (.int .i64 r.2.err)])]:=by
 refine LJ.Spec.code Tryz.func62 rfl 48 rfl rfl [0] rfl fun w0 F0 S0 B0=>?_
 unfold fz at H
 refine G (R 1 rfl (N (R 1 rfl ?_)))
 obtain ⟨x1,hx1,H⟩:=an H
 refine Cl [] (ct 0 rfl _ hx1) cu rfl p1 rfl (R 1 rfl (NS (G (R 2 rfl (NQ (Wc rfl (fun h=>absurd h (by decide)) (fun h=>?_)))))))
 refine Wk (Qn (Ws (Ws (Hp (.one 0 true (.one 1 true (.one 2 true (.one 3 true (.one 4 true (.one 5 true (.one 6 true (.one 7 true (.one 8 true (.one 9 true (.one 10 true (.one 11 true (.one 12 true .done))))))))))))) [0] [0] rfl (by kernel_rfl) rfl (by kernel_rfl) rfl rfl (fun _ h=>h) rfl rfl rfl (fun _ _ _ h=>h) fun FK NK wK K=>(Hr 13 tk rfl rfl rfl rfl tv (WH.nil rfl (Qn (Wd rfl H (fun H=>?_) (fun H=>?_)))))))))
 ·refine G (R 1 rfl ?_)
  obtain ⟨x3,hx3,H⟩:=an H
  refine Cl [] (jz 0 rfl _ _ hx3) jA rfl p1 rfl (N (R 1 rfl (NQ (Wt (QT.r ?_)))))
  cases H
  exact Ea rfl rfl rfl p1
 refine Wk (Qn (G (R 9 rfl (Ef 0 rfl (NS (Hp (.one 0 true (.one 1 true (.one 2 true (.one 3 true (.one 4 true (.one 5 true (.one 6 true (.one 7 true (.one 8 true (.one 9 true (.one 10 true (.one 11 true (.one 12 true (.one 13 true (.one 14 true (.one 15 true (.one 16 true .done))))))))))))))))) [0] [0] rfl (by kernel_rfl) rfl (by kernel_rfl) rfl rfl (fun _ h=>h) rfl rfl rfl (fun _ _ _ h=>h) fun FK NK wK K=>?_))))))
 obtain ⟨g4,H⟩:=ay H
 refine Hr 17 tk rfl rfl rfl rfl ⟨(xe g4),tv⟩ (WH.nil rfl (Qn (Wt ?_)))
 cases H
 exact Ea rfl rfl rfl p1
theorem rh (n0:Nat) (hn:cJ [n0]=true) (a0:ao) {r:ByteArray×ao} (H:fz a0=some r):LJ.Spec Tryz.prog 62 [.ptr n0 0] [(n0, .box 131 [.d (.str a0.s), .d (.int .i64 a0.at_), .d (.int .i64 a0.err)])] (.d (.str r.1)) [(n0, .box 131 [.d (.str r.2.s), .d (.int .i64 r.2.at_), .d (.int .i64 r.2.err)])]:=
 Spec.names [n0] hn rfl rfl (rf a0 H)
theorem ri:aF Tryz.prog 62 Tryz.f62:=⟨Tryz.func62,rfl,by kernel_rfl⟩
theorem rE (a0:ao) {r:Int} (H:bh a0=some r):LJ.Spec Tryz.prog 63 [.ptr 0 0] [(0, .box 131 [.d (.str a0.s), .d (.int .i64 a0.at_), .d (.int .i64 a0.err)])] (.d (.int .i64 r)) [(0, .box 131 [.d (.str a0.s), .d (.int .i64 a0.at_), .d (.int .i64 a0.err)])]:=by
 refine LJ.Spec.code Tryz.func63 rfl 9 rfl rfl [0] rfl fun w0 F0 S0 B0=>?_
 unfold bh at H
 refine G (R 1 rfl (NS (G (R 2 rfl (NQ (Wc rfl (fun h=>absurd h (by decide)) (fun h=>?_)))))))
 refine Wk (Qn (G (R 5 rfl (NQ (Wt ?_)))))
 cases H
 exact Ea rfl rfl rfl p1
theorem aX (n0:Nat) (hn:cJ [n0]=true) (a0:ao) {r:Int} (H:bh a0=some r):LJ.Spec Tryz.prog 63 [.ptr n0 0] [(n0, .box 131 [.d (.str a0.s), .d (.int .i64 a0.at_), .d (.int .i64 a0.err)])] (.d (.int .i64 r)) [(n0, .box 131 [.d (.str a0.s), .d (.int .i64 a0.at_), .d (.int .i64 a0.err)])]:=
 Spec.names [n0] hn rfl rfl (rE a0 H)
theorem aY:aF Tryz.prog 63 Tryz.f63:=⟨Tryz.func63,rfl,by kernel_rfl⟩
theorem mD (a0:ByteArray) (a1:ByteArray) {r:Bool} (H:fA a0 a1=some r):LJ.Spec Tryz.prog 94 [.d (.str a0), .d (.str a1)] [] (.d (.bool r)) []:=by
 refine LJ.Spec.code Tryz.func94 rfl 8 rfl rfl [] rfl fun w0 F0 S0 B0=>?_
 unfold fA at H
 refine G (R 1 rfl (N (R 2 rfl ?_)))
 obtain ⟨x1,hx1,H⟩:=an H
 refine Cl [] (gr _ _ hx1) gu rfl tv rfl (R 1 rfl (NQ (Wt ?_)))
 cases H
 exact Ea rfl rfl rfl tv
theorem mE:aF Tryz.prog 94 Tryz.f94:=⟨Tryz.func94,rfl,by kernel_rfl⟩
theorem wG (a0:Int) {r:ByteArray} (H:lv a0=some r):LJ.Spec Tryz.prog 150 [.d (.int .i64 a0)] [] (.d (.str r)) []:=by
 refine LJ.Spec.code Tryz.func150 rfl 18 rfl rfl [] rfl fun w0 F0 S0 B0=>?_
 unfold lv at H
 refine G (R 1 rfl (NS (G (R 1 rfl (NQ (Wb (G (R 2 rfl (NQ (Wd rfl H (fun H=>?_) (fun H=>?_)))))))))))
 ·refine G (R 1 rfl (NQ (Wt (QB.r (QT.r ?_)))))
  cases H
  exact Ea rfl rfl rfl tv
 refine G (R 2 rfl (NQ (Wd rfl H (fun H=>?_) (fun H=>?_))))
 ·refine G (R 1 rfl (NQ (Wt (QB.r (QT.r ?_)))))
  cases H
  exact Ea rfl rfl rfl tv
 refine G (R 2 rfl (NQ (Wd rfl H (fun H=>?_) (fun H=>?_))))
 ·refine G (R 1 rfl (NQ (Wt (QB.r (QT.r ?_)))))
  cases H
  exact Ea rfl rfl rfl tv
 refine G (R 2 rfl (NQ (Wd rfl H (fun H=>?_) (fun H=>?_))))
 ·refine G (R 1 rfl (NQ (Wt (QB.r (QT.r ?_)))))
  cases H
  exact Ea rfl rfl rfl tv
 refine G (R 2 rfl (NQ (Wd rfl H (fun H=>?_) (fun H=>?_))))
 ·refine G (R 1 rfl (NQ (Wt (QB.r (QT.r ?_)))))
  cases H
  exact Ea rfl rfl rfl tv
 refine G (R 2 rfl (NQ (Wd rfl H (fun H=>?_) (fun H=>?_))))
 ·refine G (R 1 rfl (NQ (Wt (QB.r (QT.r ?_)))))
  cases H
  exact Ea rfl rfl rfl tv
 refine G (R 2 rfl (NQ (Wd rfl H (fun H=>?_) (fun H=>?_))))
 ·refine G (R 1 rfl (NQ (Wt (QB.r (QT.r ?_)))))
  cases H
  exact Ea rfl rfl rfl tv
 refine Wk (Qb (Qn ?_))
 refine G (R 1 rfl (NQ (Wt ?_)))
 cases H
 exact Ea rfl rfl rfl tv
theorem wH:aF Tryz.prog 150 Tryz.f150:=⟨Tryz.func150,rfl,by kernel_rfl⟩
theorem y4 (a0:ao) {r:Int×ao} (H:i9 a0=some r):LJ.Spec Tryz.prog 151 [.ptr 0 0] [(0, .box 131 [.d (.str a0.s), .d (.int .i64 a0.at_), .d (.int .i64 a0.err)])] (.d (.int .i64 r.1)) [(0, .box 131 [.d (.str r.2.s), .d (.int .i64 r.2.at_), .d (.int .i64 r.2.err)])]:=by
 refine LJ.Spec.code Tryz.func151 rfl 7 rfl rfl [0] rfl fun w0 F0 S0 B0=>?_
 unfold i9 at H
 refine G (R 1 rfl (N (R 1 rfl ?_)))
 obtain ⟨x1,hx1,H⟩:=an H
 refine Cl [] (ct 0 rfl _ hx1) cu rfl p1 rfl (WL.yv (LJ.Y.min rfl rfl rfl) rfl rfl rfl (R 2 rfl (NQ (Wt ?_))))
 cases H
 exact Ea rfl rfl rfl p1
theorem lX (n0:Nat) (hn:cJ [n0]=true) (a0:ao) {r:Int×ao} (H:i9 a0=some r):LJ.Spec Tryz.prog 151 [.ptr n0 0] [(n0, .box 131 [.d (.str a0.s), .d (.int .i64 a0.at_), .d (.int .i64 a0.err)])] (.d (.int .i64 r.1)) [(n0, .box 131 [.d (.str r.2.s), .d (.int .i64 r.2.at_), .d (.int .i64 r.2.err)])]:=
 Spec.names [n0] hn rfl rfl (y4 a0 H)
theorem lY:aF Tryz.prog 151 Tryz.f151:=⟨Tryz.func151,rfl,by kernel_rfl⟩
theorem rF (a0:ao) {r:Int×ao} (H:cN a0=some r):LJ.Spec Tryz.prog 97 [.ptr 0 0] [(0, .box 131 [.d (.str a0.s), .d (.int .i64 a0.at_), .d (.int .i64 a0.err)])] (.d (.int .i64 r.1)) [(0, .box 131 [.d (.str r.2.s), .d (.int .i64 r.2.at_), .d (.int .i64 r.2.err)])]:=by
 refine LJ.Spec.code Tryz.func97 rfl 14 rfl rfl [0] rfl fun w0 F0 S0 B0=>?_
 unfold cN at H
 refine G (R 1 rfl (N (R 1 rfl ?_)))
 obtain ⟨x1,hx1,H⟩:=an H
 refine Cl [] (ct 0 rfl _ hx1) cu rfl p1 rfl (R 1 rfl (N (R 9 rfl (NQ (Wt ?_)))))
 cases H
 exact Ea rfl rfl rfl p1
theorem iw (n0:Nat) (hn:cJ [n0]=true) (a0:ao) {r:Int×ao} (H:cN a0=some r):LJ.Spec Tryz.prog 97 [.ptr n0 0] [(n0, .box 131 [.d (.str a0.s), .d (.int .i64 a0.at_), .d (.int .i64 a0.err)])] (.d (.int .i64 r.1)) [(n0, .box 131 [.d (.str r.2.s), .d (.int .i64 r.2.at_), .d (.int .i64 r.2.err)])]:=
 Spec.names [n0] hn rfl rfl (rF a0 H)
theorem iy:aF Tryz.prog 97 Tryz.f97:=⟨Tryz.func97,rfl,by kernel_rfl⟩
theorem wI (a0:ao) {r:ab×Int×ao} (H:ka a0=some r):LJ.Spec Tryz.prog 139 [.ptr 0 0] [(0, .box 131 [.d (.str a0.s), .d (.int .i64 a0.at_), .d (.int .i64 a0.err)])] (.tup [.d (.agg [.int .i64 r.1.Kind, .int .i64 r.1.A, .int .i64 r.1.B]), .d (.int .i64 r.2.1)]) [(0, .box 131 [.d (.str r.2.2.s), .d (.int .i64 r.2.2.at_), .d (.int .i64 r.2.2.err)])]:=by
 refine LJ.Spec.code Tryz.func139 rfl 44 rfl rfl [0] rfl fun w0 F0 S0 B0=>?_
 unfold ka at H
 refine G (Wa 102 tk rfl rfl rfl (R 1 rfl (N (R 1 rfl ?_))))
 obtain ⟨x1,hx1,H⟩:=an H
 refine Cl [] (fr 0 rfl _ hx1) ft rfl p1 rfl (R 1 rfl (Wa 104 tk rfl rfl rfl (Ef 0 rfl (NS (G (R 1 rfl ?_))))))
 obtain ⟨x2,hx2,H⟩:=an H
 refine Cl [] (aX 0 rfl _ hx2) aY rfl p1 rfl (R 2 rfl ?_)
 obtain ⟨x3,hx3,H⟩:=an H
 refine Wx 4 3 true tk [PSig.at' wH ((iEq x2 0)=true) rfl (fun hb=>wG _ (of_t hx3 hb))] rfl rfl (fun hb=>⟨⟨hb,rfl⟩,tv⟩) (RS 1 rfl ⟨by first | exact id | exact fun h=>by rw [h];rfl | simp_all,tv⟩ (NQ (Wd rfl H (fun H=>?_) (fun H=>?_))))
 ·refine G (R 1 rfl (Ef 0 rfl (R 1 rfl (NQ (Wt (QT.r ?_))))))
  cases H
  exact Ends.autoC tk rfl rfl rfl p1
 refine Wk (Qn (Ws (G (R 2 rfl (NQ (Wb (G (R 2 rfl (NQ (Wd rfl H (fun H=>?_) (fun H=>?_)))))))))))
 ·refine G (R 1 rfl ?_)
  obtain ⟨x6,hx6,H⟩:=an H
  refine Cl [] (lX 0 rfl _ hx6) lY rfl p1 rfl (R 1 rfl (Ef 0 rfl (NQ (Wg (R 1 rfl ?_)))))
  obtain ⟨x7,hx7,H⟩:=an H
  refine Cl [] (lX 0 rfl _ hx7) lY rfl p1 rfl (R 1 rfl (Ef 0 rfl (Wn (Qb (Qn ?_)))))
  refine Ws (Hp (.one 0 true (.one 1 true (.one 2 false (.one 3 false (.one 4 true .done))))) [0,102,104] [104] rfl (by kernel_rfl) rfl (by kernel_rfl) rfl rfl (fun _ h=>h) rfl rfl rfl (fun _ _ _ h=>h) fun FK NK wK K=>(Hr 2 tk rfl rfl rfl rfl tv ?_))
  obtain ⟨x8,hx8,H⟩:=an H
  refine WH.call [] rfl (aX 0 rfl _ hx8) aY rfl rfl p1 rfl rfl rfl rfl rfl (He 0 tk ek rfl rfl rfl rfl tv rfl rfl (Hr 1 tk rfl rfl rfl rfl tv (WH.nil rfl (Qn (Wt ?_)))))
  cases H
  exact Ends.autoC tk rfl rfl rfl p1
 refine G (R 2 rfl (NQ (Wd rfl H (fun H=>?_) (fun H=>?_))))
 ·refine Wg (R 1 rfl ?_)
  obtain ⟨x10,hx10,H⟩:=an H
  refine Cl [] (lX 0 rfl _ hx10) lY rfl p1 rfl (R 1 rfl (Ef 0 rfl (Wn (Qb (Qn ?_)))))
  refine Ws (Hp (.one 0 true (.one 1 true (.one 2 false (.one 3 false (.one 4 true .done))))) [0,102,104] [104] rfl (by kernel_rfl) rfl (by kernel_rfl) rfl rfl (fun _ h=>h) rfl rfl rfl (fun _ _ _ h=>h) fun FK NK wK K=>(Hr 2 tk rfl rfl rfl rfl tv ?_))
  obtain ⟨x11,hx11,H⟩:=an H
  refine WH.call [] rfl (aX 0 rfl _ hx11) aY rfl rfl p1 rfl rfl rfl rfl rfl (He 0 tk ek rfl rfl rfl rfl tv rfl rfl (Hr 1 tk rfl rfl rfl rfl tv (WH.nil rfl (Qn (Wt ?_)))))
  cases H
  exact Ends.autoC tk rfl rfl rfl p1
 refine G (R 2 rfl (NQ (Wd rfl H (fun H=>?_) (fun H=>?_))))
 ·refine G (R 1 rfl ?_)
  obtain ⟨x13,hx13,H⟩:=an H
  refine Cl [] (iw 0 rfl _ hx13) iy rfl p1 rfl (R 1 rfl (Ef 0 rfl (NQ (Wg (R 1 rfl ?_)))))
  obtain ⟨x14,hx14,H⟩:=an H
  refine Cl [] (lX 0 rfl _ hx14) lY rfl p1 rfl (R 1 rfl (Ef 0 rfl (Wn (Qb (Qn ?_)))))
  refine Ws (Hp (.one 0 true (.one 1 true (.one 2 false (.one 3 false (.one 4 true .done))))) [0,102,104] [104] rfl (by kernel_rfl) rfl (by kernel_rfl) rfl rfl (fun _ h=>h) rfl rfl rfl (fun _ _ _ h=>h) fun FK NK wK K=>(Hr 2 tk rfl rfl rfl rfl tv ?_))
  obtain ⟨x15,hx15,H⟩:=an H
  refine WH.call [] rfl (aX 0 rfl _ hx15) aY rfl rfl p1 rfl rfl rfl rfl rfl (He 0 tk ek rfl rfl rfl rfl tv rfl rfl (Hr 1 tk rfl rfl rfl rfl tv (WH.nil rfl (Qn (Wt ?_)))))
  cases H
  exact Ends.autoC tk rfl rfl rfl p1
 refine Wk (Qb (Qn ?_))
 refine Ws (Hp (.one 0 true (.one 1 true (.one 2 false (.one 3 false (.one 4 true .done))))) [0,102,104] [104] rfl (by kernel_rfl) rfl (by kernel_rfl) rfl rfl (fun _ h=>h) rfl rfl rfl (fun _ _ _ h=>h) fun FK NK wK K=>(Hr 2 tk rfl rfl rfl rfl tv ?_))
 obtain ⟨x16,hx16,H⟩:=an H
 refine WH.call [] rfl (aX 0 rfl _ hx16) aY rfl rfl p1 rfl rfl rfl rfl rfl (He 0 tk ek rfl rfl rfl rfl tv rfl rfl (Hr 1 tk rfl rfl rfl rfl tv (WH.nil rfl (Qn (Wt ?_)))))
 cases H
 exact Ends.autoC tk rfl rfl rfl p1
theorem wJ (n0:Nat) (hn:cJ [n0]=true) (a0:ao) {r:ab×Int×ao} (H:ka a0=some r):LJ.Spec Tryz.prog 139 [.ptr n0 0] [(n0, .box 131 [.d (.str a0.s), .d (.int .i64 a0.at_), .d (.int .i64 a0.err)])] (.tup [.d (.agg [.int .i64 r.1.Kind, .int .i64 r.1.A, .int .i64 r.1.B]), .d (.int .i64 r.2.1)]) [(n0, .box 131 [.d (.str r.2.2.s), .d (.int .i64 r.2.2.at_), .d (.int .i64 r.2.2.err)])]:=
 Spec.names [n0] hn rfl rfl (wI a0 H)
theorem wL:aF Tryz.prog 139 Tryz.f139:=⟨Tryz.func139,rfl,by kernel_rfl⟩
theorem rj (a0:ao) {r:Int} (H:cE a0=some r):LJ.Spec Tryz.prog 67 [.ptr 0 0] [(0, .box 131 [.d (.str a0.s), .d (.int .i64 a0.at_), .d (.int .i64 a0.err)])] (.d (.int .i64 r)) [(0, .box 131 [.d (.str a0.s), .d (.int .i64 a0.at_), .d (.int .i64 a0.err)])]:=by
 refine LJ.Spec.code Tryz.func67 rfl 15 rfl rfl [0] rfl fun w0 F0 S0 B0=>?_
 unfold cE at H
 refine G (R 1 rfl (NS (G (R 2 rfl (NQ (Wc rfl (fun h=>absurd h (by decide)) (fun h=>?_)))))))
 refine Wk (Qn (Ws (Hp (.one 0 true (.one 1 true (.one 2 true (.one 3 true (.one 4 true (.one 5 true (.one 6 true (.one 7 true (.one 8 true (.one 9 true (.one 10 true .done))))))))))) [0] [0] rfl (by kernel_rfl) rfl (by kernel_rfl) rfl rfl (fun _ h=>h) rfl rfl rfl (fun _ _ _ h=>h) fun FK NK wK K=>(Hr 11 tk rfl rfl rfl rfl tv (WH.nil rfl (Qn (Wt ?_)))))))
 cases H
 exact Ea rfl rfl rfl p1
theorem c9 (n0:Nat) (hn:cJ [n0]=true) (a0:ao) {r:Int} (H:cE a0=some r):LJ.Spec Tryz.prog 67 [.ptr n0 0] [(n0, .box 131 [.d (.str a0.s), .d (.int .i64 a0.at_), .d (.int .i64 a0.err)])] (.d (.int .i64 r)) [(n0, .box 131 [.d (.str a0.s), .d (.int .i64 a0.at_), .d (.int .i64 a0.err)])]:=
 Spec.names [n0] hn rfl rfl (rj a0 H)
theorem da:aF Tryz.prog 67 Tryz.f67:=⟨Tryz.func67,rfl,by kernel_rfl⟩
theorem y5 (a0:ByteArray) {r:(List ab)×Int×Int} (H:nk a0=some r):LJ.Spec Tryz.prog 117 [.d (.str a0)] [] (.tup [.d (slT ai r.1), .d (.int .i64 r.2.1), .d (.int .i64 r.2.2)]) []:=by
 refine LJ.Spec.code Tryz.func117 rfl 54 rfl rfl [] rfl fun w0 F0 S0 B0=>?_
 unfold nk at H
 refine G (R 3 rfl (N (R 1 rfl ?_)))
 obtain ⟨x1,hx1,H⟩:=an H
 refine Cl [2140] (iP 2140 rfl _ hx1) iQ rfl tv rfl (R 1 rfl (N (R 1 rfl ?_)))
 obtain ⟨x2,hx2,H⟩:=an H
 refine Cl [] (ct 2140 rfl _ hx2) cu rfl p1 rfl (R 1 rfl (NS (G (R 1 rfl ?_))))
 obtain ⟨x3,hx3,H⟩:=an H
 refine Cl [] (aX 2140 rfl _ hx3) aY rfl p1 rfl (R 1 rfl (N (R 2 rfl (NQ (Wd rfl H (fun H=>?_) (fun H=>?_))))))
 ·refine G (R 4 rfl (NQ (WC.nilT 2 ai rfl (Wt (QT.r ?_)))))
  cases H
  exact Ea rfl rfl rfl tv
 refine Wk (Qn (Ws (G (R 2 rfl (NQ (Wd rfl H (fun H=>?_) (fun H=>?_)))))))
 ·refine G (R 3 rfl (NQ (WC.nilT 2 ai rfl (Wt (QT.r ?_)))))
  cases H
  exact Ea rfl rfl rfl tv
 refine Wk (Qn (G (R 1 rfl (NS (G (R 2 rfl (NQ (Wb (WC.nilrow (t:=8) 1035 93 3 rfl rfl rfl (Wl (ι:= {x:Nat×(Int×(List ab)×ByteArray×Int×Int) //gg a0 x2 x.1 x.2=some r}) (fun x=>[(0, .d (.str a0)),(5, .ptr 2140 0),(8, .own 1035),(24, .d (.int .u64 x2.1)),(25, .d (.int .u64 x.1.2.1))]) (fun x=>[(1035, .row 93 3 (x.1.2.2.1.map ai)),(2140, .box 131 [.d (.str x.1.2.2.2.1), .d (.int .i64 x.1.2.2.2.2.1), .d (.int .i64 x.1.2.2.2.2.2)])]) (fun x=>x.1.1) ⟨(fuel,(0,([]:List ab),x2.2.s,x2.2.at_,x2.2.err)),H⟩ (Lm p5 p2) fun x=>?_))))))))))
 obtain ⟨⟨k8,s7⟩,H⟩:=x
 rcases k8 with _ | k8
 ·exact aO H
 rw [gg] at H
 refine G (R 1 rfl (NS (Wd rfl H (fun H=>?_) (fun H=>?_))))
 ·refine Wk (Qn (Ws (Wb (G (R 1 rfl ?_)))))
  obtain ⟨x10,hx10,H⟩:=an H
  refine Cl [] (wJ 2140 rfl _ hx10) wL rfl p1 rfl (R 3 rfl (Wa 109 tk rfl rfl rfl (Ef 0 rfl (R 1 rfl (NS (G (R 2 rfl (NQ (Wd rfl H (fun H=>?_) (fun H=>?_))))))))))
  ·refine G (R 4 rfl (NQ (WC.nilT 2 ai rfl (Wt (QT.r (QB.r (QT.r (QT.r (QB.r (QT.r ?_))))))))))
   cases H
   exact Ea rfl rfl rfl tv
  refine Wk (Qn (Wg (R 2 rfl (Ef 137 rfl (WL.freezeT 137 ai ([x10.1]:List ab) rfl rfl rfl rfl ?_)))))
  obtain ⟨g12,H⟩:=ay H
  refine WL.appT ai s7.2.1 ([x10.1]:List ab) tk ek rfl rfl (fun _=>rfl) (fun _=>rfl) rfl rfl rfl rfl (bQ g12) rfl rfl rfl rfl rfl ?_
  refine R 1 rfl (Wn (Qb (Qn ?_)))
  exact Wg (R 2 rfl (NQ (⟨⟨(k8,(IntKind.u64.wrap (s7.1+1),s7.2.1++([x10.1]:List ab),x10.2.2.s,x10.2.2.at_,x10.2.2.err)),H⟩,Z,Lm p5 p2⟩)))
 refine WC.exit (Qx (Qx (Qh (Qn ?_))))
 refine Ws (G (R 1 rfl (WL.freezeT 1035 ai s7.2.1 rfl rfl rfl rfl ?_)))
 obtain ⟨x13,hx13,H⟩:=an H
 refine Cl [] (lB _ hx13) lC rfl tv rfl (R 5 rfl (N (R 2 rfl (NQ (Wd rfl H (fun H=>?_) (fun H=>?_))))))
 ·refine G (R 4 rfl (NQ (WC.nilT 2 ai rfl (Wt (QT.r ?_)))))
  cases H
  exact Ea rfl rfl rfl tv
 refine Wk (Qn (G (R 4 rfl ?_)))
 obtain ⟨x15,hx15,H⟩:=an H
 refine Cl [] (c9 2140 rfl _ hx15) da rfl p1 rfl (R 4 rfl (NQ (Wt ?_)))
 cases H
 exact Ea rfl rfl rfl tv
theorem y6:aF Tryz.prog 117 Tryz.f117:=⟨Tryz.func117,rfl,by kernel_rfl⟩
theorem jV (a0:ax) (a1:Int) (a2:Int) {z:Int ⊕ ax} (H:bD a0 a1 a2=some z):LJ.ml Tryz.prog 118 [.ptr 0 0, .d (.int .i64 a1), .d (.int .i64 a2)] [(0, .box 173 [.d (.str a0.s)])] (fun e=> .iface 169 (.agg #[.int .i64 e])) (fun (r:ax)=>(.tup [],[(0, .box 173 [.d (.str r.s)])])) z:=by
 refine LJ.ml.code Tryz.func118 rfl 20 rfl rfl [0] rfl fun w0 F0 S0 B0=>?_
 unfold bD at H
 refine Ws (G (R 2 rfl (NQ (Wd rfl H (fun H=>?_) (fun H=>?_)))))
 ·refine Wg (R 2 rfl ?_)
  cases H
  exact WL.panicI rfl rfl rfl rfl rfl rfl rfl (by kernel_rfl) ⟨_,rfl,rfl⟩
 refine Wk (Qn (Wg ?_))
 obtain ⟨g2,H⟩:=ay H
 refine RS 9 rfl ⟨(qh g2),tv⟩ (Ef 0 rfl (Wn ?_))
 cases H
 refine ⟨_,rfl,?_⟩
 exact Ends.auton rfl rfl rfl p1
theorem nZ (a0:ax) (a1:Int) (a2:Int) {r:ax} (H:bD a0 a1 a2=some (.inr r)):LJ.Spec Tryz.prog 118 [.ptr 0 0, .d (.int .i64 a1), .d (.int .i64 a2)] [(0, .box 173 [.d (.str a0.s)])] (.tup []) [(0, .box 173 [.d (.str r.s)])]:=jV a0 a1 a2 H
theorem df (a0:ax) (a1:Int) (a2:Int) {e:Int} (H:bD a0 a1 a2=some (.inl e)):LJ.l9 Tryz.prog 118 [.ptr 0 0, .d (.int .i64 a1), .d (.int .i64 a2)] [(0, .box 173 [.d (.str a0.s)])] (.iface 169 (.agg #[.int .i64 e])):=jV a0 a1 a2 H
theorem dg (n0:Nat) (hn:cJ [n0]=true) (a0:ax) (a1:Int) (a2:Int) {r:ax} (H:bD a0 a1 a2=some (.inr r)):LJ.Spec Tryz.prog 118 [.ptr n0 0, .d (.int .i64 a1), .d (.int .i64 a2)] [(n0, .box 173 [.d (.str a0.s)])] (.tup []) [(n0, .box 173 [.d (.str r.s)])]:=
 Spec.names [n0] hn rfl rfl (nZ a0 a1 a2 H)
theorem bx:aF Tryz.prog 118 Tryz.f118:=⟨Tryz.func118,rfl,by kernel_rfl⟩
theorem kt (a0:ax) {z:Int ⊕ (Int×ax)} (H:cr a0=some z):LJ.ml Tryz.prog 140 [.ptr 0 0] [(0, .box 173 [.d (.str a0.s)])] (fun e=> .iface 169 (.agg #[.int .i64 e])) (fun (r:Int×ax)=>(.d (.int .i64 r.1),[(0, .box 173 [.d (.str r.2.s)])])) z:=by
 refine LJ.ml.code Tryz.func140 rfl 27 rfl rfl [0] rfl fun w0 F0 S0 B0=>?_
 unfold cr at H
 refine G (R 1 rfl (N (R 4 rfl ?_)))
 obtain ⟨x1,hx1,H⟩:=an H
 refine Cl [2090] (iP 2090 rfl _ hx1) iQ rfl tv rfl (R 1 rfl (N (R 1 rfl ?_)))
 obtain ⟨x2,hx2,H⟩:=an H
 refine Cl [] (ct 2090 rfl _ hx2) cu rfl p1 rfl (R 1 rfl (NQ (Ws ?_)))
 obtain ⟨x3_7_1,hx3_7_1,H⟩:=an H
 obtain ⟨x3_10_1,hx3_10_1,H⟩:=an H
 rcases fR H with ⟨e,hx3_11_1,rfl⟩ | ⟨x3_11_1r,hx3_11_1,H⟩
 ·refine Hp (.one 0 true (.one 1 true (.one 2 true (.one 3 true (.one 6 true (.one 9 true (.fork (.one 4 false (.one 5 true (.one 7 false (.one 8 true (.one 10 false (.one 11 false .done)))))) (.one 7 false (.fork (.one 4 false (.one 5 true (.one 8 true (.one 10 false (.one 11 false .done))))) (.one 10 false (.one 4 false (.one 5 true (.one 8 true (.one 11 false .done)))))))))))))) [0,2090] [] rfl (by kernel_rfl) rfl (by kernel_rfl) rfl rfl (fun _ h=>h) rfl rfl rfl (fun _ _ _ h=>h) fun FK NK wK K=>(Hr 6 tk rfl rfl rfl rfl tv (WH.fork ?_ ?_))
  ·exact WH.val tk rfl rfl rfl rfl rfl tv rfl rfl (Hr 1 tk rfl rfl rfl rfl tv (WH.call [] rfl (c9 2090 rfl _ hx3_7_1) da rfl rfl p1 rfl rfl rfl rfl rfl (Hr 1 tk rfl rfl rfl rfl tv (WH.call [] rfl (aX 2090 rfl _ hx3_10_1) aY rfl rfl p1 rfl rfl rfl rfl rfl (WH.callP rfl (df _ _ _ hx3_11_1) bx rfl rfl p1 rfl rfl rfl ⟨_,rfl,rfl⟩)))))
  ·refine WH.call [] rfl (c9 2090 rfl _ hx3_7_1) da rfl rfl p1 rfl rfl rfl rfl rfl (WH.fork ?_ ?_)
   ·exact WH.val tk rfl rfl rfl rfl rfl tv rfl rfl (Hr 2 tk rfl rfl rfl rfl tv (WH.call [] rfl (aX 2090 rfl _ hx3_10_1) aY rfl rfl p1 rfl rfl rfl rfl rfl (WH.callP rfl (df _ _ _ hx3_11_1) bx rfl rfl p1 rfl rfl rfl ⟨_,rfl,rfl⟩)))
   ·exact WH.call [] rfl (aX 2090 rfl _ hx3_10_1) aY rfl rfl p1 rfl rfl rfl rfl rfl (WH.val tk rfl rfl rfl rfl rfl tv rfl rfl (Hr 2 tk rfl rfl rfl rfl tv (WH.callP rfl (df _ _ _ hx3_11_1) bx rfl rfl p1 rfl rfl rfl ⟨_,rfl,rfl⟩)))
 refine WC.heldF [(4, .d (.int .u64 x2.1))] [(0, .box 173 [.d (.str x3_11_1r.s)])] (sT 0 (sT 1 (sT 2 (sT 3 (sT 6 (sT 9 (fk (sf 4 (sT 5 (sf 7 (sT 8 (sf 10 (sf 11 sd)))))) (sf 7 (fk (sf 4 (sT 5 (sT 8 (sf 10 (sf 11 sd))))) (sf 10 (sf 4 (sT 5 (sT 8 (sf 11 sd)))))))))))))) [0,2090] [] rfl (by kernel_rfl) rfl (by kernel_rfl) rfl rfl (fun _ h=>h) rfl rfl rfl (fun FK NK wK K=>?_) ?_
 ·refine Hr 6 tk rfl rfl rfl rfl tv (WH.fork ?_ ?_)
  ·exact WH.val tk rfl rfl rfl rfl rfl tv rfl rfl (Hr 1 tk rfl rfl rfl rfl tv (WH.call [] rfl (c9 2090 rfl _ hx3_7_1) da rfl rfl p1 rfl rfl rfl rfl rfl (Hr 1 tk rfl rfl rfl rfl tv (WH.call [] rfl (aX 2090 rfl _ hx3_10_1) aY rfl rfl p1 rfl rfl rfl rfl rfl (WH.call [] rfl (dg 0 rfl _ _ _ hx3_11_1) bx rfl rfl p1 rfl rfl rfl rfl rfl (Hn rfl (Lw q1 p1)))))))
  ·refine WH.call [] rfl (c9 2090 rfl _ hx3_7_1) da rfl rfl p1 rfl rfl rfl rfl rfl (WH.fork ?_ ?_)
   ·exact WH.val tk rfl rfl rfl rfl rfl tv rfl rfl (Hr 2 tk rfl rfl rfl rfl tv (WH.call [] rfl (aX 2090 rfl _ hx3_10_1) aY rfl rfl p1 rfl rfl rfl rfl rfl (WH.call [] rfl (dg 0 rfl _ _ _ hx3_11_1) bx rfl rfl p1 rfl rfl rfl rfl rfl (Hn rfl (Lw q1 p1)))))
   ·exact WH.call [] rfl (aX 2090 rfl _ hx3_10_1) aY rfl rfl p1 rfl rfl rfl rfl rfl (WH.val tk rfl rfl rfl rfl rfl tv rfl rfl (Hr 2 tk rfl rfl rfl rfl tv (WH.call [] rfl (dg 0 rfl _ _ _ hx3_11_1) bx rfl rfl p1 rfl rfl rfl rfl rfl (Hn rfl (Lw q1 p1)))))
 ·refine Qn (G (R 1 rfl (WL.yv (LJ.Y.min rfl rfl rfl) rfl rfl rfl (R 2 rfl (NQ (Wt ?_))))))
  cases H
  refine ⟨_,rfl,?_⟩
  exact Ea rfl rfl rfl p1
theorem oy (a0:ax) {r:Int×ax} (H:cr a0=some (.inr r)):LJ.Spec Tryz.prog 140 [.ptr 0 0] [(0, .box 173 [.d (.str a0.s)])] (.d (.int .i64 r.1)) [(0, .box 173 [.d (.str r.2.s)])]:=kt a0 H
theorem ie (a0:ax) {e:Int} (H:cr a0=some (.inl e)):LJ.l9 Tryz.prog 140 [.ptr 0 0] [(0, .box 173 [.d (.str a0.s)])] (.iface 169 (.agg #[.int .i64 e])):=kt a0 H
theorem ig (n0:Nat) (hn:cJ [n0]=true) (a0:ax) {r:Int×ax} (H:cr a0=some (.inr r)):LJ.Spec Tryz.prog 140 [.ptr n0 0] [(n0, .box 173 [.d (.str a0.s)])] (.d (.int .i64 r.1)) [(n0, .box 173 [.d (.str r.2.s)])]:=
 Spec.names [n0] hn rfl rfl (oy a0 H)
theorem dz:aF Tryz.prog 140 Tryz.f140:=⟨Tryz.func140,rfl,by kernel_rfl⟩
theorem jW (a0:ax) (a1:Int) {z:Int ⊕ (Int×ax)} (H:cd a0 a1=some z):LJ.ml Tryz.prog 119 [.ptr 0 0, .d (.int .i64 a1)] [(0, .box 173 [.d (.str a0.s)])] (fun e=> .iface 169 (.agg #[.int .i64 e])) (fun (r:Int×ax)=>(.d (.int .i64 r.1),[(0, .box 173 [.d (.str r.2.s)])])) z:=by
 refine LJ.ml.code Tryz.func119 rfl 14 rfl rfl [0] rfl fun w0 F0 S0 B0=>?_
 unfold cd at H
 refine G (R 1 rfl (N (R 1 rfl ?_)))
 rcases fR H with ⟨e,hx1,rfl⟩ | ⟨x1r,hx1,H⟩
 ·exact WL.callP (ie _ hx1) dz rfl rfl p1 rfl rfl ⟨_,rfl,rfl⟩
 refine Cl [] (ig 0 rfl _ hx1) dz rfl p1 rfl (R 1 rfl (NS (G (R 3 rfl (NQ (Wd rfl H (fun H=>?_) (fun H=>?_)))))))
 ·refine Wg (R 1 rfl ?_)
  cases H
  exact WL.panicI rfl rfl rfl rfl rfl rfl rfl (by kernel_rfl) ⟨_,rfl,rfl⟩
 refine Wk (Qn (G (R 2 rfl (NQ (Wt ?_)))))
 cases H
 refine ⟨_,rfl,?_⟩
 exact Ea rfl rfl rfl p1
theorem n3 (a0:ax) (a1:Int) {r:Int×ax} (H:cd a0 a1=some (.inr r)):LJ.Spec Tryz.prog 119 [.ptr 0 0, .d (.int .i64 a1)] [(0, .box 173 [.d (.str a0.s)])] (.d (.int .i64 r.1)) [(0, .box 173 [.d (.str r.2.s)])]:=jW a0 a1 H
theorem gO (a0:ax) (a1:Int) {e:Int} (H:cd a0 a1=some (.inl e)):LJ.l9 Tryz.prog 119 [.ptr 0 0, .d (.int .i64 a1)] [(0, .box 173 [.d (.str a0.s)])] (.iface 169 (.agg #[.int .i64 e])):=jW a0 a1 H
theorem gQ (n0:Nat) (hn:cJ [n0]=true) (a0:ax) (a1:Int) {r:Int×ax} (H:cd a0 a1=some (.inr r)):LJ.Spec Tryz.prog 119 [.ptr n0 0, .d (.int .i64 a1)] [(n0, .box 173 [.d (.str a0.s)])] (.d (.int .i64 r.1)) [(n0, .box 173 [.d (.str r.2.s)])]:=
 Spec.names [n0] hn rfl rfl (n3 a0 a1 H)
theorem dh:aF Tryz.prog 119 Tryz.f119:=⟨Tryz.func119,rfl,by kernel_rfl⟩
theorem wM (a0:ao) (a1:Int) {r:Int×Int×ao} (H:jo a0 a1=some r):LJ.Spec Tryz.prog 141 [.ptr 0 0, .d (.int .u64 a1)] [(0, .box 131 [.d (.str a0.s), .d (.int .i64 a0.at_), .d (.int .i64 a0.err)])] (.tup [.d (.int .i64 r.1), .d (.int .i64 r.2.1)]) [(0, .box 131 [.d (.str r.2.2.s), .d (.int .i64 r.2.2.at_), .d (.int .i64 r.2.2.err)])]:=by
 refine LJ.Spec.code Tryz.func141 rfl 16 rfl rfl [0] rfl fun w0 F0 S0 B0=>?_
 unfold jo at H
 refine G (R 2 rfl (N (R 1 rfl ?_)))
 obtain ⟨x1,hx1,H⟩:=an H
 refine Cl [] (ct 0 rfl _ hx1) cu rfl p1 rfl (R 1 rfl (NS (G (R 3 rfl (NQ (Wd rfl H (fun H=>?_) (fun H=>?_)))))))
 ·refine G (R 2 rfl (NQ (Wt (QT.r ?_))))
  cases H
  exact Ea rfl rfl rfl p1
 refine Wk (Qn (G (R 3 rfl ?_)))
 obtain ⟨x3,hx3,H⟩:=an H
 refine Cl [] (aX 0 rfl _ hx3) aY rfl p1 rfl (R 2 rfl (NQ (Wt ?_)))
 cases H
 exact Ea rfl rfl rfl p1
theorem rk (n0:Nat) (hn:cJ [n0]=true) (a0:ao) (a1:Int) {r:Int×Int×ao} (H:jo a0 a1=some r):LJ.Spec Tryz.prog 141 [.ptr n0 0, .d (.int .u64 a1)] [(n0, .box 131 [.d (.str a0.s), .d (.int .i64 a0.at_), .d (.int .i64 a0.err)])] (.tup [.d (.int .i64 r.1), .d (.int .i64 r.2.1)]) [(n0, .box 131 [.d (.str r.2.2.s), .d (.int .i64 r.2.2.at_), .d (.int .i64 r.2.2.err)])]:=
 Spec.names [n0] hn rfl rfl (wM a0 a1 H)
theorem rl:aF Tryz.prog 141 Tryz.f141:=⟨Tryz.func141,rfl,by kernel_rfl⟩
theorem wN (a0:ao) {r:af×Int×ao} (H:kb a0=some r):LJ.Spec Tryz.prog 142 [.ptr 0 0] [(0, .box 131 [.d (.str a0.s), .d (.int .i64 a0.at_), .d (.int .i64 a0.err)])] (.tup [.d (.agg [.int .i64 r.1.Kind, .int .i64 r.1.Obj, .int .i64 r.1.N]), .d (.int .i64 r.2.1)]) [(0, .box 131 [.d (.str r.2.2.s), .d (.int .i64 r.2.2.at_), .d (.int .i64 r.2.2.err)])]:=by
 refine LJ.Spec.code Tryz.func142 rfl 40 rfl rfl [0] rfl fun w0 F0 S0 B0=>?_
 unfold kb at H
 refine G (Wa 102 tk rfl rfl rfl (R 1 rfl (N (R 1 rfl ?_))))
 obtain ⟨x1,hx1,H⟩:=an H
 refine Cl [] (fr 0 rfl _ hx1) ft rfl p1 rfl (R 1 rfl (Wa 104 tk rfl rfl rfl (Ef 0 rfl (NS (G (R 1 rfl ?_))))))
 obtain ⟨x2,hx2,H⟩:=an H
 refine Cl [] (aX 0 rfl _ hx2) aY rfl p1 rfl (R 1 rfl (N (R 2 rfl (NQ (Wd rfl H (fun H=>?_) (fun H=>?_))))))
 ·refine G (R 2 rfl (Ef 0 rfl (R 1 rfl (NQ (Wt (QT.r ?_))))))
  cases H
  exact Ends.autoC tk rfl rfl rfl p1
 refine Wk (Qn (Ws (G (R 4 rfl (Wx 3 3 false tk sg0 rfl rfl (fun _=>tv) (RS 1 rfl ⟨by first | exact id | exact fun h=>by rw [h];rfl | simp_all,tv⟩ (NQ (Wd rfl H (fun H=>?_) (fun H=>?_)))))))))
 ·refine G (R 1 rfl (Ef 0 rfl (R 1 rfl (NQ (Wt (QT.r ?_))))))
  cases H
  exact Ends.autoC tk rfl rfl rfl p1
 refine Wk (Qn (G (R 1 rfl ?_)))
 obtain ⟨x5,hx5,H⟩:=an H
 refine Cl [] (ct 0 rfl _ hx5) cu rfl p1 rfl (WL.yv (LJ.Y.min rfl rfl rfl) rfl rfl rfl (R 2 rfl (Ef 0 rfl (NS (G (R 2 rfl ?_))))))
 obtain ⟨x6,hx6,H⟩:=an H
 refine Cl [] (bt _ hx6) bu rfl tv rfl (NQ (Wd rfl H (fun H=>?_) (fun H=>?_)))
 ·refine Wg (R 1 rfl ?_)
  obtain ⟨x8,hx8,H⟩:=an H
  refine Cl [] (ct 0 rfl _ hx8) cu rfl p1 rfl (WL.yv (LJ.Y.min rfl rfl rfl) rfl rfl rfl (R 2 rfl (Ef 0 rfl (NS (Hp (.one 0 true (.one 1 true (.one 2 false (.one 3 false (.one 4 true .done))))) [0,102,104] [104] rfl (by kernel_rfl) rfl (by kernel_rfl) rfl rfl (fun _ h=>h) rfl rfl rfl (fun _ _ _ h=>h) fun FK NK wK K=>(Hr 2 tk rfl rfl rfl rfl tv ?_))))))
  obtain ⟨x9,hx9,H⟩:=an H
  refine WH.call [] rfl (aX 0 rfl _ hx9) aY rfl rfl p1 rfl rfl rfl rfl rfl (He 0 tk ek rfl rfl rfl rfl tv rfl rfl (Hr 1 tk rfl rfl rfl rfl tv (WH.nil rfl (Qn (Wt ?_)))))
  cases H
  exact Ends.autoC tk rfl rfl rfl p1
 refine Wk (Qn (Ws (Hp (.one 0 true (.one 1 true (.one 2 false (.one 3 false (.one 4 true .done))))) [0,102,104] [104] rfl (by kernel_rfl) rfl (by kernel_rfl) rfl rfl (fun _ h=>h) rfl rfl rfl (fun _ _ _ h=>h) fun FK NK wK K=>(Hr 2 tk rfl rfl rfl rfl tv ?_))))
 obtain ⟨x10,hx10,H⟩:=an H
 refine WH.call [] rfl (aX 0 rfl _ hx10) aY rfl rfl p1 rfl rfl rfl rfl rfl (He 0 tk ek rfl rfl rfl rfl tv rfl rfl (Hr 1 tk rfl rfl rfl rfl tv (WH.nil rfl (Qn (Wt ?_)))))
 cases H
 exact Ends.autoC tk rfl rfl rfl p1
theorem wO (n0:Nat) (hn:cJ [n0]=true) (a0:ao) {r:af×Int×ao} (H:kb a0=some r):LJ.Spec Tryz.prog 142 [.ptr n0 0] [(n0, .box 131 [.d (.str a0.s), .d (.int .i64 a0.at_), .d (.int .i64 a0.err)])] (.tup [.d (.agg [.int .i64 r.1.Kind, .int .i64 r.1.Obj, .int .i64 r.1.N]), .d (.int .i64 r.2.1)]) [(n0, .box 131 [.d (.str r.2.2.s), .d (.int .i64 r.2.2.at_), .d (.int .i64 r.2.2.err)])]:=
 Spec.names [n0] hn rfl rfl (wN a0 H)
theorem wP:aF Tryz.prog 142 Tryz.f142:=⟨Tryz.func142,rfl,by kernel_rfl⟩
theorem y7 (a0:List ab) (a1:ByteArray) {r:(List (List af))×Int×Int} (H:nm a0 a1=some r):LJ.Spec Tryz.prog 120 [.d (slT ai a0), .d (.str a1)] [] (.tup [.d (slT aG r.1), .d (.int .i64 r.2.1), .d (.int .i64 r.2.2)]) []:=by
 refine LJ.Spec.code Tryz.func120 rfl 71 rfl rfl [] rfl fun w0 F0 S0 B0=>?_
 unfold nm at H
 refine G (R 3 rfl (N (R 1 rfl ?_)))
 obtain ⟨x1,hx1,H⟩:=an H
 refine Cl [2180] (iP 2180 rfl _ hx1) iQ rfl tv rfl (R 1 rfl (N (R 1 rfl ?_)))
 obtain ⟨x2,hx2,H⟩:=an H
 refine Cl [] (rk 2180 rfl _ _ hx2) rl rfl p1 rfl (R 5 rfl (NS (G (R 2 rfl (NQ (Wd rfl H (fun H=>?_) (fun H=>?_)))))))
 ·refine G (R 4 rfl (NQ (WC.nilT 4 aG rfl (Wt (QT.r ?_)))))
  cases H
  exact Ea rfl rfl rfl tv
 refine Wk (Qn (G (R 1 rfl (NS (G (R 2 rfl (NQ (Wb (WC.nilrow (t:=10) 1054 142 1 rfl rfl rfl (Wl (ι:= {x:Nat×(Int×(List (List af))×ByteArray×Int×Int) //fl a0 a1 x2 x.1 x.2=some r}) (fun x=>[(0, .d (slT ai a0)),(1, .d (.str a1)),(7, .ptr 2180 0),(10, .own 1054),(27, .d (.int .i64 x2.1)),(28, .d (.int .i64 x.1.2.1))]) (fun x=>[(1054, .row 142 1 (x.1.2.2.1.map aG)),(2180, .box 131 [.d (.str x.1.2.2.2.1), .d (.int .i64 x.1.2.2.2.2.1), .d (.int .i64 x.1.2.2.2.2.2)])]) (fun x=>x.1.1) ⟨(fuel,(0,([]:List (List af)),x2.2.2.s,x2.2.2.at_,x2.2.2.err)),H⟩ (Lm p6 p2) fun x=>?_))))))))))
 obtain ⟨⟨k6,s5⟩,H⟩:=x
 rcases k6 with _ | k6
 ·exact aO H
 rw [fl] at H
 refine G (R 1 rfl (NS (Wd rfl H (fun H=>?_) (fun H=>?_))))
 ·refine Wk (Qn ?_)
  obtain ⟨K8,hK8,H⟩:=db H
  refine WC.cut (fun E m=>∃ s9:(List (List af))×ByteArray×Int×Int,K8 s9=some r∧iA E m [(0, .d (slT ai a0)),(1, .d (.str a1)),(7, .ptr 2180 0),(10, .own 1054),(27, .d (.int .i64 x2.1)),(28, .d (.int .i64 s5.1))] [(1054, .row 142 1 (s9.1.map aG)),(2180, .box 131 [.d (.str s9.2.1), .d (.int .i64 s9.2.2.1), .d (.int .i64 s9.2.2.2)])]) ?_ ?_
  ·refine Wb (G (R 1 rfl ?_))
   obtain ⟨x10,hx10,H⟩:=an H
   refine Cl [] (rk 2180 rfl _ _ hx10) rl rfl p1 rfl (R 5 rfl (NS (G (R 2 rfl (NQ (Wd rfl H (fun H=>?_) (fun H=>?_)))))))
   ·refine G (R 4 rfl (NQ (WC.nilT 4 aG rfl (Wt (QT.r (QB.r (QT.r (QT.r (QB.r (QT.r ?_))))))))))
    cases H
    exact Ea rfl rfl rfl tv
   refine Wk (Qn (G (R 1 rfl (NS (G (R 2 rfl (NQ (Wb (WC.nilrow (t:=13) 1049 159 3 rfl rfl rfl (Wl (ι:= {x:Nat×(Int×(List af)×ByteArray×Int×Int) //fj s5 K8 x10 x.1 x.2=some r}) (fun x=>[(0, .d (slT ai a0)),(1, .d (.str a1)),(7, .ptr 2180 0),(10, .own 1054),(13, .own 1049),(27, .d (.int .i64 x2.1)),(28, .d (.int .i64 s5.1)),(38, .d (.int .i64 x10.1)),(39, .d (.int .i64 x.1.2.1))]) (fun x=>[(1049, .row 159 3 (x.1.2.2.1.map bE)),(1054, .row 142 1 (s5.2.1.map aG)),(2180, .box 131 [.d (.str x.1.2.2.2.1), .d (.int .i64 x.1.2.2.2.2.1), .d (.int .i64 x.1.2.2.2.2.2)])]) (fun x=>x.1.1) ⟨(fuel,(0,([]:List af),x10.2.2.s,x10.2.2.at_,x10.2.2.err)),H⟩ (Lm p9 p3) fun x=>?_))))))))))
   obtain ⟨⟨k14,s13⟩,H⟩:=x
   rcases k14 with _ | k14
   ·exact aO H
   rw [fj] at H
   refine G (R 1 rfl (NS (Wd rfl H (fun H=>?_) (fun H=>?_))))
   ·refine Wk (Qn (Ws (Wb (G (R 1 rfl ?_)))))
    obtain ⟨x16,hx16,H⟩:=an H
    refine Cl [] (wO 2180 rfl _ hx16) wP rfl p1 rfl (R 3 rfl (Wa 114 tk rfl rfl rfl (Ef 0 rfl (R 1 rfl (NS (G (R 2 rfl (NQ (Wd rfl H (fun H=>?_) (fun H=>?_))))))))))
    ·refine G (R 4 rfl (NQ (WC.nilT 4 aG rfl (Wt (QT.r (QB.r (QT.r (QT.r (QB.r (QT.r (QB.r (QT.r (QT.r (QB.r (QT.r ?_)))))))))))))))
     cases H
     exact Ea rfl rfl rfl tv
    refine Wk (Qn (Wg (R 2 rfl (Ef 151 rfl (WL.freezeT 151 bE ([x16.1]:List af) rfl rfl rfl rfl ?_)))))
    obtain ⟨g18,H⟩:=ay H
    refine WL.appT bE s13.2.1 ([x16.1]:List af) tk ek rfl rfl (fun _=>rfl) (fun _=>rfl) rfl rfl rfl rfl (bQ g18) rfl rfl rfl rfl rfl ?_
    refine R 1 rfl (Wn (Qb (Qn ?_)))
    exact Wg (R 2 rfl (NQ (⟨⟨(k14,(IntKind.i64.wrap (s13.1+1),s13.2.1++([x16.1]:List af),x16.2.2.s,x16.2.2.at_,x16.2.2.err)),H⟩,Z,Lm p9 p3⟩)))
   refine WC.exit (Qx (Qx (Qh (Qn ?_))))
   refine Wg (R 2 rfl (WL.freezeT 1049 bE s13.2.1 rfl rfl rfl rfl (Ef 156 rfl (WL.freezeT 156 aG ([s13.2.1]:List (List af)) rfl rfl rfl rfl ?_))))
   obtain ⟨g19,H⟩:=ay H
   refine WL.appT aG s5.2.1 ([s13.2.1]:List (List af)) tk ek rfl rfl (fun _=>rfl) (fun _=>rfl) rfl rfl rfl rfl (bQ g19) rfl rfl rfl rfl rfl ?_
   refine R 1 rfl (Wn (Qb (Qn ?_)))
   exact ⟨(s5.2.1++([s13.2.1]:List (List af)),s13.2.2.1,s13.2.2.2.1,s13.2.2.2.2),H,Lw q6 p2⟩
  ·rintro E m ⟨s9,H,hl⟩
   refine WC.lessW hl ?_
   replace H:=(hK8 _).symm.trans H
   try dsimp only at H
   exact Wg (R 2 rfl (NQ (⟨⟨(k6,(IntKind.i64.wrap (s5.1+1),s9.1,s9.2.1,s9.2.2.1,s9.2.2.2)),H⟩,Z,Lm p6 p2⟩)))
 refine WC.exit (Qx (Qx (Qh (Qn ?_))))
 refine Ws (G (R 2 rfl (WL.freezeT 1054 aG s5.2.1 rfl rfl rfl rfl ?_)))
 obtain ⟨x20,hx20,H⟩:=an H
 refine Cl [] (lD _ _ hx20) lF rfl tv rfl (R 1 rfl (N (R 2 rfl (NQ (Wd rfl H (fun H=>?_) (fun H=>?_))))))
 ·refine G (R 4 rfl (NQ (WC.nilT 4 aG rfl (Wt (QT.r ?_)))))
  cases H
  exact Ea rfl rfl rfl tv
 refine Wk (Qn (G (R 4 rfl ?_)))
 obtain ⟨x22,hx22,H⟩:=an H
 refine Cl [] (c9 2180 rfl _ hx22) da rfl p1 rfl (R 4 rfl (NQ (Wt ?_)))
 cases H
 exact Ea rfl rfl rfl tv
theorem y8:aF Tryz.prog 120 Tryz.f120:=⟨Tryz.func120,rfl,by kernel_rfl⟩
theorem Bb (a0:ByteArray) {r:ar×Int×Int} (H:qo a0=some r):LJ.Spec Tryz.prog 143 [.d (.str a0)] [] (.tup [.d (.agg [.int .i64 r.1.Op, .int .i64 r.1.A, .int .i64 r.1.B]), .d (.int .i64 r.2.1), .d (.int .i64 r.2.2)]) []:=by
 refine LJ.Spec.code Tryz.func143 rfl 76 rfl rfl [] rfl fun w0 F0 S0 B0=>?_
 unfold qo at H
 refine G (Wa 102 tk rfl rfl rfl (R 2 rfl (N (R 1 rfl ?_))))
 obtain ⟨x1,hx1,H⟩:=an H
 refine Cl [2140] (iP 2140 rfl _ hx1) iQ rfl tv rfl (R 1 rfl (N (R 1 rfl ?_)))
 obtain ⟨x2,hx2,H⟩:=an H
 refine Cl [] (fr 2140 rfl _ hx2) ft rfl p1 rfl (R 1 rfl (Wa 106 tk rfl rfl rfl (Ef 0 rfl (NS (G (R 1 rfl ?_))))))
 obtain ⟨x3,hx3,H⟩:=an H
 refine Cl [] (aX 2140 rfl _ hx3) aY rfl p1 rfl (R 1 rfl (N (R 2 rfl (NQ (Wd rfl H (fun H=>?_) (fun H=>?_))))))
 ·refine G (R 2 rfl (Ef 0 rfl (R 2 rfl (NQ (Wt (QT.r ?_))))))
  cases H
  exact Ends.autoC tk rfl rfl rfl tv
 refine Wk (Qn (Ws (G (R 2 rfl ?_))))
 obtain ⟨x5,hx5,H⟩:=an H
 refine Cl [] (u0 _ hx5) u4 rfl tv rfl (R 1 rfl (NQ (Wd rfl H (fun H=>?_) (fun H=>?_))))
 ·refine G (R 1 rfl (Ef 0 rfl (R 2 rfl (NQ (Wt (QT.r ?_))))))
  cases H
  exact Ends.autoC tk rfl rfl rfl tv
 refine Wk (Qn (G (R 2 rfl ?_)))
 obtain ⟨x7,hx7,H⟩:=an H
 refine Cl [] (gK _ hx7) gL rfl tv rfl (R 1 rfl (N (WL.allocZ 109 [.int .i64 0, .int .i64 0] rfl (by kernel_rfl) rfl rfl rfl rfl (NS (G (R 3 rfl (NQ (Wb (Wl (ι:= {x:Nat×(Int×(List Int)×ByteArray×Int×Int) //eV a0 x2 x7 x.1 x.2=some r}) (fun x=>[(0, .d (.str a0)),(2, .ptr 102 0),(5, .ptr 2140 0),(6, .ptr 106 0),(8, .d (.str x7)),(9, .ptr 109 0),(33, .d (.int .i64 (x7.size:Int))),(34, .d (.int .i64 x.1.2.1))]) (fun x=>[(102, .box 100 [.d (.int .i64 0), .d (.int .i64 0), .d (.int .i64 0)]),(106, .box 100 [.d (.int .i64 x2.1), .d (.int .i64 0), .d (.int .i64 0)]),(109, .box 161 [.d (.int .i64 (x.1.2.2.1.getD 0 default)), .d (.int .i64 (x.1.2.2.1.getD 1 default))]),(2140, .box 131 [.d (.str x.1.2.2.2.1), .d (.int .i64 x.1.2.2.2.2.1), .d (.int .i64 x.1.2.2.2.2.2)])]) (fun x=>x.1.1) ⟨(fuel,(0,([0,0]:List Int),x2.2.s,x2.2.at_,x2.2.err)),H⟩ (Lm p8 p4) fun x=>?_)))))))))
 obtain ⟨⟨k9,s8⟩,H⟩:=x
 rcases k9 with _ | k9
 ·exact aO H
 rw [eV] at H
 refine G (R 1 rfl (NS (Wd rfl H (fun H=>?_) (fun H=>?_))))
 ·refine Wk (Qn (Ws (Wb (G (R 2 rfl (NS (G ?_)))))))
  obtain ⟨g11,H⟩:=ay H
  refine RS 4 rfl ⟨(al g11),tv⟩ (NQ (Wd rfl H (fun H=>?_) (fun H=>?_)))
  ·refine Wg (R 2 rfl ?_)
   obtain ⟨x13,hx13,H⟩:=an H
   refine Cl [] (iw 2140 rfl _ hx13) iy rfl p1 rfl ?_
   obtain ⟨g14,H⟩:=ay H
   refine WL.yv (LJ.Y.idxPtrA 2 s8.1 (by kernel_rfl) rfl rfl rfl (al g14)) rfl rfl rfl (WL.wo (WO.storePtrA 2 0 (fun x:Int=>DV.int .i64 x) s8.2.1 x13.1 s8.1 (cs':=[.d (.int .i64 ((aset 2 s8.2.1 s8.1.toNat x13.1).getD 0 default)), .d (.int .i64 ((aset 2 s8.2.1 s8.1.toNat x13.1).getD 1 default))]) rfl rfl rfl rfl rfl (by kernel_rfl) rfl rfl (al g14) rfl rfl rfl) rfl (N (R 1 rfl ?_)))
   obtain ⟨x15,hx15,H⟩:=an H
   refine Cl [] (aX 2140 rfl _ hx15) aY rfl p1 rfl (R 1 rfl (N (R 2 rfl (NQ (Wd rfl H (fun H=>?_) (fun H=>?_))))))
   ·refine G (R 2 rfl (Ef 0 rfl (R 2 rfl (NQ (Wt (QB.r (QT.r (QT.r (QB.r (QT.r ?_))))))))))
    cases H
    exact Ends.autoC tk rfl rfl rfl tv
   refine Wk (Qb (Qn ?_))
   exact Wg (R 2 rfl (NQ (⟨⟨(k9,(IntKind.i64.wrap (s8.1+1),(aset 2 s8.2.1 s8.1.toNat x13.1),x13.2.s,x13.2.at_,x13.2.err)),H⟩,Z,Lm p8 p4⟩)))
  refine Wg (R 2 rfl ?_)
  obtain ⟨x17,hx17,H⟩:=an H
  refine Cl [] (ct 2140 rfl _ hx17) cu rfl p1 rfl (WL.yv (LJ.Y.min rfl rfl rfl) rfl rfl rfl (R 1 rfl ?_))
  obtain ⟨g18,H⟩:=ay H
  refine WL.yv (LJ.Y.idxPtrA 2 s8.1 (by kernel_rfl) rfl rfl rfl (al g18)) rfl rfl rfl (WL.wo (WO.storePtrA 2 0 (fun x:Int=>DV.int .i64 x) s8.2.1 (IntKind.i64.wrap (iMin x17.1 (2147483648:Int))) s8.1 (cs':=[.d (.int .i64 ((aset 2 s8.2.1 s8.1.toNat (IntKind.i64.wrap (iMin x17.1 (2147483648:Int)))).getD 0 default)), .d (.int .i64 ((aset 2 s8.2.1 s8.1.toNat (IntKind.i64.wrap (iMin x17.1 (2147483648:Int)))).getD 1 default))]) rfl rfl rfl rfl rfl (by kernel_rfl) rfl rfl (al g18) rfl rfl rfl) rfl (N (R 1 rfl ?_)))
  obtain ⟨x19,hx19,H⟩:=an H
  refine Cl [] (aX 2140 rfl _ hx19) aY rfl p1 rfl (R 1 rfl (N (R 2 rfl (NQ (Wd rfl H (fun H=>?_) (fun H=>?_))))))
  ·refine G (R 2 rfl (Ef 0 rfl (R 2 rfl (NQ (Wt (QB.r (QT.r (QT.r (QB.r (QT.r ?_))))))))))
   cases H
   exact Ends.autoC tk rfl rfl rfl tv
  refine Wk (Qb (Qn ?_))
  exact Wg (R 2 rfl (NQ (⟨⟨(k9,(IntKind.i64.wrap (s8.1+1),(aset 2 s8.2.1 s8.1.toNat (IntKind.i64.wrap (iMin x17.1 (2147483648:Int)))),x17.2.s,x17.2.at_,x17.2.err)),H⟩,Z,Lm p8 p4⟩)))
 refine WC.exit (Qx (Qx (Qh (Qn ?_))))
 refine Ws (Hp (.one 0 true (.one 1 true (.one 2 true (.one 3 true (.one 4 true (.one 5 false (.one 6 true (.one 7 false .done)))))))) [102,106,109,2140] [102,109,2140] rfl (by kernel_rfl) rfl (by kernel_rfl) rfl rfl (fun _ h=>h) rfl rfl rfl (fun _ _ _ h=>h) fun FK NK wK K=>?_)
 obtain ⟨g21,H⟩:=ay H
 refine WH.yv rfl (LJ.Y.idxPtrA 2 (0:Int) (by kernel_rfl) rfl rfl rfl (al g21)) rfl rfl rfl (WH.yv rfl (LJ.Y.loadPtrA 2 0 (fun k=> .int .i64 (s8.2.1.getD k default)) (0:Int) rfl rfl rfl (by kernel_rfl) rfl (al g21)) rfl rfl rfl ?_)
 obtain ⟨g22,H⟩:=ay H
 refine WH.yv rfl (LJ.Y.idxPtrA 2 (1:Int) (by kernel_rfl) rfl rfl rfl (al g22)) rfl rfl rfl (WH.yv rfl (LJ.Y.loadPtrA 2 0 (fun k=> .int .i64 (s8.2.1.getD k default)) (1:Int) rfl rfl rfl (by kernel_rfl) rfl (al g22)) rfl rfl rfl (Hr 1 tk rfl rfl rfl rfl tv (He 0 tk ek rfl rfl rfl rfl tv rfl rfl (Hr 1 tk rfl rfl rfl rfl tv (He 0 tk ek rfl rfl rfl rfl tv rfl rfl (WH.nil rfl (Qn (Ws (G (R 1 rfl ?_))))))))))
 obtain ⟨x23,hx23,H⟩:=an H
 refine Cl [] (mz _ hx23) mA rfl tv rfl (R 1 rfl (N (R 2 rfl (NQ (Wd rfl H (fun H=>?_) (fun H=>?_))))))
 ·refine G (R 2 rfl (Ef 0 rfl (R 2 rfl (NQ (Wt (QT.r ?_))))))
  cases H
  exact Ends.autoC tk rfl rfl rfl tv
 refine Wk (Qn (Ws (Hp (.one 0 true (.one 1 true (.one 2 true (.one 3 true (.one 4 false (.one 5 true (.one 6 false (.one 7 true (.one 8 true .done))))))))) [102,106,109,2140] [106,109] rfl (by kernel_rfl) rfl (by kernel_rfl) rfl rfl (fun _ h=>h) rfl rfl rfl (fun _ _ _ h=>h) fun FK NK wK K=>(Hr 4 tk rfl rfl rfl rfl tv ?_))))
 obtain ⟨x25,hx25,H⟩:=an H
 refine WH.call [] rfl (c9 2140 rfl _ hx25) da rfl rfl p1 rfl rfl rfl rfl rfl (Hr 1 tk rfl rfl rfl rfl tv (He 0 tk ek rfl rfl rfl rfl tv rfl rfl (Hr 2 tk rfl rfl rfl rfl tv (WH.nil rfl (Qn (Wt ?_))))))
 cases H
 exact Ends.autoC tk rfl rfl rfl tv
theorem Bc:aF Tryz.prog 143 Tryz.f143:=⟨Tryz.func143,rfl,by kernel_rfl⟩
theorem gV (a0:ax) {z:Int ⊕ (aq×ax)} (H:bZ a0=some z):LJ.ml Tryz.prog 121 [.ptr 0 0] [(0, .box 173 [.d (.str a0.s)])] (fun e=> .iface 169 (.agg #[.int .i64 e])) (fun (r:aq×ax)=>(.d (.agg [.int .i64 r.1.Args, .int .i64 r.1.Locals,slT aE r.1.Code]),[(0, .box 173 [.d (.str r.2.s)])])) z:=by
 refine LJ.ml.code Tryz.func121 rfl 37 rfl rfl [0] rfl fun w0 F0 S0 B0=>?_
 unfold bZ at H
 refine G (Wa 102 tk rfl rfl rfl (N (R 1 rfl ?_)))
 rcases fR H with ⟨e,hx1,rfl⟩ | ⟨x1r,hx1,H⟩
 ·exact WL.callP (ie _ hx1) dz rfl rfl p1 rfl rfl ⟨_,rfl,rfl⟩
 refine Cl [] (ig 0 rfl _ hx1) dz rfl p1 rfl (R 1 rfl ?_)
 rcases fR H with ⟨e,hx2,rfl⟩ | ⟨x2r,hx2,H⟩
 ·exact WL.callP (ie _ hx2) dz rfl rfl p1 rfl rfl ⟨_,rfl,rfl⟩
 refine Cl [] (ig 0 rfl _ hx2) dz rfl p1 rfl (R 1 rfl (Wa 103 tk rfl rfl rfl (Ef 0 rfl (NS (G (R 1 rfl ?_))))))
 rcases fR H with ⟨e,hx3,rfl⟩ | ⟨x3r,hx3,H⟩
 ·exact WL.callP (gO _ _ hx3) dh rfl rfl p1 rfl rfl ⟨_,rfl,rfl⟩
 refine Cl [] (gQ 0 rfl _ _ hx3) dh rfl p1 rfl (R 1 rfl (NQ (Wb (WC.nilF 103 2 1030 100 3 rfl (Wl (ι:= {x:Nat×(Int×ByteArray×(List ar)) //bN x1r x2r x3r x.1 x.2=some z}) (fun x=>[(0, .ptr 0 0),(2, .ptr 102 0),(3, .ptr 103 0),(13, .d (.int .i64 x3r.1)),(14, .d (.int .i64 x.1.2.1))]) (fun x=>[(0, .box 173 [.d (.str x.1.2.2.1)]),(102, .box 98 [.d (.int .i64 0), .d (.int .i64 0), .d (.nils)]),(103, .box 98 [.d (.int .i64 x1r.1), .d (.int .i64 x2r.1), .own 1030]),(1030, .row 100 3 (x.1.2.2.2.map aE))]) (fun x=>x.1.1) ⟨(fuel,(0,x3r.2.s,([]:List ar))),H⟩ (Lm p5 p4) fun x=>?_)))))
 obtain ⟨⟨k6,s5⟩,H⟩:=x
 rcases k6 with _ | k6
 ·exact aO H
 rw [bN] at H
 refine G (R 1 rfl (NS (Wd rfl H (fun H=>?_) (fun H=>?_))))
 ·refine Wk (Qn (Ws (Wb (G (R 4 rfl ?_)))))
  obtain ⟨x8,hx8,H⟩:=an H
  refine Cl [] (Bb _ hx8) Bc rfl tv rfl (R 4 rfl (Wa 104 tk rfl rfl rfl (Ef 0 rfl (R 2 rfl (N (R 3 rfl ?_))))))
  rcases fR H with ⟨e,hx9,rfl⟩ | ⟨x9r,hx9,H⟩
  ·exact WL.callP (df _ _ _ hx9) bx rfl rfl p1 rfl rfl ⟨_,rfl,rfl⟩
  refine Cl [] (dg 0 rfl _ _ _ hx9) bx rfl p1 rfl (NQ (Wg (R 3 rfl (Ef 132 rfl (WL.freezeT 132 aE ([x8.1]:List ar) rfl rfl rfl rfl ?_)))))
  obtain ⟨g10,H⟩:=ay H
  refine WL.appT aE s5.2.2 ([x8.1]:List ar) tk ek rfl rfl (fun _=>rfl) (fun _=>rfl) rfl rfl rfl rfl (bQ g10) rfl rfl rfl rfl rfl ?_
  refine R 1 rfl (Ef 0 rfl (Wn (Qb (Qn ?_))))
  exact Wg (R 2 rfl (NQ (⟨⟨(k6,(IntKind.i64.wrap (s5.1+1),x9r.s,s5.2.2++([x8.1]:List ar))),H⟩,Z,Lm p5 p4⟩)))
 refine WC.exit (Qx (Qx (Qh (Qn ?_))))
 refine G (WL.freezeT 1030 aE s5.2.2 rfl rfl rfl rfl (R 1 rfl (Ef 0 rfl (NQ (Wt ?_)))))
 cases H
 refine ⟨_,rfl,?_⟩
 exact Ends.autoC tk rfl rfl rfl p1
theorem kW (a0:ax) {r:aq×ax} (H:bZ a0=some (.inr r)):LJ.Spec Tryz.prog 121 [.ptr 0 0] [(0, .box 173 [.d (.str a0.s)])] (.d (.agg [.int .i64 r.1.Args, .int .i64 r.1.Locals,slT aE r.1.Code])) [(0, .box 173 [.d (.str r.2.s)])]:=gV a0 H
theorem gX (a0:ax) {e:Int} (H:bZ a0=some (.inl e)):LJ.l9 Tryz.prog 121 [.ptr 0 0] [(0, .box 173 [.d (.str a0.s)])] (.iface 169 (.agg #[.int .i64 e])):=gV a0 H
theorem gY (n0:Nat) (hn:cJ [n0]=true) (a0:ax) {r:aq×ax} (H:bZ a0=some (.inr r)):LJ.Spec Tryz.prog 121 [.ptr n0 0] [(n0, .box 173 [.d (.str a0.s)])] (.d (.agg [.int .i64 r.1.Args, .int .i64 r.1.Locals,slT aE r.1.Code])) [(n0, .box 173 [.d (.str r.2.s)])]:=
 Spec.names [n0] hn rfl rfl (kW a0 H)
theorem dG:aF Tryz.prog 121 Tryz.f121:=⟨Tryz.func121,rfl,by kernel_rfl⟩
theorem iR (a0:ax) {z:Int ⊕ (ah×ax)} (H:ca a0=some z):LJ.ml Tryz.prog 95 [.ptr 0 0] [(0, .box 173 [.d (.str a0.s)])] (fun e=> .iface 169 (.agg #[.int .i64 e])) (fun (r:ah×ax)=>(.d (.agg [slT ai r.1.Decls,slT aa r.1.Waits,slT ak r.1.Funcs]),[(0, .box 173 [.d (.str r.2.s)])])) z:=by
 refine LJ.ml.code Tryz.func95 rfl 71 rfl rfl [0] rfl fun w0 F0 S0 B0=>?_
 unfold ca at H
 refine G (Wa 102 tk rfl rfl rfl (N (R 4 rfl ?_)))
 obtain ⟨x1,hx1,H⟩:=an H
 refine Cl [] (y5 _ hx1) y6 rfl tv rfl (R 7 rfl (N (R 3 rfl ?_)))
 rcases fR H with ⟨e,hx2,rfl⟩ | ⟨x2r,hx2,H⟩
 ·exact WL.callP (df _ _ _ hx2) bx rfl rfl p1 rfl rfl ⟨_,rfl,rfl⟩
 refine Cl [] (dg 0 rfl _ _ _ hx2) bx rfl p1 rfl (N (R 2 rfl (Wa 106 tk rfl rfl rfl (Ef 0 rfl (NS (G (R 1 rfl ?_)))))))
 rcases fR H with ⟨e,hx3,rfl⟩ | ⟨x3r,hx3,H⟩
 ·exact WL.callP (gO _ _ hx3) dh rfl rfl p1 rfl rfl ⟨_,rfl,rfl⟩
 refine Cl [] (gQ 0 rfl _ _ hx3) dh rfl p1 rfl (R 1 rfl (NQ (Wb (WC.nilF 106 1 1045 94 1 rfl (Wl (ι:= {x:Nat×(Int×ByteArray×(List (List (List af)))) //b8 x1 x3r x.1 x.2=some z}) (fun x=>[(0, .ptr 0 0),(2, .ptr 102 0),(6, .ptr 106 0),(26, .d (.int .i64 x3r.1)),(27, .d (.int .i64 x.1.2.1))]) (fun x=>[(0, .box 173 [.d (.str x.1.2.2.1)]),(102, .box 28 [.d (.nils), .d (.nils), .d (.nils)]),(106, .box 28 [.d (slT ai x1.1), .own 1045, .d (.nils)]),(1045, .row 94 1 (x.1.2.2.2.map aa))]) (fun x=>x.1.1) ⟨(fuel,(0,x3r.2.s,([]:List (List (List af))))),H⟩ (Lm p5 p4) fun x=>?_)))))
 obtain ⟨⟨k6,s5⟩,H⟩:=x
 rcases k6 with _ | k6
 ·exact aO H
 rw [b8] at H
 refine G (R 1 rfl (NS (Wd rfl H (fun H=>?_) (fun H=>?_))))
 ·refine Wk (Qn (Ws (Wb (Ws ?_))))
  obtain ⟨x6_6_1,hx6_6_1,H⟩:=an H
  refine WC.heldF [(0, .ptr 0 0),(2, .ptr 102 0),(6, .ptr 106 0),(7, .d (slT aG x6_6_1.1)),(8, .d (.int .i64 x6_6_1.2.1)),(9, .d (.int .i64 x6_6_1.2.2)),(26, .d (.int .i64 x3r.1)),(27, .d (.int .i64 s5.1))] [(0, .box 173 [.d (.str s5.2.1)]),(102, .box 28 [.d (.nils), .d (.nils), .d (.nils)]),(106, .box 28 [.d (slT ai x1.1), .own 1045, .d (.nils)]),(1045, .row 94 1 (s5.2.2.map aa))] (sT 0 (sT 1 (sT 2 (sT 3 (sT 4 (sT 5 (sf 6 (sT 7 (fk (sf 8 (sT 11 (fk (sf 9 (sT 12 (sf 10 (sT 13 sd)))) (sf 10 (sf 9 (sT 12 (sT 13 sd))))))) (fk (sf 9 (fk (sf 8 (sT 11 (sT 12 (sf 10 (sT 13 sd))))) (sf 10 (sf 8 (sT 11 (sT 12 (sT 13 sd))))))) (sf 10 (fk (sf 8 (sT 11 (sf 9 (sT 12 (sT 13 sd))))) (sf 9 (sf 8 (sT 11 (sT 12 (sT 13 sd))))))))))))))))) [0,102,106] [0,102,106] rfl (by kernel_rfl) rfl (by kernel_rfl) rfl rfl (fun _ h=>h) rfl rfl rfl (fun FK NK wK K=>?_) ?_
  ·refine Hr 6 tk rfl rfl rfl rfl tv (WH.call [] rfl (y7 _ _ hx6_6_1) y8 rfl rfl tv rfl rfl rfl rfl rfl (WH.mv rfl rfl rfl rfl rfl rfl rfl rfl rfl (WH.fork ?_ (WH.fork ?_ ?_))))
   ·refine WH.val tk rfl rfl rfl rfl rfl tv rfl rfl (WH.mv rfl rfl rfl rfl rfl rfl rfl rfl rfl (WH.fork ?_ ?_))
    ·exact WH.val tk rfl rfl rfl rfl rfl tv rfl rfl (Hr 1 tk rfl rfl rfl rfl tv (WH.val tk rfl rfl rfl rfl rfl tv rfl rfl (Hr 1 tk rfl rfl rfl rfl tv (Hn rfl (Lw q8 p4)))))
    ·exact WH.val tk rfl rfl rfl rfl rfl tv rfl rfl (WH.val tk rfl rfl rfl rfl rfl tv rfl rfl (Hr 2 tk rfl rfl rfl rfl tv (Hn rfl (Lw q8 p4))))
   ·refine WH.val tk rfl rfl rfl rfl rfl tv rfl rfl (WH.fork ?_ ?_)
    ·exact WH.val tk rfl rfl rfl rfl rfl tv rfl rfl (WH.mv rfl rfl rfl rfl rfl rfl rfl rfl rfl (Hr 1 tk rfl rfl rfl rfl tv (WH.val tk rfl rfl rfl rfl rfl tv rfl rfl (Hr 1 tk rfl rfl rfl rfl tv (Hn rfl (Lw q8 p4))))))
    ·exact WH.val tk rfl rfl rfl rfl rfl tv rfl rfl (WH.val tk rfl rfl rfl rfl rfl tv rfl rfl (WH.mv rfl rfl rfl rfl rfl rfl rfl rfl rfl (Hr 2 tk rfl rfl rfl rfl tv (Hn rfl (Lw q8 p4)))))
   ·refine WH.val tk rfl rfl rfl rfl rfl tv rfl rfl (WH.fork ?_ ?_)
    ·exact WH.val tk rfl rfl rfl rfl rfl tv rfl rfl (WH.mv rfl rfl rfl rfl rfl rfl rfl rfl rfl (WH.val tk rfl rfl rfl rfl rfl tv rfl rfl (Hr 2 tk rfl rfl rfl rfl tv (Hn rfl (Lw q8 p4)))))
    ·exact WH.val tk rfl rfl rfl rfl rfl tv rfl rfl (WH.val tk rfl rfl rfl rfl rfl tv rfl rfl (WH.mv rfl rfl rfl rfl rfl rfl rfl rfl rfl (Hr 2 tk rfl rfl rfl rfl tv (Hn rfl (Lw q8 p4)))))
  ·refine Qn (G (R 3 rfl ?_))
   rcases fR H with ⟨e,hx8,rfl⟩ | ⟨x8r,hx8,H⟩
   ·exact WL.callP (df _ _ _ hx8) bx rfl rfl p1 rfl rfl ⟨_,rfl,rfl⟩
   refine Cl [] (dg 0 rfl _ _ _ hx8) bx rfl p1 rfl (NQ (Wg (R 3 rfl (Ef 147 rfl (WL.freezeT 147 aa ([x6_6_1.1]:List (List (List af))) rfl rfl rfl rfl ?_)))))
   obtain ⟨g9,H⟩:=ay H
   refine WL.appT aa s5.2.2 ([x6_6_1.1]:List (List (List af))) tk ek rfl rfl (fun _=>rfl) (fun _=>rfl) rfl rfl rfl rfl (bQ g9) rfl rfl rfl rfl rfl ?_
   refine R 1 rfl (Ef 0 rfl (Wn (Qb (Qn ?_))))
   exact Wg (R 2 rfl (NQ (⟨⟨(k6,(IntKind.i64.wrap (s5.1+1),x8r.s,s5.2.2++([x6_6_1.1]:List (List (List af))))),H⟩,Z,Lm p5 p4⟩)))
 refine WC.exit (Qx (Qx (Qh (Qn ?_))))
 refine Ws (G (R 1 rfl ?_))
 rcases fR H with ⟨e,hx10,rfl⟩ | ⟨x10r,hx10,H⟩
 ·exact WL.callP (gO _ _ hx10) dh rfl rfl p1 rfl rfl ⟨_,rfl,rfl⟩
 refine Cl [] (gQ 0 rfl _ _ hx10) dh rfl p1 rfl (R 1 rfl (NQ (Wb (WC.nilF 106 2 1056 98 3 rfl (Wl (ι:= {x:Nat×(Int×ByteArray×(List aq)) //bO x1 s5 x10r x.1 x.2=some z}) (fun x=>[(0, .ptr 0 0),(2, .ptr 102 0),(6, .ptr 106 0),(52, .d (.int .i64 x10r.1)),(53, .d (.int .i64 x.1.2.1))]) (fun x=>[(0, .box 173 [.d (.str x.1.2.2.1)]),(102, .box 28 [.d (.nils), .d (.nils), .d (.nils)]),(106, .box 28 [.d (slT ai x1.1), .own 1045, .own 1056]),(1045, .row 94 1 (s5.2.2.map aa)),(1056, .row 98 3 (x.1.2.2.2.map ak))]) (fun x=>x.1.1) ⟨(fuel,(0,x10r.2.s,([]:List aq))),H⟩ (Lm p5 p5) fun x=>?_)))))
 obtain ⟨⟨k13,s12⟩,H⟩:=x
 rcases k13 with _ | k13
 ·exact aO H
 rw [bO] at H
 refine G (R 1 rfl (NS (Wd rfl H (fun H=>?_) (fun H=>?_))))
 ·refine Wk (Qn (Ws (Wb ?_)))
  rcases fR H with ⟨e,hx12_3_1,rfl⟩ | ⟨x12_3_1r,hx12_3_1,H⟩
  ·refine Hp (.one 0 true (.one 2 true (.fork (.one 1 false (.one 3 false (.one 4 false (.one 5 false (.one 6 true (.one 7 false .done)))))) (.one 3 false (.fork (.one 1 false (.one 4 false (.one 5 false (.one 6 true (.one 7 false .done))))) (.one 4 false (.one 1 false (.one 5 false (.one 6 true (.one 7 false .done)))))))))) [0,102,106] [102] rfl (by kernel_rfl) rfl (by kernel_rfl) rfl rfl (fun _ h=>h) rfl rfl rfl (fun _ _ _ h=>h) fun FK NK wK K=>(Hr 2 tk rfl rfl rfl rfl tv (WH.fork ?_ ?_))
   ·exact WH.val tk rfl rfl rfl rfl rfl tv rfl rfl (WH.callP rfl (gX _ hx12_3_1) dG rfl rfl p1 rfl rfl rfl ⟨_,rfl,rfl⟩)
   ·exact WH.callP rfl (gX _ hx12_3_1) dG rfl rfl p1 rfl rfl rfl ⟨_,rfl,rfl⟩
  obtain ⟨g12_5_1,H⟩:=ay H
  refine WC.heldF [(0, .ptr 0 0),(2, .ptr 102 0),(6, .ptr 106 0),(52, .d (.int .i64 x10r.1)),(53, .d (.int .i64 s12.1))] [(0, .box 173 [.d (.str x12_3_1r.2.s)]),(102, .box 28 [.d (.nils), .d (.nils), .d (.nils)]),(106, .box 28 [.d (slT ai x1.1), .own 1045, .own 1056]),(1045, .row 94 1 (s5.2.2.map aa)),(1056, .row 98 3 ((s12.2.2++([x12_3_1r.1]:List aq)).map ak))] (sT 0 (sT 2 (fk (sf 1 (sf 3 (sf 4 (sf 5 (sT 6 (sf 7 sd)))))) (sf 3 (fk (sf 1 (sf 4 (sf 5 (sT 6 (sf 7 sd))))) (sf 4 (sf 1 (sf 5 (sT 6 (sf 7 sd)))))))))) [0,102,106] [102] rfl (by kernel_rfl) rfl (by kernel_rfl) rfl rfl (fun _ h=>h) rfl rfl rfl (fun FK NK wK K=>?_) ?_
  ·refine Hr 2 tk rfl rfl rfl rfl tv (WH.fork ?_ ?_)
   ·refine WH.val tk rfl rfl rfl rfl rfl tv rfl rfl (WH.call [] rfl (gY 0 rfl _ hx12_3_1) dG rfl rfl p1 rfl rfl rfl rfl rfl (He 159 tk ek rfl rfl rfl rfl tv rfl rfl (WH.freezeT 159 ak ([x12_3_1r.1]:List aq) rfl rfl rfl rfl (WH.appT ak s12.2.2 ([x12_3_1r.1]:List aq) tk ek rfl rfl (fun _=>rfl) (fun _=>rfl) rfl rfl rfl rfl rfl (bQ g12_5_1) rfl rfl rfl rfl rfl rfl rfl ?_))))
    exact Hr 1 tk rfl rfl rfl rfl tv (He 0 tk ek rfl rfl rfl rfl tv rfl rfl (Hn rfl (Lw q5 p5)))
   ·refine WH.call [] rfl (gY 0 rfl _ hx12_3_1) dG rfl rfl p1 rfl rfl rfl rfl rfl (WH.fork ?_ ?_)
    ·refine WH.val tk rfl rfl rfl rfl rfl tv rfl rfl (He 159 tk ek rfl rfl rfl rfl tv rfl rfl (WH.freezeT 159 ak ([x12_3_1r.1]:List aq) rfl rfl rfl rfl (WH.appT ak s12.2.2 ([x12_3_1r.1]:List aq) tk ek rfl rfl (fun _=>rfl) (fun _=>rfl) rfl rfl rfl rfl rfl (bQ g12_5_1) rfl rfl rfl rfl rfl rfl rfl ?_)))
     exact Hr 1 tk rfl rfl rfl rfl tv (He 0 tk ek rfl rfl rfl rfl tv rfl rfl (Hn rfl (Lw q5 p5)))
    ·refine He 159 tk ek rfl rfl rfl rfl tv rfl rfl (WH.freezeT 159 ak ([x12_3_1r.1]:List aq) rfl rfl rfl rfl (WH.val tk rfl rfl rfl rfl rfl tv rfl rfl (WH.appT ak s12.2.2 ([x12_3_1r.1]:List aq) tk ek rfl rfl (fun _=>rfl) (fun _=>rfl) rfl rfl rfl rfl rfl (bQ g12_5_1) rfl rfl rfl rfl rfl rfl rfl ?_)))
     exact Hr 1 tk rfl rfl rfl rfl tv (He 0 tk ek rfl rfl rfl rfl tv rfl rfl (Hn rfl (Lw q5 p5)))
  ·refine Qb (Qn ?_)
   exact Wg (R 2 rfl (NQ (⟨⟨(k13,(IntKind.i64.wrap (s12.1+1),x12_3_1r.2.s,s12.2.2++([x12_3_1r.1]:List aq))),H⟩,Z,Lm p5 p5⟩)))
 refine WC.exit (Qx (Qx (Qh (Qn ?_))))
 refine Ws (G (R 5 rfl (NQ (Wd rfl H (fun H=>?_) (fun H=>?_)))))
 ·refine Wg (R 1 rfl ?_)
  cases H
  exact WL.panicI rfl rfl rfl rfl rfl rfl rfl (by kernel_rfl) ⟨_,rfl,rfl⟩
 refine Wk (Qn (G (WL.freezeT 1045 aa s5.2.2 rfl rfl rfl rfl (WL.freezeT 1056 ak s12.2.2 rfl rfl rfl rfl (R 1 rfl (Ef 0 rfl (NQ (Wt ?_))))))))
 cases H
 refine ⟨_,rfl,?_⟩
 exact Ends.autoC tk rfl rfl rfl p1
theorem lI (a0:ax) {r:ah×ax} (H:ca a0=some (.inr r)):LJ.Spec Tryz.prog 95 [.ptr 0 0] [(0, .box 173 [.d (.str a0.s)])] (.d (.agg [slT ai r.1.Decls,slT aa r.1.Waits,slT ak r.1.Funcs])) [(0, .box 173 [.d (.str r.2.s)])]:=iR a0 H
theorem lJ (a0:ax) {e:Int} (H:ca a0=some (.inl e)):LJ.l9 Tryz.prog 95 [.ptr 0 0] [(0, .box 173 [.d (.str a0.s)])] (.iface 169 (.agg #[.int .i64 e])):=iR a0 H
theorem lK (n0:Nat) (hn:cJ [n0]=true) (a0:ax) {r:ah×ax} (H:ca a0=some (.inr r)):LJ.Spec Tryz.prog 95 [.ptr n0 0] [(n0, .box 173 [.d (.str a0.s)])] (.d (.agg [slT ai r.1.Decls,slT aa r.1.Waits,slT ak r.1.Funcs])) [(n0, .box 173 [.d (.str r.2.s)])]:=
 Spec.names [n0] hn rfl rfl (lI a0 H)
theorem iT:aF Tryz.prog 95 Tryz.f95:=⟨Tryz.func95,rfl,by kernel_rfl⟩
theorem y9 (a0:ByteArray) {z:Int ⊕ (ah×Int)} (H:lU a0=some z) (w0:World) (F0 S0:Nat→Prop) (B0:ba) (ds:List Deferred):WC {w0:=w0,F0:=F0,S0:=S0,ntmps:=25,P0:=[1,2],B0:=B0,dfs:=ds} Tryz.prog (CY Tryz.f64) (DJ Tryz.prog Tryz.f64 169 28 34 [.nils, .nils, .nils] (fun (r:ah×Int)=> .tup [.d (.agg [slT ai r.1.Decls,slT aa r.1.Waits,slT ak r.1.Funcs]), .d (.int .i64 r.2)]) z) [(3, .ptr 2 0),(2, .ptr 1 0),(0, .d (.str a0))] [(2, .box 34 [.d (.int .i64 0)]),(1, .box 28 [.d (.nils), .d (.nils), .d (.nils)])]:=by
 unfold lU at H
 refine Ws (G (R 1 rfl ?_))
 obtain ⟨x1,hx1,H⟩:=an H
 refine Cl [] (mD _ _ hx1) mE rfl tv rfl (R 1 rfl (NQ (Wd rfl H (fun H=>?_) (fun H=>?_))))
 ·refine G (R 1 rfl (Ef 0 rfl (Ef 0 rfl (NQ (WC.nilF 1 0 5010 93 3 rfl (WC.row 5010 (([]:List ab).map ai) rfl rfl rfl (WC.nilF 1 1 5011 94 1 rfl (WC.row 5011 (([]:List (List (List af))).map aa) rfl rfl rfl (WC.nilF 1 2 5012 98 3 rfl (WC.row 5012 (([]:List aq).map ak) rfl rfl rfl (WC.freezeT 5010 ai ([]:List ab) rfl rfl rfl rfl (WC.freezeT 5011 aa ([]:List (List (List af))) rfl rfl rfl rfl (WC.freezeT 5012 ak ([]:List aq) rfl rfl rfl rfl (Wt (QT.r ?_)))))))))))))))
  cases H
  refine ⟨_,rfl,?_⟩
  exact Ends.autoC tk rfl rfl rfl tv
 refine Wk (Qn (G ?_))
 obtain ⟨g3,H⟩:=ay H
 refine RS 3 rfl ⟨(qh g3),tv⟩ (Ef 0 rfl (R 1 rfl (N (R 1 rfl ?_))))
 rcases fR H with ⟨e,hx4,rfl⟩ | ⟨x4r,hx4,H⟩
 ·exact WL.callPK [(2, .ptr 1 0),(3, .ptr 2 0)] [(1, .box 28 [.d (.nils), .d (.nils), .d (.nils)]),(2, .box 34 [.d (.int .i64 0)])] (lJ _ hx4) iT rfl rfl p1 rfl ⟨rfl,⟨_,_,rfl⟩,rfl,⟨_,_,rfl⟩,tv⟩ p2 rfl rfl ⟨_,rfl,rfl,rfl,rfl,rfl,rfl⟩
 refine Cl [] (lK 0 rfl _ hx4) iT rfl p1 rfl (Wa 105 tk rfl rfl rfl (Ef 0 rfl (NS (G (R 1 rfl ?_)))))
 obtain ⟨x5,hx5,H⟩:=an H
 refine Cl [] (lG _ hx5) lH rfl tv rfl (R 1 rfl (N (R 2 rfl (NQ (Wd rfl H (fun H=>?_) (fun H=>?_))))))
 ·refine G (R 2 rfl (Ef 0 rfl (Ef 0 rfl (NQ (WC.nilF 1 0 5010 93 3 rfl (WC.row 5010 (([]:List ab).map ai) rfl rfl rfl (WC.nilF 1 1 5011 94 1 rfl (WC.row 5011 (([]:List (List (List af))).map aa) rfl rfl rfl (WC.nilF 1 2 5012 98 3 rfl (WC.row 5012 (([]:List aq).map ak) rfl rfl rfl (WC.freezeT 5010 ai ([]:List ab) rfl rfl rfl rfl (WC.freezeT 5011 aa ([]:List (List (List af))) rfl rfl rfl rfl (WC.freezeT 5012 ak ([]:List aq) rfl rfl rfl rfl (Wt (QT.r ?_)))))))))))))))
  cases H
  refine ⟨_,rfl,?_⟩
  exact Ends.autoC tk rfl rfl rfl tv
 refine Wk (Qn (G (R 1 rfl (Ef 0 rfl (Ef 0 rfl (NQ (Wt ?_)))))))
 cases H
 refine ⟨_,rfl,?_⟩
 exact Ends.autoC tk rfl rfl rfl tv
theorem za:aF Tryz.prog 64 Tryz.f64:=⟨Tryz.func64,rfl,by kernel_rfl⟩
theorem B4 (w0:World) (F0 S0:Nat→Prop) (B0:ba) (e:Int):WC {w0:=w0,F0:=F0,S0:=S0,ntmps:=19,P0:=[1,2],B0:=B0} Tryz.prog (xq Tryz.f93) (fun x E m=>x= .normal∧m.get 1=some (.box 28 [.d .nils, .d .nils, .d .nils])∧m.get 2=some (.box 34 [.d (.int .i64 e)])) [(3, .ptr 3 0),(1, .ptr 2 0),(0, .ptr 1 0)] [(3, .box 169 [.d (.int .i64 e)]),(2, .box 34 [.d (.int .i64 0)]),(1, .box 28 [.d .nils, .d .nils, .d .nils])]:=by
 exact Hp (.one 0 true (.one 1 true (.one 2 true (.one 3 false (.one 4 false .done))))) [1,2,3] [3] rfl (by kernel_rfl) rfl (by kernel_rfl) rfl rfl (fun _ h=>h) rfl rfl rfl (fun _ _ _ h=>by cases h.1) fun FK NK wK K=>(Hr 3 tk rfl rfl rfl rfl tv (He 0 tk ek rfl rfl rfl rfl tv rfl rfl (He 0 tk ek rfl rfl rfl rfl tv rfl rfl (WH.nil rfl (⟨rfl,rfl,rfl⟩)))))
theorem B5:DK Tryz.prog 93:=fun p q w=>by
 refine callsD_of_wpS Tryz.func93 rfl fun c₀ cs hu=>?_
 apply wpS_seq
 apply wpS_region
 simp [wpOpsS,go_sem,recoverD,hu,Tryz.ntmps93,Exit.thenS]
 apply wpS_seq
 apply wpS_region
 simp [wpOpsS,go_sem,Exit.thenS]
 refine wpS_cond (t:=false) (by simp [Act.eval,Array.replicate]) ?_
 simp only [Bool.false_eq_true,if_false]
 refine wpS_of_wp (wp_skip ?_)
 cases c₀
 simp_all [bodyPostS,results,Tryz.results93]
theorem Bd:z1 Tryz.prog 93 169 28 34 #[.slice none 0 0, .slice none 0 0, .slice none 0 0]:=fun F bp bq e w hG hFin hFp hFq hne hp hq=>by
 refine callsD_of_wpS Tryz.func93 rfl fun c₀ cs hu=>?_
 apply wpS_seq
 apply wpS_region
 simp [wpOpsS,go_sem,recoverD,hu,Tryz.ntmps93,Exit.thenS]
 apply wpS_seq
 apply wpS_region
 simp [wpOpsS,go_sem,Exit.thenS]
 refine wpS_cond (t:=true) (by simp [Act.eval,Array.replicate]) ?_
 simp only [if_true]
 have hTA:∀ W,(Instr.typeAssert (Value.iface 169 (Value.agg #[Value.int .i64 e])) 20 169 true).run Tryz.prog W= .ok (.tuple #[.agg #[.int .i64 e], .bool true]) W:=fun W=>by kernel_rfl
 apply wpS_seq
 apply wpS_region
 simp [wpOpsS,go_sem,Exit.thenS,hTA]
 apply wpS_seq
 apply wpS_seq
 apply wpS_region
 simp [wpOpsS,go_sem,Exit.thenS]
 refine wpS_cond (t:=false) (by simp [Act.eval,Array.replicate]) ?_
 simp only [Bool.false_eq_true,if_false]
 refine wpS_of_wp (wp_skip ?_)
 simp only [Exit.thenS]
 refine wpS_of_wp ?_
 have hlt:∀ b,(w.heap[b]?).isSome=true→b<w.heap.size:=fun b hb=>by
  rcases Nat.lt_or_ge b w.heap.size with h | h
  ·exact h
  ·simp [Array.getElem?_eq_none h] at hb
 have lp:=hlt bp (by rw [hp];rfl)
 have lq:=hlt bq (by rw [hq];rfl)
 show Code.wp Tryz.prog (xq Tryz.f93) _ _ _
 refine z4 (T:=28) (T2:=34) (e:=e) (nt:=19) (pt:=169) (fun w0 F0 S0 B0=>B4 w0 F0 S0 B0 e) hG hFin hFp hFq hne hp hq lp lq ?_ ?_ ?_ ?_ ?_ ?_ ?_
 ·rfl
 ·simp
 ·rfl
 ·simp [Array.replicate]
 ·simp [Array.replicate]
 ·simp [Array.replicate]
 intro a' w' hd h1 h2 h3 h4 h5 h6 h7
 simp [bodyPostS,results,Tryz.results93,hd,h1,h2,h3,h4,h6,h7]
 exact h5
set_option maxRecDepth 100000 in
theorem zb (a0:ByteArray) {r:ah×Int} (H:nn a0=some r):LJ.Spec Tryz.prog 64 [.d (.str a0)] [] (.tup [.d (.agg [slT ai r.1.Decls,slT aa r.1.Waits,slT ak r.1.Funcs]), .d (.int .i64 r.2)]) []:=by
 unfold nn at H
 obtain ⟨z,hz,H⟩:=an H
 cases H
 exact Spec.recovers (zs:=[.nils, .nils, .nils]) (zv:=#[.slice none 0 0, .slice none 0 0, .slice none 0 0]) (o:=fun (r:ah×Int)=> .tup [.d (.agg [slT ai r.1.Decls,slT aa r.1.Waits,slT ak r.1.Funcs]), .d (.int .i64 r.2)]) (zf:=fun e=>((⟨[],[],[]⟩:ah),e)) Tryz.func64 rfl 25 rfl rfl rfl (fun w0 F0 S0 B0=>Wg (Wa 1 tk rfl rfl rfl (Wa 2 tk rfl rfl rfl (Wn ⟨rfl,rfl,rfl⟩)))) rfl rfl rfl rfl rfl rfl rfl rfl rfl (fun w0 F0 S0 B0 ds=>y9 a0 hz w0 F0 S0 B0 ds) (fun p q w=>by simp [go_sem]) B5 Bd (fun F N w n h=>h.box3) (fun e=>⟨_,_,rfl,m6 tk (ps:=[.d (.agg [.nils, .nils, .nils]), .d (.int .i64 e)]) rfl,fun F N w v h=>Rep.tup2 (Le.agg (.cons (Le.nilT _) (.cons (Le.nilT _) (.cons (Le.nilT _) .nil)))) h⟩) (fun F N w n h=>dH.mk3 h)
theorem rG (a0:ao) {r:av×Int×ao} (H:ei a0=some r):LJ.Spec Tryz.prog 66 [.ptr 0 0] [(0, .box 131 [.d (.str a0.s), .d (.int .i64 a0.at_), .d (.int .i64 a0.err)])] (.tup [.d (.agg [.int .i64 r.1.Kind, .int .i64 r.1.A, .int .i64 r.1.B]), .d (.int .i64 r.2.1)]) [(0, .box 131 [.d (.str r.2.2.s), .d (.int .i64 r.2.2.at_), .d (.int .i64 r.2.2.err)])]:=by
 refine LJ.Spec.code Tryz.func66 rfl 36 rfl rfl [0] rfl fun w0 F0 S0 B0=>?_
 unfold ei at H
 refine G (Wa 102 tk rfl rfl rfl (R 1 rfl (N (R 1 rfl ?_))))
 obtain ⟨x1,hx1,H⟩:=an H
 refine Cl [] (fr 0 rfl _ hx1) ft rfl p1 rfl (R 1 rfl (Wa 104 tk rfl rfl rfl (Ef 0 rfl (NS (G (R 1 rfl ?_))))))
 obtain ⟨x2,hx2,H⟩:=an H
 refine Cl [] (aX 0 rfl _ hx2) aY rfl p1 rfl (R 1 rfl (N (R 2 rfl (NQ (Wd rfl H (fun H=>?_) (fun H=>?_))))))
 ·refine G (R 2 rfl (Ef 0 rfl (R 1 rfl (NQ (Wt (QT.r ?_))))))
  cases H
  exact Ends.autoC tk rfl rfl rfl p1
 refine Wk (Qn (Ws (G (R 4 rfl (Wx 3 3 true tk sg0 rfl rfl (fun _=>tv) (RS 1 rfl ⟨by first | exact id | exact fun h=>by rw [h];rfl | simp_all,tv⟩ (NQ (Wd rfl H (fun H=>?_) (fun H=>?_)))))))))
 ·refine G (R 1 rfl (Ef 0 rfl (R 1 rfl (NQ (Wt (QT.r ?_))))))
  cases H
  exact Ends.autoC tk rfl rfl rfl p1
 refine Wk (Qn (G (R 1 rfl ?_)))
 obtain ⟨x5,hx5,H⟩:=an H
 refine Cl [] (iw 0 rfl _ hx5) iy rfl p1 rfl (R 1 rfl (Ef 0 rfl (NS (G (R 3 rfl (NQ (Wd rfl H (fun H=>?_) (fun H=>?_))))))))
 ·refine Wg (R 1 rfl ?_)
  obtain ⟨x7,hx7,H⟩:=an H
  refine Cl [] (iw 0 rfl _ hx7) iy rfl p1 rfl (R 1 rfl (Ef 0 rfl (NS (Hp (.one 0 true (.one 1 true (.one 2 false (.one 3 false (.one 4 true .done))))) [0,102,104] [104] rfl (by kernel_rfl) rfl (by kernel_rfl) rfl rfl (fun _ h=>h) rfl rfl rfl (fun _ _ _ h=>h) fun FK NK wK K=>(Hr 2 tk rfl rfl rfl rfl tv ?_)))))
  obtain ⟨x8,hx8,H⟩:=an H
  refine WH.call [] rfl (aX 0 rfl _ hx8) aY rfl rfl p1 rfl rfl rfl rfl rfl (He 0 tk ek rfl rfl rfl rfl tv rfl rfl (Hr 1 tk rfl rfl rfl rfl tv (WH.nil rfl (Qn (Wt ?_)))))
  cases H
  exact Ends.autoC tk rfl rfl rfl p1
 refine Wk (Qn (Ws (Hp (.one 0 true (.one 1 true (.one 2 false (.one 3 false (.one 4 true .done))))) [0,102,104] [104] rfl (by kernel_rfl) rfl (by kernel_rfl) rfl rfl (fun _ h=>h) rfl rfl rfl (fun _ _ _ h=>h) fun FK NK wK K=>(Hr 2 tk rfl rfl rfl rfl tv ?_))))
 obtain ⟨x9,hx9,H⟩:=an H
 refine WH.call [] rfl (aX 0 rfl _ hx9) aY rfl rfl p1 rfl rfl rfl rfl rfl (He 0 tk ek rfl rfl rfl rfl tv rfl rfl (Hr 1 tk rfl rfl rfl rfl tv (WH.nil rfl (Qn (Wt ?_)))))
 cases H
 exact Ends.autoC tk rfl rfl rfl p1
theorem rH (n0:Nat) (hn:cJ [n0]=true) (a0:ao) {r:av×Int×ao} (H:ei a0=some r):LJ.Spec Tryz.prog 66 [.ptr n0 0] [(n0, .box 131 [.d (.str a0.s), .d (.int .i64 a0.at_), .d (.int .i64 a0.err)])] (.tup [.d (.agg [.int .i64 r.1.Kind, .int .i64 r.1.A, .int .i64 r.1.B]), .d (.int .i64 r.2.1)]) [(n0, .box 131 [.d (.str r.2.2.s), .d (.int .i64 r.2.2.at_), .d (.int .i64 r.2.2.err)])]:=
 Spec.names [n0] hn rfl rfl (rG a0 H)
theorem rI:aF Tryz.prog 66 Tryz.f66:=⟨Tryz.func66,rfl,by kernel_rfl⟩
theorem tA (a0:ao) {r:aw×Int×ao} (H:ib a0=some r):LJ.Spec Tryz.prog 35 [.ptr 0 0] [(0, .box 131 [.d (.str a0.s), .d (.int .i64 a0.at_), .d (.int .i64 a0.err)])] (.tup [.d (.agg [.int .i64 r.1.Config.Mode, .int .i64 r.1.Config.Workers, .int .i64 r.1.Config.Quantum, .int .i64 r.1.Config.Policy,slT ai r.1.Program.Decls,slT aa r.1.Program.Waits,slT ak r.1.Program.Funcs,slT aC r.1.Events]), .d (.int .i64 r.2.1)]) [(0, .box 131 [.d (.str r.2.2.s), .d (.int .i64 r.2.2.at_), .d (.int .i64 r.2.2.err)])]:=by
 refine LJ.Spec.code Tryz.func35 rfl 83 rfl rfl [0] rfl fun w0 F0 S0 B0=>?_
 unfold ib at H
 refine G (Wa 102 tk rfl rfl rfl (R 1 rfl (N (R 1 rfl (Wa 104 tk rfl rfl rfl (Ef 0 rfl (N (R 1 rfl ?_))))))))
 obtain ⟨x1,hx1,H⟩:=an H
 refine Cl [] (jT 0 rfl _ hx1) jU rfl p1 rfl (R 2 rfl (Ef 0 rfl (N (R 1 rfl ?_))))
 obtain ⟨x2,hx2,H⟩:=an H
 refine Cl [] (jT 0 rfl _ hx2) jU rfl p1 rfl (R 2 rfl (Ef 0 rfl (N (R 1 rfl ?_))))
 obtain ⟨x3,hx3,H⟩:=an H
 refine Cl [] (jT 0 rfl _ hx3) jU rfl p1 rfl (R 2 rfl (Ef 0 rfl (N (R 1 rfl ?_))))
 obtain ⟨x4,hx4,H⟩:=an H
 refine Cl [] (jT 0 rfl _ hx4) jU rfl p1 rfl (R 2 rfl (Ef 0 rfl (N (R 1 rfl ?_))))
 obtain ⟨x5,hx5,H⟩:=an H
 refine Cl [] (rh 0 rfl _ hx5) ri rfl p1 rfl (R 1 rfl (N (R 1 rfl ?_)))
 obtain ⟨x6,hx6,H⟩:=an H
 refine Cl [] (aX 0 rfl _ hx6) aY rfl p1 rfl (R 1 rfl (NS (G (R 2 rfl (NQ (Wd rfl H (fun H=>?_) (fun H=>?_)))))))
 ·refine G (R 2 rfl (Ef 0 rfl (R 1 rfl (NQ (WC.nilF 102 4 6024 93 3 rfl (WC.row 6024 (([]:List ab).map ai) rfl rfl rfl (WC.nilF 102 5 6025 94 1 rfl (WC.row 6025 (([]:List (List (List af))).map aa) rfl rfl rfl (WC.nilF 102 6 6026 98 3 rfl (WC.row 6026 (([]:List aq).map ak) rfl rfl rfl (WC.nilF 102 7 6027 55 3 rfl (WC.row 6027 (([]:List av).map aC) rfl rfl rfl (WC.freezeT 6024 ai ([]:List ab) rfl rfl rfl rfl (WC.freezeT 6025 aa ([]:List (List (List af))) rfl rfl rfl rfl (WC.freezeT 6026 ak ([]:List aq) rfl rfl rfl rfl (WC.freezeT 6027 aC ([]:List av) rfl rfl rfl rfl (Wt (QT.r ?_))))))))))))))))))
  cases H
  exact Ends.autoC tk rfl rfl rfl p1
 refine Wk (Qn (Ws (G (R 1 rfl ?_))))
 obtain ⟨x8,hx8,H⟩:=an H
 refine Cl [] (zb _ hx8) za rfl tv rfl (R 4 rfl (Ef 0 rfl (R 1 rfl (N (R 2 rfl (NQ (Wd rfl H (fun H=>?_) (fun H=>?_))))))))
 ·refine G (R 2 rfl (Ef 0 rfl (R 1 rfl (NQ (WC.nilF 102 7 6027 55 3 rfl (WC.row 6027 (([]:List av).map aC) rfl rfl rfl (WC.freezeT 6027 aC ([]:List av) rfl rfl rfl rfl (Wt (QT.r ?_)))))))))
  cases H
  exact Ends.autoC tk rfl rfl rfl p1
 refine Wk (Qn (G (R 1 rfl ?_)))
 obtain ⟨x10,hx10,H⟩:=an H
 refine Cl [] (ct 0 rfl _ hx10) cu rfl p1 rfl (R 1 rfl (NS (G (R 1 rfl ?_))))
 obtain ⟨x11,hx11,H⟩:=an H
 refine Cl [] (aX 0 rfl _ hx11) aY rfl p1 rfl (R 1 rfl (N (R 2 rfl (NQ (Wd rfl H (fun H=>?_) (fun H=>?_))))))
 ·refine G (R 2 rfl (Ef 0 rfl (R 1 rfl (NQ (WC.nilF 102 7 6027 55 3 rfl (WC.row 6027 (([]:List av).map aC) rfl rfl rfl (WC.freezeT 6027 aC ([]:List av) rfl rfl rfl rfl (Wt (QT.r ?_)))))))))
  cases H
  exact Ends.autoC tk rfl rfl rfl p1
 refine Wk (Qn (Ws (G (R 2 rfl (NQ (Wd rfl H (fun H=>?_) (fun H=>?_)))))))
 ·refine G (R 1 rfl (Ef 0 rfl (R 1 rfl (NQ (WC.nilF 102 7 6027 55 3 rfl (WC.row 6027 (([]:List av).map aC) rfl rfl rfl (WC.freezeT 6027 aC ([]:List av) rfl rfl rfl rfl (Wt (QT.r ?_)))))))))
  cases H
  exact Ends.autoC tk rfl rfl rfl p1
 refine Wk (Qn (Ws (G (R 2 rfl (NQ (Wb (WC.nilF 104 7 1070 55 3 rfl (Wl (ι:= {x:Nat×(Int×ByteArray×Int×Int×(List av)) //dC x1 x2 x3 x4 x8 x10 x.1 x.2=some r}) (fun x=>[(0, .ptr 0 0),(2, .ptr 102 0),(4, .ptr 104 0),(57, .d (.int .u64 x10.1)),(58, .d (.int .u64 x.1.2.1))]) (fun x=>[(0, .box 131 [.d (.str x.1.2.2.1), .d (.int .i64 x.1.2.2.2.1), .d (.int .i64 x.1.2.2.2.2.1)]),(102, .box 31 [.d (.int .i64 0), .d (.int .i64 0), .d (.int .i64 0), .d (.int .i64 0), .d (.nils), .d (.nils), .d (.nils), .d (.nils)]),(104, .box 31 [.d (.int .i64 x1.1), .d (.int .i64 x2.1), .d (.int .i64 x3.1), .d (.int .i64 x4.1), .d (slT ai x8.1.Decls), .d (slT aa x8.1.Waits), .d (slT ak x8.1.Funcs), .own 1070]),(1070, .row 55 3 (x.1.2.2.2.2.2.map aC))]) (fun x=>x.1.1) ⟨(fuel,(0,x10.2.s,x10.2.at_,x10.2.err,([]:List av))),H⟩ (Lm p5 p4) fun x=>?_))))))))
 obtain ⟨⟨k16,s15⟩,H⟩:=x
 rcases k16 with _ | k16
 ·exact aO H
 rw [dC] at H
 refine G (R 1 rfl (NS (Wd rfl H (fun H=>?_) (fun H=>?_))))
 ·refine Wk (Qn (Ws (Wb (G (R 1 rfl ?_)))))
  obtain ⟨x18,hx18,H⟩:=an H
  refine Cl [] (rH 0 rfl _ hx18) rI rfl p1 rfl (R 3 rfl (Wa 109 tk rfl rfl rfl (Ef 0 rfl (R 1 rfl (NS (G (R 2 rfl (NQ (Wd rfl H (fun H=>?_) (fun H=>?_))))))))))
  ·refine G (WL.freezeT 1070 aC s15.2.2.2.2 rfl rfl rfl rfl (R 1 rfl (R 1 rfl (Ef 0 rfl (R 1 rfl (NQ (Wt (QT.r (QB.r (QT.r (QT.r (QB.r (QT.r ?_)))))))))))))
   cases H
   exact Ends.autoC tk rfl rfl rfl p1
  refine Wk (Qn (Wg (R 3 rfl (Ef 172 rfl (WL.freezeT 172 aC ([x18.1]:List av) rfl rfl rfl rfl ?_)))))
  obtain ⟨g20,H⟩:=ay H
  refine WL.appT aC s15.2.2.2.2 ([x18.1]:List av) tk ek rfl rfl (fun _=>rfl) (fun _=>rfl) rfl rfl rfl rfl (bQ g20) rfl rfl rfl rfl rfl ?_
  refine R 1 rfl (Ef 0 rfl (Wn (Qb (Qn ?_))))
  exact Wg (R 2 rfl (NQ (⟨⟨(k16,(IntKind.u64.wrap (s15.1+1),x18.2.2.s,x18.2.2.at_,x18.2.2.err,s15.2.2.2.2++([x18.1]:List av))),H⟩,Z,Lm p5 p4⟩)))
 refine WC.exit (Qx (Qx (Qh (Qn ?_))))
 refine Ws (G (R 1 rfl ?_))
 obtain ⟨x21,hx21,H⟩:=an H
 refine Cl [] (c9 0 rfl _ hx21) da rfl p1 rfl (R 1 rfl (NQ (Wd rfl H (fun H=>?_) (fun H=>?_))))
 ·refine G (WL.freezeT 1070 aC s15.2.2.2.2 rfl rfl rfl rfl (R 1 rfl (Ef 0 rfl (R 1 rfl (NQ (Wt (QT.r ?_)))))))
  cases H
  exact Ends.autoC tk rfl rfl rfl p1
 refine Wk (Qn (Ws ?_))
 obtain ⟨x28_2_1,hx28_2_1,H⟩:=an H
 refine WC.heldF [(2, .ptr 102 0),(3, .d (.int .i64 x28_2_1))] [(0, .box 131 [.d (.str s15.2.1), .d (.int .i64 s15.2.2.1), .d (.int .i64 s15.2.2.2.1)]),(102, .box 31 [.d (.int .i64 x1.1), .d (.int .i64 x2.1), .d (.int .i64 x3.1), .d (.int .i64 x4.1), .d (slT ai x8.1.Decls), .d (slT aa x8.1.Waits), .d (slT ak x8.1.Funcs), .d (slT aC s15.2.2.2.2)])] (fk (sf 0 (sf 1 (sf 2 (sf 3 (sT 4 sd))))) (sf 1 (fk (sf 0 (sf 2 (sf 3 (sT 4 sd)))) (sf 2 (sf 0 (sf 3 (sT 4 sd))))))) [0,102,104] [104,0] rfl (by kernel_rfl) rfl (by kernel_rfl) rfl rfl (fun _ h=>h) rfl rfl rfl (fun FK NK wK K=>?_) ?_
 ·refine WH.fork ?_ ?_
  ·exact WH.freezeT 1070 aC s15.2.2.2.2 rfl rfl rfl rfl (WH.val tk rfl rfl rfl rfl rfl tv rfl rfl (WH.val tk rfl rfl rfl rfl rfl tv rfl rfl (WH.call [] rfl (fN _ hx28_2_1) fO rfl rfl tv rfl rfl rfl rfl rfl (He 0 tk ek rfl rfl rfl rfl tv rfl rfl (Hr 1 tk rfl rfl rfl rfl tv (Hn rfl (Lw q2 p2)))))))
  ·refine WH.freezeT 1070 aC s15.2.2.2.2 rfl rfl rfl rfl (WH.val tk rfl rfl rfl rfl rfl tv rfl rfl (WH.fork ?_ ?_))
   ·exact WH.val tk rfl rfl rfl rfl rfl tv rfl rfl (WH.call [] rfl (fN _ hx28_2_1) fO rfl rfl tv rfl rfl rfl rfl rfl (He 0 tk ek rfl rfl rfl rfl tv rfl rfl (Hr 1 tk rfl rfl rfl rfl tv (Hn rfl (Lw q2 p2)))))
   ·exact WH.call [] rfl (fN _ hx28_2_1) fO rfl rfl tv rfl rfl rfl rfl rfl (WH.val tk rfl rfl rfl rfl rfl tv rfl rfl (He 0 tk ek rfl rfl rfl rfl tv rfl rfl (Hr 1 tk rfl rfl rfl rfl tv (Hn rfl (Lw q2 p2)))))
 ·refine Qn (Wt ?_)
  cases H
  exact Ends.autoC tk rfl rfl rfl p1
theorem tB (n0:Nat) (hn:cJ [n0]=true) (a0:ao) {r:aw×Int×ao} (H:ib a0=some r):LJ.Spec Tryz.prog 35 [.ptr n0 0] [(n0, .box 131 [.d (.str a0.s), .d (.int .i64 a0.at_), .d (.int .i64 a0.err)])] (.tup [.d (.agg [.int .i64 r.1.Config.Mode, .int .i64 r.1.Config.Workers, .int .i64 r.1.Config.Quantum, .int .i64 r.1.Config.Policy,slT ai r.1.Program.Decls,slT aa r.1.Program.Waits,slT ak r.1.Program.Funcs,slT aC r.1.Events]), .d (.int .i64 r.2.1)]) [(n0, .box 131 [.d (.str r.2.2.s), .d (.int .i64 r.2.2.at_), .d (.int .i64 r.2.2.err)])]:=
 Spec.names [n0] hn rfl rfl (tA a0 H)
theorem tC:aF Tryz.prog 35 Tryz.f35:=⟨Tryz.func35,rfl,by kernel_rfl⟩
theorem o5 (a0:ByteArray) {r:aw×Int} (H:eW a0=some r):LJ.Spec Tryz.prog 15 [.d (.str a0)] [] (.tup [.d (.agg [.int .i64 r.1.Config.Mode, .int .i64 r.1.Config.Workers, .int .i64 r.1.Config.Quantum, .int .i64 r.1.Config.Policy,slT ai r.1.Program.Decls,slT aa r.1.Program.Waits,slT ak r.1.Program.Funcs,slT aC r.1.Events]), .d (.int .i64 r.2)]) []:=by
 refine LJ.Spec.code Tryz.func15 rfl 27 rfl rfl [] rfl fun w0 F0 S0 B0=>?_
 unfold eW at H
 refine G (Wa 102 tk rfl rfl rfl (R 1 rfl (N (R 1 rfl ?_))))
 obtain ⟨x1,hx1,H⟩:=an H
 refine Cl [] (mB _ _ hx1) mC rfl tv rfl (R 5 rfl (NS (G (R 2 rfl (NQ (Wd rfl H (fun H=>?_) (fun H=>?_)))))))
 ·refine G (R 1 rfl (Ef 0 rfl (R 1 rfl (NQ (WC.nilF 102 4 6024 93 3 rfl (WC.row 6024 (([]:List ab).map ai) rfl rfl rfl (WC.nilF 102 5 6025 94 1 rfl (WC.row 6025 (([]:List (List (List af))).map aa) rfl rfl rfl (WC.nilF 102 6 6026 98 3 rfl (WC.row 6026 (([]:List aq).map ak) rfl rfl rfl (WC.nilF 102 7 6027 55 3 rfl (WC.row 6027 (([]:List av).map aC) rfl rfl rfl (WC.freezeT 6024 ai ([]:List ab) rfl rfl rfl rfl (WC.freezeT 6025 aa ([]:List (List (List af))) rfl rfl rfl rfl (WC.freezeT 6026 ak ([]:List aq) rfl rfl rfl rfl (WC.freezeT 6027 aC ([]:List av) rfl rfl rfl rfl (Wt (QT.r ?_))))))))))))))))))
  cases H
  exact Ends.autoC tk rfl rfl rfl tv
 refine Wk (Qn (G (R 1 rfl ?_)))
 obtain ⟨x3,hx3,H⟩:=an H
 refine Cl [2180] (iP 2180 rfl _ hx3) iQ rfl tv rfl ?_
 obtain ⟨x4,hx4,H⟩:=an H
 refine Cl [] (tB 2180 rfl _ hx4) tC rfl p1 rfl (R 3 rfl (Wa 106 tk rfl rfl rfl (Ef 0 rfl (R 1 rfl (NS (G (R 2 rfl (NQ (Wd rfl H (fun H=>?_) (fun H=>?_))))))))))
 ·refine G (R 2 rfl (Ef 0 rfl (R 1 rfl (NQ (WC.nilF 102 4 6024 93 3 rfl (WC.row 6024 (([]:List ab).map ai) rfl rfl rfl (WC.nilF 102 5 6025 94 1 rfl (WC.row 6025 (([]:List (List (List af))).map aa) rfl rfl rfl (WC.nilF 102 6 6026 98 3 rfl (WC.row 6026 (([]:List aq).map ak) rfl rfl rfl (WC.nilF 102 7 6027 55 3 rfl (WC.row 6027 (([]:List av).map aC) rfl rfl rfl (WC.freezeT 6024 ai ([]:List ab) rfl rfl rfl rfl (WC.freezeT 6025 aa ([]:List (List (List af))) rfl rfl rfl rfl (WC.freezeT 6026 ak ([]:List aq) rfl rfl rfl rfl (WC.freezeT 6027 aC ([]:List av) rfl rfl rfl rfl (Wt (QT.r ?_))))))))))))))))))
  cases H
  exact Ends.autoC tk rfl rfl rfl tv
 refine Wk (Qn (G (R 1 rfl (Ef 0 rfl (R 1 rfl (NQ (Wt ?_)))))))
 cases H
 exact Ends.autoC tk rfl rfl rfl tv
theorem o6:aF Tryz.prog 15 Tryz.f15:=⟨Tryz.func15,rfl,by kernel_rfl⟩
theorem ve (a0:List (List af)) (a1:List (List af)) {r:Bool} (H:fB a0 a1=some r):LJ.Spec Tryz.prog 73 [.d (slT aG a0), .d (slT aG a1)] [] (.d (.bool r)) []:=by
 refine LJ.Spec.code Tryz.func73 rfl 53 rfl rfl [] rfl fun w0 F0 S0 B0=>?_
 unfold fB at H
 refine G (R 1 rfl (NS (G (R 5 rfl (NQ (Wd rfl H (fun H=>?_) (fun H=>?_)))))))
 ·refine G (R 1 rfl (NQ (Wt (QT.r ?_))))
  cases H
  exact Ea rfl rfl rfl tv
 refine Wk (Qn (Ws (G (R 1 rfl (NQ (Wb (Wl (ι:= {x:Nat×Int //dP a0 a1 x.1 x.2=some r}) (fun x=>[(0, .d (slT aG a0)),(1, .d (slT aG a1)),(5, .d (.int .i64 x.1.2))]) (fun x=>[]) (fun x=>x.1.1) ⟨(fuel,0),H⟩ (Lm p3 tv) fun x=>?_)))))))
 obtain ⟨⟨k3,s2⟩,H⟩:=x
 rcases k3 with _ | k3
 ·exact aO H
 rw [dP] at H
 refine Ws (G (R 4 rfl (NQ (Wd rfl H (fun H=>?_) (fun H=>?_)))))
 ·refine Wk (Qn ?_)
  obtain ⟨K5,hK5,H⟩:=db H
  refine WC.cut (fun E m=>∃ s6:Unit,K5 s6=some r∧iA E m [(0, .d (slT aG a0)),(1, .d (slT aG a1)),(5, .d (.int .i64 s2))] []) ?_ ?_
  ·refine Wb (Ws (Ws (Hp (.one 0 true (.one 1 true (.one 2 true (.one 3 true (.one 4 true (.one 5 true (.one 6 true (.one 7 true (.one 8 true (.one 9 true (.one 10 true .done))))))))))) [] [] rfl (by kernel_rfl) rfl (by kernel_rfl) rfl rfl (fun _ h=>h) rfl rfl rfl (fun _ _ _ h=>h) fun FK NK wK K=>?_)))
   obtain ⟨g7,H⟩:=ay H
   obtain ⟨g8,H⟩:=ay H
   refine Hr 11 tk rfl rfl rfl rfl ⟨⟨(al g7).1,(al g7).2,rfl⟩,⟨(al g8).1,(al g8).2,rfl⟩,tv⟩ (WH.nil rfl (Qn (Wd rfl H (fun H=>?_) (fun H=>?_))))
   ·refine G (R 1 rfl (NQ (Wt (QT.r (QB.r (QT.r (QT.r (QB.r (QT.r ?_)))))))))
    cases H
    exact Ea rfl rfl rfl tv
   refine Wk (Qn (G (R 1 rfl (NQ (Wb (Wl (ι:= {x:Nat×Int //dY a0 a1 s2 K5 x.1 x.2=some r}) (fun x=>[(0, .d (slT aG a0)),(1, .d (slT aG a1)),(5, .d (.int .i64 s2)),(6, .d (.int .i64 x.1.2))]) (fun x=>[]) (fun x=>x.1.1) ⟨(fuel,0),H⟩ (Lm p4 tv) fun x=>?_))))))
   obtain ⟨⟨k11,s10⟩,H⟩:=x
   rcases k11 with _ | k11
   ·exact aO H
   rw [dY] at H
   refine Ws (G ?_)
   obtain ⟨g12,H⟩:=ay H
   refine RS 7 rfl ⟨⟨(al g12).1,(al g12).2,rfl⟩,tv⟩ (NQ (Wd rfl H (fun H=>?_) (fun H=>?_)))
   ·refine Wk (Qn (Ws (Wb (Ws (Hp (.one 0 true (.one 1 true (.one 2 true (.one 3 true (.one 4 true (.one 5 true (.one 6 true (.one 7 true (.one 8 true (.one 9 true (.one 10 true (.one 11 true (.one 12 true (.one 13 true (.one 14 true .done))))))))))))))) [] [] rfl (by kernel_rfl) rfl (by kernel_rfl) rfl rfl (fun _ h=>h) rfl rfl rfl (fun _ _ _ h=>h) fun FK NK wK K=>?_)))))
    obtain ⟨g14,H⟩:=ay H
    obtain ⟨g15,H⟩:=ay H
    obtain ⟨g16,H⟩:=ay H
    obtain ⟨g17,H⟩:=ay H
    refine Hr 14 tk rfl rfl rfl rfl ⟨⟨(al g14).1,(al g14).2,rfl⟩,⟨(al g15).1,(al g15).2,rfl⟩,⟨(al g16).1,(al g16).2,rfl⟩,⟨(al g17).1,(al g17).2,rfl⟩,tv⟩ (WH.yv rfl (LJ.Y.structEq .neq (.inr rfl) rfl rfl rfl (by kernel_rfl) rfl) rfl rfl rfl (WH.nil rfl (Qn (Wd rfl H (fun H=>?_) (fun H=>?_)))))
    ·refine G (R 1 rfl (NQ (Wt (QB.r (QT.r (QT.r (QB.r (QB.r (QT.r (QT.r (QB.r (QT.r ?_))))))))))))
     cases H
     exact Ea rfl rfl rfl tv
    refine Wk (Qb (Qn ?_))
    exact Wg (R 3 rfl (NQ (⟨⟨(k11,IntKind.i64.wrap (s10+1)),H⟩,Z,Lm p4 tv⟩)))
   refine WC.exit (Qx (Qx (Qh (Qb (Qn ?_)))))
   exact ⟨Unit.unit,H,Lw q3 tv⟩
  ·rintro E m ⟨s6,H,hl⟩
   refine WC.lessW hl ?_
   replace H:=(hK5 _).symm.trans H
   try dsimp only at H
   exact Wg (R 3 rfl (NQ (⟨⟨(k3,IntKind.i64.wrap (s2+1)),H⟩,Z,Lm p3 tv⟩)))
 refine WC.exit (Qx (Qx (Qh (Qn ?_))))
 refine G (R 1 rfl (NQ (Wt ?_)))
 cases H
 exact Ea rfl rfl rfl tv
theorem vf:aF Tryz.prog 73 Tryz.f73:=⟨Tryz.func73,rfl,by kernel_rfl⟩
theorem vg (a0:ah) (a1:ah) {r:Bool} (H:gn a0 a1=some r):LJ.Spec Tryz.prog 43 [.d (.agg [slT ai a0.Decls,slT aa a0.Waits,slT ak a0.Funcs]), .d (.agg [slT ai a1.Decls,slT aa a1.Waits,slT ak a1.Funcs])] [] (.d (.bool r)) []:=by
 refine LJ.Spec.code Tryz.func43 rfl 129 rfl rfl [] rfl fun w0 F0 S0 B0=>?_
 unfold gn at H
 refine G (Ef 102 rfl (Ef 103 rfl (R 1 rfl (NS (G (R 8 rfl (Wx 7 7 false tk sg0 rfl rfl (fun _=>tv) (RS 2 rfl ⟨by first | exact id | exact fun h=>by rw [h];rfl | simp_all,tv⟩ (Wx 7 16 false tk sg0 rfl rfl (fun _=>tv) (RS 1 rfl ⟨by first | exact id | exact fun h=>by rw [h];rfl | simp_all,tv⟩ (NQ (Wd rfl H (fun H=>?_) (fun H=>?_)))))))))))))
 ·refine G (R 1 rfl (NQ (Wt (QT.r ?_))))
  cases H
  exact Ea rfl rfl rfl tv
 refine Wk (Qn (Ws (G (R 1 rfl (NQ (Wb (Wl (ι:= {x:Nat×Int //eD a0 a1 x.1 x.2=some r}) (fun x=>[(2, .ptr 102 0),(3, .ptr 103 0),(5, .d (.int .i64 x.1.2))]) (fun x=>[(102, .box 28 [.d (slT ai a0.Decls), .d (slT aa a0.Waits), .d (slT ak a0.Funcs)]),(103, .box 28 [.d (slT ai a1.Decls), .d (slT aa a1.Waits), .d (slT ak a1.Funcs)])]) (fun x=>x.1.1) ⟨(fuel,0),H⟩ (Lm p3 p2) fun x=>?_)))))))
 obtain ⟨⟨k3,s2⟩,H⟩:=x
 rcases k3 with _ | k3
 ·exact aO H
 rw [eD] at H
 refine Ws (G (R 5 rfl (NQ (Wd rfl H (fun H=>?_) (fun H=>?_)))))
 ·refine Wk (Qn (Ws (Wb (Ws (Hp (.one 0 true (.one 1 true (.one 2 true (.one 3 true (.one 4 true (.one 5 true (.one 6 true (.one 7 true (.one 8 true (.one 9 true (.one 10 true .done))))))))))) [102,103] [102,103] rfl (by kernel_rfl) rfl (by kernel_rfl) rfl rfl (fun _ h=>h) rfl rfl rfl (fun _ _ _ h=>h) fun FK NK wK K=>?_)))))
  obtain ⟨g5,H⟩:=ay H
  obtain ⟨g6,H⟩:=ay H
  refine Hr 10 tk rfl rfl rfl rfl ⟨⟨(al g5).1,(al g5).2,rfl⟩,⟨(al g6).1,(al g6).2,rfl⟩,tv⟩ (WH.yv rfl (LJ.Y.structEq .neq (.inr rfl) rfl rfl rfl (by kernel_rfl) rfl) rfl rfl rfl (WH.nil rfl (Qn (Wd rfl H (fun H=>?_) (fun H=>?_)))))
  ·refine G (R 1 rfl (NQ (Wt (QB.r (QT.r (QT.r (QB.r (QT.r ?_))))))))
   cases H
   exact Ea rfl rfl rfl tv
  refine Wk (Qb (Qn ?_))
  exact Wg (R 3 rfl (NQ (⟨⟨(k3,IntKind.i64.wrap (s2+1)),H⟩,Z,Lm p3 p2⟩)))
 refine WC.exit (Qx (Qx (Qh (Qn ?_))))
 refine Ws (G (R 1 rfl (NQ (Wb (Wl (ι:= {x:Nat×Int //eC a0 a1 x.1 x.2=some r}) (fun x=>[(2, .ptr 102 0),(3, .ptr 103 0),(6, .d (.int .i64 x.1.2))]) (fun x=>[(102, .box 28 [.d (slT ai a0.Decls), .d (slT aa a0.Waits), .d (slT ak a0.Funcs)]),(103, .box 28 [.d (slT ai a1.Decls), .d (slT aa a1.Waits), .d (slT ak a1.Funcs)])]) (fun x=>x.1.1) ⟨(fuel,0),H⟩ (Lm p3 p2) fun x=>?_)))))
 obtain ⟨⟨k9,s8⟩,H⟩:=x
 rcases k9 with _ | k9
 ·exact aO H
 rw [eC] at H
 refine Ws (G (R 5 rfl (NQ (Wd rfl H (fun H=>?_) (fun H=>?_)))))
 ·refine Wk (Qn (Ws (Wb (Ws (Hp (.one 0 true (.one 1 true (.one 2 true (.one 3 true (.one 4 true (.one 5 true (.one 6 true (.one 7 true (.one 8 true (.one 9 true (.one 10 false (.one 11 true .done)))))))))))) [102,103] [102,103] rfl (by kernel_rfl) rfl (by kernel_rfl) rfl rfl (fun _ h=>h) rfl rfl rfl (fun _ _ _ h=>h) fun FK NK wK K=>?_)))))
  obtain ⟨g11,H⟩:=ay H
  obtain ⟨g12,H⟩:=ay H
  refine Hr 10 tk rfl rfl rfl rfl ⟨⟨(al g11).1,(al g11).2,rfl⟩,⟨(al g12).1,(al g12).2,rfl⟩,tv⟩ ?_
  obtain ⟨x13,hx13,H⟩:=an H
  refine WH.call [] rfl (ve _ _ hx13) vf rfl rfl tv rfl rfl rfl rfl rfl (Hr 1 tk rfl rfl rfl rfl tv (WH.nil rfl (Qn (Wd rfl H (fun H=>?_) (fun H=>?_)))))
  ·refine G (R 1 rfl (NQ (Wt (QB.r (QT.r (QT.r (QB.r (QT.r ?_))))))))
   cases H
   exact Ea rfl rfl rfl tv
  refine Wk (Qb (Qn ?_))
  exact Wg (R 3 rfl (NQ (⟨⟨(k9,IntKind.i64.wrap (s8+1)),H⟩,Z,Lm p3 p2⟩)))
 refine WC.exit (Qx (Qx (Qh (Qn ?_))))
 refine Ws (G (R 1 rfl (NQ (Wb (Wl (ι:= {x:Nat×Int //dx a0 a1 x.1 x.2=some r}) (fun x=>[(2, .ptr 102 0),(3, .ptr 103 0),(7, .d (.int .i64 x.1.2))]) (fun x=>[(102, .box 28 [.d (slT ai a0.Decls), .d (slT aa a0.Waits), .d (slT ak a0.Funcs)]),(103, .box 28 [.d (slT ai a1.Decls), .d (slT aa a1.Waits), .d (slT ak a1.Funcs)])]) (fun x=>x.1.1) ⟨(fuel,0),H⟩ (Lm p3 p2) fun x=>?_)))))
 obtain ⟨⟨k16,s15⟩,H⟩:=x
 rcases k16 with _ | k16
 ·exact aO H
 rw [dx] at H
 refine Ws (G (R 5 rfl (NQ (Wd rfl H (fun H=>?_) (fun H=>?_)))))
 ·refine Wk (Qn ?_)
  obtain ⟨K18,hK18,H⟩:=db H
  refine WC.cut (fun E m=>∃ s19:Unit,K18 s19=some r∧iA E m [(2, .ptr 102 0),(3, .ptr 103 0),(7, .d (.int .i64 s15))] [(102, .box 28 [.d (slT ai a0.Decls), .d (slT aa a0.Waits), .d (slT ak a0.Funcs)]),(103, .box 28 [.d (slT ai a1.Decls), .d (slT aa a1.Waits), .d (slT ak a1.Funcs)])]) ?_ ?_
  ·refine Wb (Ws ?_)
   obtain ⟨g16_3_1,H⟩:=ay H
   obtain ⟨g16_8_1,H⟩:=ay H
   refine WC.heldF [(2, .ptr 102 0),(3, .ptr 103 0),(7, .d (.int .i64 s15)),(8, .ptr 108 0),(9, .ptr 109 0)] [(102, .box 28 [.d (slT ai a0.Decls), .d (slT aa a0.Waits), .d (slT ak a0.Funcs)]),(103, .box 28 [.d (slT ai a1.Decls), .d (slT aa a1.Waits), .d (slT ak a1.Funcs)]),(108, .box 98 [.d (.int .i64 ((a0.Funcs.getD s15.toNat default).Args)), .d (.int .i64 ((a0.Funcs.getD s15.toNat default).Locals)), .d (slT aE ((a0.Funcs.getD s15.toNat default).Code))]),(109, .box 98 [.d (.int .i64 ((a1.Funcs.getD s15.toNat default).Args)), .d (.int .i64 ((a1.Funcs.getD s15.toNat default).Locals)), .d (slT aE ((a1.Funcs.getD s15.toNat default).Code))])] (sT 0 (sT 1 (sT 2 (sT 3 (sT 4 (sT 5 (sT 6 (sT 7 (sT 8 (sT 9 (fk (sf 10 (sf 11 (sf 12 (sf 13 sd)))) (sf 11 (sf 10 (sf 12 (sf 13 sd))))))))))))))) [102,103] [102,103] rfl (by kernel_rfl) rfl (by kernel_rfl) rfl rfl (fun _ h=>h) rfl rfl rfl (fun FK NK wK K=>?_) ?_
   ·refine Hr 10 tk rfl rfl rfl rfl ⟨⟨(al g16_3_1).1,(al g16_3_1).2,rfl⟩,⟨(al g16_8_1).1,(al g16_8_1).2,rfl⟩,tv⟩ (WH.fork ?_ ?_)
    ·exact WH.alloc 108 tk rfl rfl rfl rfl rfl rfl (WH.alloc 109 tk rfl rfl rfl rfl rfl rfl (He 0 tk ek rfl rfl rfl rfl tv rfl rfl (He 0 tk ek rfl rfl rfl rfl tv rfl rfl (Hn rfl (Lw q5 p4)))))
    ·exact WH.alloc 109 tk rfl rfl rfl rfl rfl rfl (WH.alloc 108 tk rfl rfl rfl rfl rfl rfl (He 0 tk ek rfl rfl rfl rfl tv rfl rfl (He 0 tk ek rfl rfl rfl rfl tv rfl rfl (Hn rfl (Lw q5 p4)))))
   ·refine Qn (Ws (G (R 6 rfl (Wx 5 5 false tk sg0 rfl rfl (fun _=>tv) (RS 2 rfl ⟨by first | exact id | exact fun h=>by rw [h];rfl | simp_all,tv⟩ (Wx 7 12 false tk sg0 rfl rfl (fun _=>tv) (RS 1 rfl ⟨by first | exact id | exact fun h=>by rw [h];rfl | simp_all,tv⟩ (NQ (Wd rfl H (fun H=>?_) (fun H=>?_))))))))))
    ·refine G (R 1 rfl (NQ (Wt (QT.r (QB.r (QT.r (QT.r (QB.r (QT.r ?_)))))))))
     cases H
     exact Ea rfl rfl rfl tv
    refine Wk (Qn (G (R 1 rfl (NQ (Wb (Wl (ι:= {x:Nat×Int //dZ a0 a1 s15 K18 x.1 x.2=some r}) (fun x=>[(2, .ptr 102 0),(3, .ptr 103 0),(7, .d (.int .i64 s15)),(8, .ptr 108 0),(9, .ptr 109 0),(10, .d (.int .i64 x.1.2))]) (fun x=>[(102, .box 28 [.d (slT ai a0.Decls), .d (slT aa a0.Waits), .d (slT ak a0.Funcs)]),(103, .box 28 [.d (slT ai a1.Decls), .d (slT aa a1.Waits), .d (slT ak a1.Funcs)]),(108, .box 98 [.d (.int .i64 ((a0.Funcs.getD s15.toNat default).Args)), .d (.int .i64 ((a0.Funcs.getD s15.toNat default).Locals)), .d (slT aE ((a0.Funcs.getD s15.toNat default).Code))]),(109, .box 98 [.d (.int .i64 ((a1.Funcs.getD s15.toNat default).Args)), .d (.int .i64 ((a1.Funcs.getD s15.toNat default).Locals)), .d (slT aE ((a1.Funcs.getD s15.toNat default).Code))])]) (fun x=>x.1.1) ⟨(fuel,0),H⟩ (Lm p6 p4) fun x=>?_))))))
    obtain ⟨⟨k22,s21⟩,H⟩:=x
    rcases k22 with _ | k22
    ·exact aO H
    rw [dZ] at H
    refine Ws (G (R 5 rfl (NQ (Wd rfl H (fun H=>?_) (fun H=>?_)))))
    ·refine Wk (Qn (Ws (Wb (Ws (Hp (.one 0 true (.one 1 true (.one 2 true (.one 3 true (.one 4 true (.one 5 true (.one 6 true (.one 7 true (.one 8 true (.one 9 true (.one 10 true .done))))))))))) [102,103,108,109] [102,103,108,109] rfl (by kernel_rfl) rfl (by kernel_rfl) rfl rfl (fun _ h=>h) rfl rfl rfl (fun _ _ _ h=>h) fun FK NK wK K=>?_)))))
     obtain ⟨g24,H⟩:=ay H
     obtain ⟨g25,H⟩:=ay H
     refine Hr 10 tk rfl rfl rfl rfl ⟨⟨(al g24).1,(al g24).2,rfl⟩,⟨(al g25).1,(al g25).2,rfl⟩,tv⟩ (WH.yv rfl (LJ.Y.structEq .neq (.inr rfl) rfl rfl rfl (by kernel_rfl) rfl) rfl rfl rfl (WH.nil rfl (Qn (Wd rfl H (fun H=>?_) (fun H=>?_)))))
     ·refine G (R 1 rfl (NQ (Wt (QB.r (QT.r (QT.r (QB.r (QB.r (QT.r (QT.r (QB.r (QT.r ?_))))))))))))
      cases H
      exact Ea rfl rfl rfl tv
     refine Wk (Qb (Qn ?_))
     exact Wg (R 3 rfl (NQ (⟨⟨(k22,IntKind.i64.wrap (s21+1)),H⟩,Z,Lm p6 p4⟩)))
    refine WC.exit (Qx (Qx (Qh (Qb (Qn ?_)))))
    exact ⟨Unit.unit,H,Lw q3 p2⟩
  ·rintro E m ⟨s19,H,hl⟩
   refine WC.lessW hl ?_
   replace H:=(hK18 _).symm.trans H
   try dsimp only at H
   exact Wg (R 3 rfl (NQ (⟨⟨(k16,IntKind.i64.wrap (s15+1)),H⟩,Z,Lm p3 p2⟩)))
 refine WC.exit (Qx (Qx (Qh (Qn ?_))))
 refine G (R 1 rfl (NQ (Wt ?_)))
 cases H
 exact Ea rfl rfl rfl tv
theorem vh:aF Tryz.prog 43 Tryz.f43:=⟨Tryz.func43,rfl,by kernel_rfl⟩
theorem o7 (a0:aw) (a1:aw) {r:Bool} (H:ef a0 a1=some r):LJ.Spec Tryz.prog 17 [.d (.agg [.int .i64 a0.Config.Mode, .int .i64 a0.Config.Workers, .int .i64 a0.Config.Quantum, .int .i64 a0.Config.Policy,slT ai a0.Program.Decls,slT aa a0.Program.Waits,slT ak a0.Program.Funcs,slT aC a0.Events]), .d (.agg [.int .i64 a1.Config.Mode, .int .i64 a1.Config.Workers, .int .i64 a1.Config.Quantum, .int .i64 a1.Config.Policy,slT ai a1.Program.Decls,slT aa a1.Program.Waits,slT ak a1.Program.Funcs,slT aC a1.Events])] [] (.d (.bool r)) []:=by
 refine LJ.Spec.code Tryz.func17 rfl 46 rfl rfl [] rfl fun w0 F0 S0 B0=>?_
 unfold ef at H
 refine G (Ef 102 rfl (Ef 103 rfl (R 1 rfl (NS (G (R 4 rfl (WL.yv (LJ.Y.structEq .neq (.inr rfl) rfl rfl rfl (by kernel_rfl) rfl) rfl rfl rfl (R 1 rfl ?_))))))))
 obtain ⟨x1,hx1,H⟩:=an H
 refine Wx 6 5 false tk [PSig.at' vh ((!(!((iEq a0.Config.Mode a1.Config.Mode)&&((iEq a0.Config.Workers a1.Config.Workers)&&((iEq a0.Config.Quantum a1.Config.Quantum)&&((iEq a0.Config.Policy a1.Config.Policy)&&true))))))=true) rfl (fun hb=>vg _ _ (of_t hx1 hb))] rfl rfl (fun hb=>⟨⟨hb,rfl⟩,tv⟩) (RS 2 rfl ⟨by first | exact id | exact fun h=>by rw [h];rfl | simp_all,tv⟩ (Wx 7 13 false tk sg0 rfl rfl (fun _=>tv) (RS 1 rfl ⟨by first | exact id | exact fun h=>by rw [h];rfl | simp_all,tv⟩ (NQ (Wd rfl H (fun H=>?_) (fun H=>?_))))))
 ·refine G (R 1 rfl (NQ (Wt (QT.r ?_))))
  cases H
  exact Ea rfl rfl rfl tv
 refine Wk (Qn (Ws (G (R 1 rfl (NQ (Wb (Wl (ι:= {x:Nat×Int //eF a0 a1 x.1 x.2=some r}) (fun x=>[(2, .ptr 102 0),(3, .ptr 103 0),(5, .d (.int .i64 x.1.2))]) (fun x=>[(102, .box 31 [.d (.int .i64 a0.Config.Mode), .d (.int .i64 a0.Config.Workers), .d (.int .i64 a0.Config.Quantum), .d (.int .i64 a0.Config.Policy), .d (slT ai a0.Program.Decls), .d (slT aa a0.Program.Waits), .d (slT ak a0.Program.Funcs), .d (slT aC a0.Events)]),(103, .box 31 [.d (.int .i64 a1.Config.Mode), .d (.int .i64 a1.Config.Workers), .d (.int .i64 a1.Config.Quantum), .d (.int .i64 a1.Config.Policy), .d (slT ai a1.Program.Decls), .d (slT aa a1.Program.Waits), .d (slT ak a1.Program.Funcs), .d (slT aC a1.Events)])]) (fun x=>x.1.1) ⟨(fuel,0),H⟩ (Lm p3 p2) fun x=>?_)))))))
 obtain ⟨⟨k4,s3⟩,H⟩:=x
 rcases k4 with _ | k4
 ·exact aO H
 rw [eF] at H
 refine Ws (G (R 5 rfl (NQ (Wd rfl H (fun H=>?_) (fun H=>?_)))))
 ·refine Wk (Qn (Ws (Wb (Ws (Hp (.one 0 true (.one 1 true (.one 2 true (.one 3 true (.one 4 true (.one 5 true (.one 6 true (.one 7 true (.one 8 true (.one 9 true (.one 10 true .done))))))))))) [102,103] [102,103] rfl (by kernel_rfl) rfl (by kernel_rfl) rfl rfl (fun _ h=>h) rfl rfl rfl (fun _ _ _ h=>h) fun FK NK wK K=>?_)))))
  obtain ⟨g6,H⟩:=ay H
  obtain ⟨g7,H⟩:=ay H
  refine Hr 10 tk rfl rfl rfl rfl ⟨⟨(al g6).1,(al g6).2,rfl⟩,⟨(al g7).1,(al g7).2,rfl⟩,tv⟩ (WH.yv rfl (LJ.Y.structEq .neq (.inr rfl) rfl rfl rfl (by kernel_rfl) rfl) rfl rfl rfl (WH.nil rfl (Qn (Wd rfl H (fun H=>?_) (fun H=>?_)))))
  ·refine G (R 1 rfl (NQ (Wt (QB.r (QT.r (QT.r (QB.r (QT.r ?_))))))))
   cases H
   exact Ea rfl rfl rfl tv
  refine Wk (Qb (Qn ?_))
  exact Wg (R 3 rfl (NQ (⟨⟨(k4,IntKind.i64.wrap (s3+1)),H⟩,Z,Lm p3 p2⟩)))
 refine WC.exit (Qx (Qx (Qh (Qn ?_))))
 refine G (R 1 rfl (NQ (Wt ?_)))
 cases H
 exact Ea rfl rfl rfl tv
theorem o8:aF Tryz.prog 17 Tryz.f17:=⟨Tryz.func17,rfl,by kernel_rfl⟩
theorem tD {r:Bool} (H:eG=some r):LJ.Spec Tryz.prog 14 [] [] (.d (.bool r)) []:=by
 refine LJ.Spec.code Tryz.func14 rfl 35 rfl rfl [] rfl fun w0 F0 S0 B0=>?_
 unfold eG at H
 refine G (R 1 rfl (NS (Wg ?_)))
 obtain ⟨x1,hx1,H⟩:=an H
 refine Cl [] (nX hx1) nY rfl tv rfl ?_
 obtain ⟨x2,hx2,H⟩:=an H
 refine Cl [] (va _ hx2) vb rfl tv rfl (R 5 rfl (N (R 1 rfl ?_)))
 obtain ⟨x3,hx3,H⟩:=an H
 refine Cl [] (o5 _ hx3) o6 rfl tv rfl (R 3 rfl (Wa 103 tk rfl rfl rfl (Ef 0 rfl (R 1 rfl (NS (Hp (.one 0 true (.one 1 true (.one 2 true (.one 3 true (.one 4 true (.one 5 true (.one 6 true (.one 7 true (.one 8 true (.one 9 true (.one 10 true (.one 11 true (.one 12 false (.one 13 false (.one 14 true (.one 15 true (.one 16 true (.one 17 false (.one 18 true (.one 19 true (.one 20 true .done))))))))))))))))))))) [103] [103] rfl (by kernel_rfl) rfl (by kernel_rfl) rfl rfl (fun _ h=>h) rfl rfl rfl (fun _ _ _ h=>h) fun FK NK wK K=>(Hr 3 tk rfl rfl rfl rfl tv (WH.sect 2 2 true tk rfl rfl rfl rfl (fun _=>tv) (Hr 2 tk rfl rfl rfl rfl ⟨by first | exact id | exact fun h=>by rw [h];rfl | simp_all,tv⟩ (WH.sect 2 6 true tk rfl rfl rfl rfl (fun _=>tv) (Hr 2 tk rfl rfl rfl rfl ⟨by first | exact id | exact fun h=>by rw [h];rfl | simp_all,tv⟩ ?_)))))))))))
 refine WH.split (g:=25) rfl (fun h4=>?_) (fun h4=>?_)
 ·replace H:=of_t H h4
  refine WH.grun 1 10 true 25 tk rfl rfl rfl rfl rfl rfl tv ?_
  obtain ⟨x5,hx5,H⟩:=an H
  refine WH.gcall [] rfl (nX hx5) nY rfl rfl tv rfl rfl rfl rfl rfl rfl rfl rfl ?_
  obtain ⟨x6,hx6,H⟩:=an H
  refine WH.gcall [] rfl (o7 _ _ hx6) o8 rfl rfl tv rfl rfl rfl rfl rfl rfl rfl rfl (WH.pick1 rfl rfl rfl rfl rfl rfl rfl (Hr 1 tk rfl rfl rfl rfl tv (WH.split (g:=30) rfl (fun h7=>?_) (fun h7=>?_))))
  ·replace H:=of_t H h7
   refine WH.grun 1 15 true 30 tk rfl rfl rfl rfl rfl rfl tv (WH.le 31 (.agg [.int .i64 0, .int .i64 0, .int .i64 0, .int .i64 0,slT ai [],slT aa [],slT ak [],slT aC []]) rfl (Le.agg (.cons .rfl' (.cons .rfl' (.cons .rfl' (.cons .rfl' (.cons (Le.nilT ai) (.cons (Le.nilT aa) (.cons (Le.nilT ak) (.cons (Le.nilT aC) .nil))))))))) ?_)
   obtain ⟨x8,hx8,H⟩:=an H
   refine WH.gcall [] rfl (fN _ hx8) fO rfl rfl tv rfl rfl rfl rfl rfl rfl rfl rfl (WH.grun 1 15 true 30 tk rfl rfl rfl rfl rfl rfl tv (WH.pick1 rfl rfl rfl rfl rfl rfl rfl (Hr 1 tk rfl rfl rfl rfl tv (WH.nil rfl (Qn (Wt ?_))))))
   cases H
   exact Ea rfl rfl rfl tv
  ·replace H:=of_f H h7
   refine Hg rfl rfl rfl rfl rfl rfl rfl (Hg rfl rfl rfl rfl rfl rfl rfl (Hg rfl rfl rfl rfl rfl rfl rfl (WH.pick1 rfl rfl rfl rfl rfl rfl rfl (Hr 1 tk rfl rfl rfl rfl tv (WH.nil rfl (Qn (Wt ?_)))))))
   cases H
   exact Ea rfl rfl rfl tv
 ·replace H:=of_f H h4
  refine Hg rfl rfl rfl rfl rfl rfl rfl (Hg rfl rfl rfl rfl rfl rfl rfl (Hg rfl rfl rfl rfl rfl rfl rfl (WH.pick1 rfl rfl rfl rfl rfl rfl rfl (Hr 1 tk rfl rfl rfl rfl tv (Hg rfl rfl rfl rfl rfl rfl rfl (Hg rfl rfl rfl rfl rfl rfl rfl (Hg rfl rfl rfl rfl rfl rfl rfl (WH.pick1 rfl rfl rfl rfl rfl rfl rfl (Hr 1 tk rfl rfl rfl rfl tv (WH.nil rfl (Qn (Wt ?_))))))))))))
  cases H
  exact Ea rfl rfl rfl tv
theorem tE:aF Tryz.prog 14 Tryz.f14:=⟨Tryz.func14,rfl,by kernel_rfl⟩
theorem lL (a0:au) (a1:Int) {r:au} (H:gp a0 a1=some r):LJ.Spec Tryz.prog 68 [.d (.agg [.str a0.S, .int .i64 a0.At, .int .i64 a0.Err]), .d (.int .i64 a1)] [] (.d (.agg [.str r.S, .int .i64 r.At, .int .i64 r.Err])) []:=by
 refine LJ.Spec.code Tryz.func68 rfl 15 rfl rfl [] rfl fun w0 F0 S0 B0=>?_
 unfold gp at H
 refine G (Ef 102 rfl (Wa 104 tk rfl rfl rfl (NS (G (R 3 rfl (NQ (Wd rfl H (fun H=>?_) (fun H=>?_))))))))
 ·refine Wg (R 5 rfl (Ef 0 rfl (R 1 rfl (Ef 0 rfl (N (R 1 rfl (Ef 0 rfl (NQ (Wt ?_)))))))))
  cases H
  exact Ends.autoC tk rfl rfl rfl tv
 refine Wk (Qn (G (R 1 rfl (Ef 0 rfl (NQ (Wt ?_))))))
 cases H
 exact Ends.autoC tk rfl rfl rfl tv
theorem lM:aF Tryz.prog 68 Tryz.f68:=⟨Tryz.func68,rfl,by kernel_rfl⟩
theorem iU (a0:au) {r:Int×au} (H:dL a0=some r):LJ.Spec Tryz.prog 41 [.d (.agg [.str a0.S, .int .i64 a0.At, .int .i64 a0.Err])] [] (.tup [.d (.int .i64 r.1), .d (.agg [.str r.2.S, .int .i64 r.2.At, .int .i64 r.2.Err])]) []:=by
 refine LJ.Spec.code Tryz.func41 rfl 25 rfl rfl [] rfl fun w0 F0 S0 B0=>?_
 unfold dL at H
 refine G (Ef 101 rfl (R 1 rfl (Wa 103 tk rfl rfl rfl (NS (G (R 6 rfl (NQ (Wd rfl H (fun H=>?_) (fun H=>?_)))))))))
 ·refine G (R 1 rfl ?_)
  obtain ⟨x2,hx2,H⟩:=an H
  refine Cl [] (lL _ _ hx2) lM rfl tv rfl (R 1 rfl (Ef 0 rfl (NQ (Wt (QT.r ?_)))))
  cases H
  exact Ends.autoC tk rfl rfl rfl tv
 refine Wk (Qn (G ?_))
 obtain ⟨g3,H⟩:=ay H
 refine RS 7 rfl ⟨(al g3),tv⟩ (N (R 4 rfl (Ef 0 rfl (NS (Hp (.one 0 true (.one 1 true (.one 2 true (.one 3 false .done)))) [101,103] [101] rfl (by kernel_rfl) rfl (by kernel_rfl) rfl rfl (fun _ h=>h) rfl rfl rfl (fun _ _ _ h=>h) fun FK NK wK K=>(Hr 3 tk rfl rfl rfl rfl tv (He 0 tk ek rfl rfl rfl rfl tv rfl rfl (WH.nil rfl (Qn (Wt ?_))))))))))
 cases H
 exact Ends.autoC tk rfl rfl rfl tv
theorem iV:aF Tryz.prog 41 Tryz.f41:=⟨Tryz.func41,rfl,by kernel_rfl⟩
theorem bW (a0:au) {r:Int×au} (H:bj a0=some r):LJ.Spec Tryz.prog 40 [.d (.agg [.str a0.S, .int .i64 a0.At, .int .i64 a0.Err])] [] (.tup [.d (.int .u64 r.1), .d (.agg [.str r.2.S, .int .i64 r.2.At, .int .i64 r.2.Err])]) []:=by
 refine LJ.Spec.code Tryz.func40 rfl 52 rfl rfl [] rfl fun w0 F0 S0 B0=>?_
 unfold bj at H
 refine G (Ef 101 rfl (R 1 rfl (Wa 103 tk rfl rfl rfl (N (R 3 rfl (NS (G (R 1 rfl (NQ (Wb (Wl (ι:= {x:Nat×(Int×Int×Int×ByteArray×Int×Int) //c8 x.1 x.2=some r}) (fun x=>[(1, .ptr 101 0),(3, .ptr 103 0),(4, .d (.int .u64 x.1.2.1)),(5, .d (.int .u64 x.1.2.2.1)),(7, .d (.int .i64 x.1.2.2.2.1))]) (fun x=>[(101, .box 83 [.d (.str x.1.2.2.2.2.1), .d (.int .i64 x.1.2.2.2.2.2.1), .d (.int .i64 x.1.2.2.2.2.2.2)]),(103, .box 83 [.d (.str ByteArray.empty), .d (.int .i64 0), .d (.int .i64 0)])]) (fun x=>x.1.1) ⟨(fuel,(0,1,0,a0.S,a0.At,a0.Err)),H⟩ (Lm p5 p2) fun x=>?_)))))))))))
 obtain ⟨⟨k2,s1⟩,H⟩:=x
 rcases k2 with _ | k2
 ·exact aO H
 rw [c8] at H
 refine Ws (G (R 2 rfl (NQ (Wd rfl H (fun H=>?_) (fun H=>?_)))))
 ·refine Wk (Qn (Ws (Wb (G (R 1 rfl ?_)))))
  obtain ⟨x4,hx4,H⟩:=an H
  refine Cl [] (iU _ hx4) iV rfl tv rfl (R 4 rfl (Ef 0 rfl (NS (G (R 3 rfl (NQ (Wd rfl H (fun H=>?_) (fun H=>?_))))))))
  ·refine Ws (Hp (.one 0 true (.one 1 true (.one 2 false .done))) [101,103] [101] rfl (by kernel_rfl) rfl (by kernel_rfl) rfl rfl (fun _ h=>h) rfl rfl rfl (fun _ _ _ h=>h) fun FK NK wK K=>(Hr 2 tk rfl rfl rfl rfl tv (He 0 tk ek rfl rfl rfl rfl tv rfl rfl (WH.nil rfl (Qn (Wt (QT.r (QB.r (QT.r (QT.r (QB.r (QT.r ?_))))))))))))
   cases H
   exact Ends.autoC tk rfl rfl rfl tv
  refine Wk (Qn (Ws (G (R 3 rfl (Wx 2 2 true tk sg0 rfl rfl (fun _=>tv) (RS 2 rfl ⟨by first | exact id | exact fun h=>by rw [h];rfl | simp_all,tv⟩ (Wx 3 6 false tk sg0 rfl rfl (fun _=>tv) (Wx 2 9 true tk sg0 rfl rfl (fun _=>tv) (Wx 1 6 false tk sg0 rfl rfl (fun hb=>⟨by first | exact id | exact ⟨hb,fun h=>by rw [hb,h];rfl⟩ | exact ⟨hb,id⟩ | exact fun h=>by rw [hb,h];rfl | exact fun h=>by rw [h];rfl | simp_all,tv⟩) (RS 1 rfl ⟨by first | exact id | exact fun h=>by rw [h];rfl | simp_all,tv⟩ (NQ (Wd rfl H (fun H=>?_) (fun H=>?_)))))))))))))
  ·refine G (R 1 rfl ?_)
   obtain ⟨x7,hx7,H⟩:=an H
   refine Cl [] (lL _ _ hx7) lM rfl tv rfl (R 1 rfl (Ef 0 rfl (NQ (Wt (QT.r (QB.r (QT.r (QT.r (QB.r (QT.r ?_))))))))))
   cases H
   exact Ends.autoC tk rfl rfl rfl tv
  refine Wk (Qn (G (R 8 rfl (NS (G (R 2 rfl (NQ (Wd rfl H (fun H=>?_) (fun H=>?_)))))))))
  ·refine Ws (Hp (.one 0 true (.one 1 true (.one 2 true (.one 3 false .done)))) [101,103] [101] rfl (by kernel_rfl) rfl (by kernel_rfl) rfl rfl (fun _ h=>h) rfl rfl rfl (fun _ _ _ h=>h) fun FK NK wK K=>(Hr 3 tk rfl rfl rfl rfl tv (He 0 tk ek rfl rfl rfl rfl tv rfl rfl (WH.nil rfl (Qn (Wt (QT.r (QB.r (QT.r (QT.r (QB.r (QT.r ?_))))))))))))
   cases H
   exact Ends.autoC tk rfl rfl rfl tv
  refine Wk (Qn (Wg (R 3 rfl (Wn (Qb (Qn ?_))))))
  exact Wg (R 3 rfl (NQ (⟨⟨(k2,(IntKind.u64.wrap (s1.1+(IntKind.u64.wrap ((IntKind.u64.wrap (Int.tmod x4.1 128))*s1.2.1))),IntKind.u64.wrap (s1.2.1*128),IntKind.i64.wrap (s1.2.2.1+1),x4.2.S,x4.2.At,x4.2.Err)),H⟩,Z,Lm p5 p2⟩)))
 refine WC.exit (Qx (Qx (Qh (Qn ?_))))
 refine Ws (Hp (.one 0 true (.one 1 true (.one 2 true (.one 3 false .done)))) [101,103] [101] rfl (by kernel_rfl) rfl (by kernel_rfl) rfl rfl (fun _ h=>h) rfl rfl rfl (fun _ _ _ h=>h) fun FK NK wK K=>(Hr 3 tk rfl rfl rfl rfl tv (He 0 tk ek rfl rfl rfl rfl tv rfl rfl (WH.nil rfl (Qn (Wt ?_))))))
 cases H
 exact Ends.autoC tk rfl rfl rfl tv
theorem bX:aF Tryz.prog 40 Tryz.f40:=⟨Tryz.func40,rfl,by kernel_rfl⟩
theorem kR (a0:au) {r:Int×au} (H:iH a0=some r):LJ.Spec Tryz.prog 37 [.d (.agg [.str a0.S, .int .i64 a0.At, .int .i64 a0.Err])] [] (.tup [.d (.int .i64 r.1), .d (.agg [.str r.2.S, .int .i64 r.2.At, .int .i64 r.2.Err])]) []:=by
 refine LJ.Spec.code Tryz.func37 rfl 15 rfl rfl [] rfl fun w0 F0 S0 B0=>?_
 unfold iH at H
 refine G (Ef 101 rfl (R 1 rfl (Wa 103 tk rfl rfl rfl (N (R 1 rfl ?_)))))
 obtain ⟨x1,hx1,H⟩:=an H
 refine Cl [] (bW _ hx1) bX rfl tv rfl (R 3 rfl (Wa 105 tk rfl rfl rfl (R 1 rfl (Ef 0 rfl (NS (Hp (.one 0 true (.one 1 true (.one 2 true (.one 3 true (.one 4 true (.one 5 false .done)))))) [101,103,105] [101,105] rfl (by kernel_rfl) rfl (by kernel_rfl) rfl rfl (fun _ h=>h) rfl rfl rfl (fun _ _ _ h=>h) fun FK NK wK K=>(Hr 1 tk rfl rfl rfl rfl tv (WH.yv rfl (LJ.Y.min rfl rfl rfl) rfl rfl rfl (Hr 3 tk rfl rfl rfl rfl tv (He 0 tk ek rfl rfl rfl rfl tv rfl rfl (WH.nil rfl (Qn (Wt ?_)))))))))))))
 cases H
 exact Ends.autoC tk rfl rfl rfl tv
theorem kS:aF Tryz.prog 37 Tryz.f37:=⟨Tryz.func37,rfl,by kernel_rfl⟩
theorem tF (a0:au) {r:ByteArray×au} (H:jq a0=some r):LJ.Spec Tryz.prog 38 [.d (.agg [.str a0.S, .int .i64 a0.At, .int .i64 a0.Err])] [] (.tup [.d (.str r.1), .d (.agg [.str r.2.S, .int .i64 r.2.At, .int .i64 r.2.Err])]) []:=by
 refine LJ.Spec.code Tryz.func38 rfl 41 rfl rfl [] rfl fun w0 F0 S0 B0=>?_
 unfold jq at H
 refine G (Ef 101 rfl (R 1 rfl (Wa 103 tk rfl rfl rfl (N (R 1 rfl ?_)))))
 obtain ⟨x1,hx1,H⟩:=an H
 refine Cl [] (bW _ hx1) bX rfl tv rfl (R 3 rfl (Wa 105 tk rfl rfl rfl (R 1 rfl (Ef 0 rfl (NS (G (R 9 rfl (NQ (Wd rfl H (fun H=>?_) (fun H=>?_))))))))))
 ·refine G (R 1 rfl ?_)
  obtain ⟨x3,hx3,H⟩:=an H
  refine Cl [] (lL _ _ hx3) lM rfl tv rfl (R 1 rfl (Ef 0 rfl (NQ (Wt (QT.r ?_)))))
  cases H
  exact Ends.autoC tk rfl rfl rfl tv
 refine Wk (Qn (G ?_))
 obtain ⟨g4,H⟩:=ay H
 refine RS 11 rfl ⟨(xe g4),tv⟩ (N (R 6 rfl (Ef 0 rfl (NS (Hp (.one 0 true (.one 1 true (.one 2 true (.one 3 false .done)))) [101,103,105] [101,105] rfl (by kernel_rfl) rfl (by kernel_rfl) rfl rfl (fun _ h=>h) rfl rfl rfl (fun _ _ _ h=>h) fun FK NK wK K=>(Hr 3 tk rfl rfl rfl rfl tv (He 0 tk ek rfl rfl rfl rfl tv rfl rfl (WH.nil rfl (Qn (Wt ?_))))))))))
 cases H
 exact Ends.autoC tk rfl rfl rfl tv
theorem tG:aF Tryz.prog 38 Tryz.f38:=⟨Tryz.func38,rfl,by kernel_rfl⟩
theorem ij (a0:au) {r:Int×au} (H:fL a0=some r):LJ.Spec Tryz.prog 98 [.d (.agg [.str a0.S, .int .i64 a0.At, .int .i64 a0.Err])] [] (.tup [.d (.int .i64 r.1), .d (.agg [.str r.2.S, .int .i64 r.2.At, .int .i64 r.2.Err])]) []:=by
 refine LJ.Spec.code Tryz.func98 rfl 15 rfl rfl [] rfl fun w0 F0 S0 B0=>?_
 unfold fL at H
 refine G (Ef 101 rfl (R 1 rfl (Wa 103 tk rfl rfl rfl (N (R 1 rfl ?_)))))
 obtain ⟨x1,hx1,H⟩:=an H
 refine Cl [] (bW _ hx1) bX rfl tv rfl (R 3 rfl (Wa 105 tk rfl rfl rfl (R 1 rfl (Ef 0 rfl (NS (Hp (.one 0 true (.one 1 true (.one 2 true (.one 3 true (.one 4 true (.one 5 false .done)))))) [101,103,105] [101,105] rfl (by kernel_rfl) rfl (by kernel_rfl) rfl rfl (fun _ h=>h) rfl rfl rfl (fun _ _ _ h=>h) fun FK NK wK K=>(Hr 1 tk rfl rfl rfl rfl tv (WH.yv rfl (LJ.Y.min rfl rfl rfl) rfl rfl rfl (Hr 3 tk rfl rfl rfl rfl tv (He 0 tk ek rfl rfl rfl rfl tv rfl rfl (WH.nil rfl (Qn (Wt ?_)))))))))))))
 cases H
 exact Ends.autoC tk rfl rfl rfl tv
theorem ik:aF Tryz.prog 98 Tryz.f98:=⟨Tryz.func98,rfl,by kernel_rfl⟩
theorem fP (a0:au) {r:Int×au} (H:cO a0=some r):LJ.Spec Tryz.prog 42 [.d (.agg [.str a0.S, .int .i64 a0.At, .int .i64 a0.Err])] [] (.tup [.d (.int .i64 r.1), .d (.agg [.str r.2.S, .int .i64 r.2.At, .int .i64 r.2.Err])]) []:=by
 refine LJ.Spec.code Tryz.func42 rfl 24 rfl rfl [] rfl fun w0 F0 S0 B0=>?_
 unfold cO at H
 refine G (Ef 101 rfl (R 1 rfl (Wa 103 tk rfl rfl rfl (N (R 1 rfl ?_)))))
 obtain ⟨x1,hx1,H⟩:=an H
 refine Cl [] (bW _ hx1) bX rfl tv rfl (R 3 rfl (Wa 105 tk rfl rfl rfl (R 1 rfl (Ef 0 rfl (NS (G (R 3 rfl (NQ (Wd rfl H (fun H=>?_) (fun H=>?_))))))))))
 ·refine Ws (Hp (.one 0 true (.one 1 true (.one 2 true (.one 3 true (.one 4 true (.one 5 false .done)))))) [101,103,105] [101,105] rfl (by kernel_rfl) rfl (by kernel_rfl) rfl rfl (fun _ h=>h) rfl rfl rfl (fun _ _ _ h=>h) fun FK NK wK K=>(Hr 5 tk rfl rfl rfl rfl tv (He 0 tk ek rfl rfl rfl rfl tv rfl rfl (WH.nil rfl (Qn (Wt (QT.r ?_)))))))
  cases H
  exact Ends.autoC tk rfl rfl rfl tv
 refine Wk (Qn (Ws (Hp (.one 0 true (.one 1 true (.one 2 true (.one 3 true (.one 4 true (.one 5 true (.one 6 true (.one 7 false .done)))))))) [101,103,105] [101,105] rfl (by kernel_rfl) rfl (by kernel_rfl) rfl rfl (fun _ h=>h) rfl rfl rfl (fun _ _ _ h=>h) fun FK NK wK K=>(Hr 7 tk rfl rfl rfl rfl tv (He 0 tk ek rfl rfl rfl rfl tv rfl rfl (WH.nil rfl (Qn (Wt ?_))))))))
 cases H
 exact Ends.autoC tk rfl rfl rfl tv
theorem fQ:aF Tryz.prog 42 Tryz.f42:=⟨Tryz.func42,rfl,by kernel_rfl⟩
end Go.Proofs.YtdebndfaknfefaaGreatDoor.W
