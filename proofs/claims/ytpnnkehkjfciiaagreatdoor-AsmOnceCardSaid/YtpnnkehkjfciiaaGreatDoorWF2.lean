/- Each Go function comes to what its plain function gives, where that gives something. -/
import Derived.Test.YtpnnkehkjfciiaaGreatDoorPF
import Derived.Test.YtpnnkehkjfciiaaGreatDoorSq
import Derived.Test.YtpnnkehkjfciiaaGreatDoorWF1
import Derived.Test.YtpnnkehkjfciiaaGreatDoorXErr
import Derived.Test.YtpnnkehkjfciiaaGreatDoorXInd
import Derived.Test.YtpnnkehkjfciiaaGreatDoorXRowl
import Derived.Test.YtpnnkehkjfciiaaGreatDoorXShelf
namespace Go.Proofs.YtpnnkehkjfciiaaGreatDoor.W
open Go Go.RowKit LJ
set_option linter.unusedVariables false
set_option linter.unusedSimpArgs false
set_option maxRecDepth 10000
theorem lY (a0:Int) {r:ByteArray} (H:dN a0=some r):LJ.Spec Tryz.prog 41 [.d (.int .i64 a0)] [] (.d (.str r)) []:=by
 refine LJ.Spec.code Tryz.func41 rfl 18 rfl rfl [] rfl fun w0 F0 S0 B0=>?_
 unfold dN at H
 refine G (R 1 rfl (NS (G (R 1 rfl (NQ (Wb (G (R 2 rfl (NQ (Wd rfl H (fun H=>?_) (fun H=>?_)))))))))))
 ·refine G (R 1 rfl (NQ (Wt (QB.r (QT.r ?_)))))
  cases H
  exact Ea rfl rfl rfl tv
 refine G (R 2 rfl (NQ (Wd rfl H (fun H=>?_) (fun H=>?_))))
 ·refine G (R 1 rfl (NQ (Wt (QB.r (QT.r ?_)))))
  cases H
  exact Ea rfl rfl rfl tv
 refine G (R 2 rfl (NQ (Wd rfl H (fun H=>?_) (fun H=>?_))))
 ·refine G (R 1 rfl (NQ (Wt (QB.r (QT.r ?_)))))
  cases H
  exact Ea rfl rfl rfl tv
 refine G (R 2 rfl (NQ (Wd rfl H (fun H=>?_) (fun H=>?_))))
 ·refine G (R 1 rfl (NQ (Wt (QB.r (QT.r ?_)))))
  cases H
  exact Ea rfl rfl rfl tv
 refine G (R 2 rfl (NQ (Wd rfl H (fun H=>?_) (fun H=>?_))))
 ·refine G (R 1 rfl (NQ (Wt (QB.r (QT.r ?_)))))
  cases H
  exact Ea rfl rfl rfl tv
 refine G (R 2 rfl (NQ (Wd rfl H (fun H=>?_) (fun H=>?_))))
 ·refine G (R 1 rfl (NQ (Wt (QB.r (QT.r ?_)))))
  cases H
  exact Ea rfl rfl rfl tv
 refine G (R 2 rfl (NQ (Wd rfl H (fun H=>?_) (fun H=>?_))))
 ·refine G (R 1 rfl (NQ (Wt (QB.r (QT.r ?_)))))
  cases H
  exact Ea rfl rfl rfl tv
 refine Wk (Qb (Qn ?_))
 refine G (R 1 rfl (NQ (Wt ?_)))
 cases H
 exact Ea rfl rfl rfl tv
theorem lZ:aE Tryz.prog 41 Tryz.f41:=⟨Tryz.func41,rfl,by kernel_rfl⟩
theorem iI (a0:Int) {r:Int} (H:fC a0=some r):LJ.Spec Tryz.prog 42 [.d (.int .i64 a0)] [] (.d (.int .i64 r)) []:=by
 refine LJ.Spec.code Tryz.func42 rfl 9 rfl rfl [] rfl fun w0 F0 S0 B0=>?_
 unfold fC at H
 refine G (R 1 rfl (NS (G (R 1 rfl (NQ (Wb (Ws (G (R 2 rfl (NQ (Wc rfl (fun h1=>?_) (fun h1=>?_))))))))))))
 ·replace H:=of_t H h1
  refine WC.known (g:=4) true rfl h1 (Wk (Qn (Wc rfl (fun h=>?_) (fun h=>absurd h (by decide)))))
  refine G (R 1 rfl (NQ (Wt (QB.r (QT.r ?_)))))
  cases H
  exact Ea rfl rfl rfl tv
 replace H:=of_f H h1
 refine Wg (R 2 rfl (NQ (Wd rfl H (fun H=>?_) (fun H=>?_))))
 ·refine G (R 1 rfl (NQ (Wt (QB.r (QT.r ?_)))))
  cases H
  exact Ea rfl rfl rfl tv
 refine G (R 2 rfl (NQ (Wd rfl H (fun H=>?_) (fun H=>?_))))
 ·refine G (R 1 rfl (NQ (Wt (QB.r (QT.r ?_)))))
  cases H
  exact Ea rfl rfl rfl tv
 refine Wk (Qb (Qn ?_))
 refine G (R 1 rfl (NQ (Wt ?_)))
 cases H
 exact Ea rfl rfl rfl tv
theorem iJ:aE Tryz.prog 42 Tryz.f42:=⟨Tryz.func42,rfl,by kernel_rfl⟩
def ρi:Go.Shelf.Ren:=⟨fun n=>cond (Nat.beq n 338) 127 (cond (Nat.beq n 337) 126 (cond (Nat.beq n 320) 117 (cond (Nat.beq n 319) 116 (cond (Nat.beq n 318) 115 (cond (Nat.beq n 317) 113 (cond (Nat.beq n 286) 103 (cond (Nat.beq n 285) 102 (cond (Nat.beq n 284) 101 (cond (Nat.beq n 283) 100 (cond (Nat.beq n 246) 85 (cond (Nat.beq n 243) 68 (cond (Nat.beq n 171) 44 (cond (Nat.beq n 129) 114 (0)))))))))))))),fun n=>cond (Nat.beq n 233) 182 (cond (Nat.beq n 232) 181 (cond (Nat.beq n 213) 150 (cond (Nat.beq n 212) 149 (cond (Nat.beq n 173) 135 (cond (Nat.beq n 171) 133 (cond (Nat.beq n 53) 117 (cond (Nat.beq n 51) 140 (cond (Nat.beq n 46) 127 (cond (Nat.beq n 37) 56 (cond (Nat.beq n 20) 20 (cond (Nat.beq n 9) 9 (cond (Nat.beq n 5) 5 (cond (Nat.beq n 4) 4 (cond (Nat.beq n 3) 3 (cond (Nat.beq n 2) 2 (cond (Nat.beq n 0) 0 (0))))))))))))))))),fun n=>cond (Nat.beq n 19) 9 (cond (Nat.beq n 18) 8 (cond (Nat.beq n 17) 3 (0)))⟩
set_option maxRecDepth 100000 in
theorem vv:Go.Proofs.Lays.n171 Tryz.prog ρi:=by
 constructor <;> first | kernel_rfl | (intro w;kernel_rfl) | (intro w;rfl)
set_option maxRecDepth 100000 in
theorem wW:Go.Proofs.LaysM.n171 Tryz.prog ρi:=by
 apply Go.Proofs.LaysM.n171.mk vv <;> kernel_rfl
theorem bq (a0:Int) {r:ByteArray} (H:strconv_Itoa a0=some r):LJ.Spec Tryz.prog 44 [.d (.int .i64 a0)] [] (.d (.str r)) []:=by
 unfold strconv_Itoa at H
 obtain ⟨g1,H⟩:=aq H
 cases H
 exact Spec.itoa wW g1 (by kernel_rfl)
theorem br:aE Tryz.prog 44 Tryz.f44:=⟨Tryz.func44,rfl,by kernel_rfl⟩
theorem gd (a0:List Int) {r:ByteArray} (H:dz a0=some r):LJ.Spec Tryz.prog 23 [.d (slT bN a0)] [] (.d (.str r)) []:=by
 refine LJ.Spec.code Tryz.func23 rfl 19 rfl rfl [] rfl fun w0 F0 S0 B0=>?_
 unfold dz at H
 refine G (R 1 rfl (N (R 1 rfl (NS (G (R 3 rfl (NQ (Wb (Wl (ι:= {x:Nat×(ByteArray×Int) //cD a0 x.1 x.2=some r}) (fun x=>[(3, .d (.str x.1.2.1)),(6, .d (slT bN a0)),(7, .d (.int .i64 (a0.length:Int))),(8, .d (.int .i64 x.1.2.2))]) (fun x=>[]) (fun x=>x.1.1) ⟨(fuel,(ByteArray.empty,0)),H⟩ (Lm p4 tv) fun x=>?_)))))))))
 obtain ⟨⟨k2,s1⟩,H⟩:=x
 rcases k2 with _ | k2
 ·exact aO H
 rw [cD] at H
 refine G (R 1 rfl (NS (Wd rfl H (fun H=>?_) (fun H=>?_))))
 ·refine Wk (Qn (Ws (Wb (G ?_))))
  obtain ⟨g4,H⟩:=aq H
  refine RS 3 rfl ⟨⟨(av g4).1,(av g4).2,rfl⟩,tv⟩ (NQ (Wg (R 2 rfl ?_)))
  obtain ⟨x5,hx5,H⟩:=ar H
  refine Cl [] (bq _ hx5) br rfl tv rfl ?_
  obtain ⟨g6,H⟩:=aq H
  obtain ⟨g7,H⟩:=aq H
  refine RS 3 rfl ⟨(bP g6),(bP g7),tv⟩ (Wn (Qb (Qn ?_)))
  exact Wg (R 2 rfl (NQ (⟨⟨(k2,(s1.1++((⟨#[32]⟩:ByteArray)++x5),IntKind.i64.wrap (s1.2+1))),H⟩,Z,Lm p4 tv⟩)))
 refine WC.exit (Qx (Qx (Qh (Qn ?_))))
 refine G (R 2 rfl (NQ (Wt ?_)))
 cases H
 exact Ea rfl rfl rfl tv
theorem gf:aE Tryz.prog 23 Tryz.f23:=⟨Tryz.func23,rfl,by kernel_rfl⟩
theorem pE (a0:af) {r:ByteArray} (H:fD a0=some r):LJ.Spec Tryz.prog 21 [.d (.agg [.int .i64 a0.Kind, .int .i64 a0.A, .int .i64 a0.B])] [] (.d (.str r)) []:=by
 refine LJ.Spec.code Tryz.func21 rfl 20 rfl rfl [] rfl fun w0 F0 S0 B0=>?_
 unfold fD at H
 refine G (Ef 101 rfl (R 1 rfl (N (R 4 rfl (Ef 108 rfl (WL.freezeT 108 bN ([a0.A,a0.B]:List Int) rfl rfl rfl rfl (R 1 rfl (NS (Hp (.one 0 true (.one 1 true (.one 4 true (.one 5 true (.one 6 true (.one 2 false (.one 3 true (.one 7 false (.one 8 true (.one 9 false (.one 10 true (.one 11 true .done)))))))))))) [101] [101] rfl (by kernel_rfl) rfl (by kernel_rfl) rfl rfl (fun _ h=>h) rfl rfl rfl (fun _ _ _ h=>h) fun FK NK wK K=>(Hr 5 tk rfl rfl rfl rfl tv ?_))))))))))
 obtain ⟨x1,hx1,H⟩:=ar H
 refine WH.call [] rfl (lY _ hx1) lZ rfl rfl tv rfl rfl rfl rfl rfl ?_
 obtain ⟨g2,H⟩:=aq H
 refine Hr 1 tk rfl rfl rfl rfl ⟨(bP g2),tv⟩ ?_
 obtain ⟨x3,hx3,H⟩:=ar H
 refine WH.call [] rfl (iI _ hx3) iJ rfl rfl tv rfl rfl rfl rfl rfl ?_
 obtain ⟨g4,H⟩:=aq H
 refine WH.yv rfl (LJ.Y.sliceT bN ([a0.A,a0.B]:List Int) tk rfl (fun _=>rfl) none (some (.tmp 16)) (0:Int) x3 rfl rfl ⟨_,rfl⟩ rfl rfl (lp g4)) rfl rfl rfl ?_
 obtain ⟨x5,hx5,H⟩:=ar H
 refine WH.call [] rfl (gd _ hx5) gf rfl rfl tv rfl rfl rfl rfl rfl ?_
 obtain ⟨g6,H⟩:=aq H
 refine Hr 2 tk rfl rfl rfl rfl ⟨(bP g6),tv⟩ (WH.nil rfl (Qn (Wt ?_)))
 cases H
 exact Ea rfl rfl rfl tv
theorem pF:aE Tryz.prog 21 Tryz.f21:=⟨Tryz.func21,rfl,by kernel_rfl⟩
theorem fc (a0:au) {r:au} (H:bo a0=some r):LJ.Spec Tryz.prog 40 [.ptr 0 0] [(0, .box 58 [.optp a0.addr 0 0, .own 1]),(1, .row 5 1 (b8 a0.buf))] (.tup []) [(1, .row 5 1 (b8 r.buf)),(0, .box 58 [.optp r.addr 0 0, .own 1])]:=by
 refine LJ.Spec.code Tryz.func40 rfl 20 rfl rfl [0] rfl fun w0 F0 S0 B0=>?_
 unfold bo at H
 refine G (R 4 rfl (WL.yv (LJ.Y.oeql rfl rfl rfl (by kernel_rfl)) rfl rfl rfl (NQ (Wd rfl H (fun H=>?_) (fun H=>?_)))))
 ·refine Wg (R 2 rfl (WL.yv (LJ.Y.toUns 58 rfl rfl rfl rfl (by kernel_rfl) (by kernel_rfl) (by kernel_rfl)) rfl rfl rfl (WL.yv (LJ.Y.noEsc rfl rfl Tryz.func67 (by kernel_rfl) (by kernel_rfl) (by kernel_rfl) (by kernel_rfl)) rfl rfl rfl (WL.yv (LJ.Y.fromUns 58 rfl rfl rfl (by kernel_rfl) (by kernel_rfl) (by kernel_rfl) (by kernel_rfl)) rfl rfl rfl (R 2 rfl (Ef 0 rfl (Wn ?_)))))))
  cases H
  exact Ends.auton rfl rfl rfl p2
 refine G (R 5 rfl (WL.yv (LJ.Y.oneq rfl rfl rfl (by kernel_rfl) (by kernel_rfl)) rfl rfl rfl (NQ (Wd rfl H (fun H=>?_) (fun H=>?_)))))
 ·exact aO H
 refine Wk ?_
 cases H
 exact Ends.auton rfl rfl rfl p2
theorem fe (n0 n1:Nat) (hn:ib [n0,n1]=true) (a0:au) {r:au} (H:bo a0=some r):LJ.Spec Tryz.prog 40 [.ptr n0 0] [(n0, .box 58 [.optp a0.addr n0 0, .own n1]),(n1, .row 5 1 (b8 a0.buf))] (.tup []) [(n1, .row 5 1 (b8 r.buf)),(n0, .box 58 [.optp r.addr n0 0, .own n1])]:=
 Spec.names [n0,n1] hn rfl rfl (fc a0 H)
theorem ff:aE Tryz.prog 40 Tryz.f40:=⟨Tryz.func40,rfl,by kernel_rfl⟩
theorem eK (a0:au) (a1:ByteArray) {r:Int×Unit×au} (H:ax a0 a1=some r):LJ.Spec Tryz.prog 20 [.ptr 0 0, .d (.str a1)] [(0, .box 58 [.optp a0.addr 0 0, .own 1]),(1, .row 5 1 (b8 a0.buf))] (.tup [.d (.int .i64 r.1), .d (.nili)]) [(1, .row 5 1 (b8 r.2.2.buf)),(0, .box 58 [.optp r.2.2.addr 0 0, .own 1])]:=by
 refine LJ.Spec.code Tryz.func20 rfl 19 rfl rfl [0] rfl fun w0 F0 S0 B0=>?_
 unfold ax at H
 refine G (R 2 rfl (N (R 1 rfl ?_)))
 obtain ⟨x1,hx1,H⟩:=ar H
 refine Cl [1] (fe 0 1 rfl _ hx1) ff rfl p2 rfl (N (R 6 rfl ?_))
 obtain ⟨g2,H⟩:=aq H
 refine WL.apps tk ya rfl rfl rfl (wm (bO g2)) (WL.row 1 (b8 (x1.buf++a1)) rfl (ox _ _).symm rfl (R 2 rfl (Ef 0 rfl (N (R 4 rfl (NQ (Wt ?_)))))))
 cases H
 exact Ea rfl rfl rfl p2
theorem aB (n0 n1:Nat) (hn:ib [n0,n1]=true) (a0:au) (a1:ByteArray) {r:Int×Unit×au} (H:ax a0 a1=some r):LJ.Spec Tryz.prog 20 [.ptr n0 0, .d (.str a1)] [(n0, .box 58 [.optp a0.addr n0 0, .own n1]),(n1, .row 5 1 (b8 a0.buf))] (.tup [.d (.int .i64 r.1), .d (.nili)]) [(n1, .row 5 1 (b8 r.2.2.buf)),(n0, .box 58 [.optp r.2.2.addr n0 0, .own n1])]:=
 Spec.names [n0,n1] hn rfl rfl (eK a0 a1 H)
theorem aC:aE Tryz.prog 20 Tryz.f20:=⟨Tryz.func20,rfl,by kernel_rfl⟩
theorem gg (a0:Int) {r:ByteArray} (H:ey a0=some r):LJ.Spec Tryz.prog 43 [.d (.int .i64 a0)] [] (.d (.str r)) []:=by
 refine LJ.Spec.code Tryz.func43 rfl 14 rfl rfl [] rfl fun w0 F0 S0 B0=>?_
 unfold ey at H
 refine G (R 1 rfl (NS (G (R 1 rfl (NQ (Wb (G (R 2 rfl (NQ (Wd rfl H (fun H=>?_) (fun H=>?_)))))))))))
 ·refine G (R 1 rfl (NQ (Wt (QB.r (QT.r ?_)))))
  cases H
  exact Ea rfl rfl rfl tv
 refine G (R 2 rfl (NQ (Wd rfl H (fun H=>?_) (fun H=>?_))))
 ·refine G (R 1 rfl (NQ (Wt (QB.r (QT.r ?_)))))
  cases H
  exact Ea rfl rfl rfl tv
 refine G (R 2 rfl (NQ (Wd rfl H (fun H=>?_) (fun H=>?_))))
 ·refine G (R 1 rfl (NQ (Wt (QB.r (QT.r ?_)))))
  cases H
  exact Ea rfl rfl rfl tv
 refine G (R 2 rfl (NQ (Wd rfl H (fun H=>?_) (fun H=>?_))))
 ·refine G (R 1 rfl (NQ (Wt (QB.r (QT.r ?_)))))
  cases H
  exact Ea rfl rfl rfl tv
 refine G (R 2 rfl (NQ (Wd rfl H (fun H=>?_) (fun H=>?_))))
 ·refine G (R 1 rfl (NQ (Wt (QB.r (QT.r ?_)))))
  cases H
  exact Ea rfl rfl rfl tv
 refine Wk (Qb (Qn ?_))
 refine G (R 1 rfl (NQ (Wt ?_)))
 cases H
 exact Ea rfl rfl rfl tv
theorem gh:aE Tryz.prog 43 Tryz.f43:=⟨Tryz.func43,rfl,by kernel_rfl⟩
def ρb:Go.Shelf.Ren:=⟨fun n=>cond (Nat.beq n 169) 25 0,fun n=>cond (Nat.beq n 127) 88 (cond (Nat.beq n 72) 58 (cond (Nat.beq n 70) 55 (cond (Nat.beq n 37) 56 (cond (Nat.beq n 9) 9 (cond (Nat.beq n 5) 5 (cond (Nat.beq n 3) 3 (cond (Nat.beq n 0) 0 (0)))))))),fun _=>0⟩
set_option maxRecDepth 100000 in
theorem wX:Go.Proofs.Lays.n169 Tryz.prog ρb:=by
 constructor <;> first | kernel_rfl | (intro w;kernel_rfl) | (intro w;rfl)
theorem xI:Go.Proofs.Builder.Extra Tryz.prog ρb:=by
 constructor <;> first | kernel_rfl | (intro w;kernel_rfl) | (intro w;rfl) | decide | (constructor <;> kernel_rfl)
theorem fH (a0:au) {r:ByteArray} (H:bb a0=some r):LJ.Spec Tryz.prog 25 [.ptr 0 0] [(0, .box 58 [.optp a0.addr 0 0, .own 1]),(1, .row 5 1 (b8 a0.buf))] (.d (.str r)) []:=by
 unfold bb at H
 cases H
 exact Spec.bldAny wX xI
theorem dE (n0 n1:Nat) (hn:ib [n0,n1]=true) (a0:au) {r:ByteArray} (H:bb a0=some r):LJ.Spec Tryz.prog 25 [.ptr n0 0] [(n0, .box 58 [.optp a0.addr n0 0, .own n1]),(n1, .row 5 1 (b8 a0.buf))] (.d (.str r)) []:=
 Spec.names [n0,n1] hn rfl rfl (fH a0 H)
theorem dF:aE Tryz.prog 25 Tryz.f25:=⟨Tryz.func25,rfl,by kernel_rfl⟩
theorem l5 (a0:List (List aa)) {r:ByteArray} (H:e9 a0=some r):LJ.Spec Tryz.prog 22 [.d (slT aw a0)] [] (.d (.str r)) []:=by
 refine LJ.Spec.code Tryz.func22 rfl 48 rfl rfl [] rfl fun w0 F0 S0 B0=>?_
 unfold e9 at H
 refine G (R 1 rfl (N (Wa 103 tk rfl rfl rfl (WL.nilP 103 0 103 rfl (WL.nilF 103 1 4031 5 1 rfl (WL.row 4031 (b8 ByteArray.empty) rfl rfl rfl (NS (G (R 3 rfl (NQ (Wb (Wl (ι:= {x:Nat×(Int×Bool×ByteArray) //cw a0 x.1 x.2=some r}) (fun x=>[(3, .ptr 103 0),(8, .d (slT aw a0)),(9, .d (.int .i64 (a0.length:Int))),(10, .d (.int .i64 x.1.2.1))]) (fun x=>[(103, .box 58 [.optp x.1.2.2.1 103 0, .own 4031]),(4031, .row 5 1 (b8 x.1.2.2.2))]) (fun x=>x.1.1) ⟨(fuel,(0,false,ByteArray.empty)),H⟩ (Lm p4 p2) fun x=>?_))))))))))))
 obtain ⟨⟨k2,s1⟩,H⟩:=x
 rcases k2 with _ | k2
 ·exact aO H
 rw [cw] at H
 refine G (R 1 rfl (NS (Wd rfl H (fun H=>?_) (fun H=>?_))))
 ·refine Wk (Qn ?_)
  obtain ⟨K4,hK4,H⟩:=du H
  refine WC.cut (fun E m=>∃ s5:Bool×ByteArray,K4 s5=some r∧gu E m [(3, .ptr 103 0),(8, .d (slT aw a0)),(9, .d (.int .i64 (a0.length:Int))),(10, .d (.int .i64 s1.1))] [(103, .box 58 [.optp s5.1 103 0, .own 4031]),(4031, .row 5 1 (b8 s5.2))]) ?_ ?_
  ·refine Wb (G ?_)
   obtain ⟨g6,H⟩:=aq H
   refine RS 5 rfl ⟨⟨(av g6).1,(av g6).2,rfl⟩,tv⟩ (NS (G (R 2 rfl (NQ (Wd rfl H (fun H=>?_) (fun H=>?_))))))
   ·refine Wg ?_
    obtain ⟨x8,hx8,H⟩:=ar H
    refine Cl [4031] (aB 103 4031 rfl _ _ hx8) aC rfl p2 rfl (N (R 3 rfl (NQ (Wb (Wl (ι:= {x:Nat×(Int×Bool×ByteArray) //bu a0 s1 K4 x.1 x.2=some r}) (fun x=>[(3, .ptr 103 0),(8, .d (slT aw a0)),(9, .d (.int .i64 (a0.length:Int))),(10, .d (.int .i64 s1.1)),(18, .d (slT aN (a0.getD s1.1.toNat default))),(19, .d (.int .i64 ((a0.getD s1.1.toNat default).length:Int))),(20, .d (.int .i64 x.1.2.1))]) (fun x=>[(103, .box 58 [.optp x.1.2.2.1 103 0, .own 4031]),(4031, .row 5 1 (b8 x.1.2.2.2))]) (fun x=>x.1.1) ⟨(fuel,(0,x8.2.2.addr,x8.2.2.buf)),H⟩ (Lm p7 p2) fun x=>?_)))))
    obtain ⟨⟨k10,s9⟩,H⟩:=x
    rcases k10 with _ | k10
    ·exact aO H
    rw [bu] at H
    refine G (R 1 rfl (NS (Wd rfl H (fun H=>?_) (fun H=>?_))))
    ·refine Wk (Qn (Ws (Wb (G ?_))))
     obtain ⟨g12,H⟩:=aq H
     refine RS 3 rfl ⟨⟨(av g12).1,(av g12).2,rfl⟩,tv⟩ (Wa 107 tk rfl rfl rfl (R 1 rfl (Ef 0 rfl (NS (G (R 2 rfl (NQ (Wd rfl H (fun H=>?_) (fun H=>?_)))))))))
     ·refine Wg ?_
      obtain ⟨x14,hx14,H⟩:=ar H
      refine Cl [4031] (aB 103 4031 rfl _ _ hx14) aC rfl p2 rfl (NS (Hp (.one 0 true (.one 1 true (.one 4 true (.one 5 true (.one 2 false (.one 3 true (.one 6 false (.one 7 true (.one 8 false .done))))))))) [103,107] [107] rfl (by kernel_rfl) rfl (by kernel_rfl) rfl rfl (fun _ h=>h) rfl rfl rfl (fun _ _ _ h=>h) fun FK NK wK K=>(Hr 4 tk rfl rfl rfl rfl tv ?_)))
      obtain ⟨x15,hx15,H⟩:=ar H
      refine WH.call [] rfl (gg _ hx15) gh rfl rfl tv rfl rfl rfl rfl rfl ?_
      obtain ⟨g16,H⟩:=aq H
      refine Hr 1 tk rfl rfl rfl rfl ⟨(bP g16),tv⟩ ?_
      obtain ⟨x17,hx17,H⟩:=ar H
      refine WH.call [] rfl (bq _ hx17) br rfl rfl tv rfl rfl rfl rfl rfl ?_
      obtain ⟨g18,H⟩:=aq H
      refine Hr 1 tk rfl rfl rfl rfl ⟨(bP g18),tv⟩ ?_
      obtain ⟨x19,hx19,H⟩:=ar H
      refine WH.call [4031] rfl (aB 103 4031 rfl _ _ hx19) aC rfl rfl p2 rfl rfl rfl rfl rfl (WH.nil rfl (Qn (G (R 2 rfl ?_))))
      obtain ⟨x20,hx20,H⟩:=ar H
      refine Cl [] (aL _ hx20) aM rfl tv rfl (NQ (Wd rfl H (fun H=>?_) (fun H=>?_)))
      ·refine Wg (R 2 rfl ?_)
       obtain ⟨x22,hx22,H⟩:=ar H
       refine Cl [] (bq _ hx22) br rfl tv rfl ?_
       obtain ⟨g23,H⟩:=aq H
       refine RS 1 rfl ⟨(bP g23),tv⟩ ?_
       obtain ⟨x24,hx24,H⟩:=ar H
       refine Cl [4031] (aB 103 4031 rfl _ _ hx24) aC rfl p2 rfl (Wn (Qb (Qn ?_)))
       exact Wg (R 2 rfl (NQ (⟨⟨(k10,(IntKind.i64.wrap (s9.1+1),x24.2.2.addr,x24.2.2.buf)),H⟩,Z,Lm p7 p2⟩)))
      refine Wk (Qb (Qn ?_))
      exact Wg (R 2 rfl (NQ (⟨⟨(k10,(IntKind.i64.wrap (s9.1+1),x19.2.2.addr,x19.2.2.buf)),H⟩,Z,Lm p7 p2⟩)))
     refine Wk (Qn (Ws (Hp (.one 0 true (.one 1 true (.one 4 true (.one 5 true (.one 2 false (.one 3 true (.one 6 false (.one 7 true (.one 8 false .done))))))))) [103,107] [107] rfl (by kernel_rfl) rfl (by kernel_rfl) rfl rfl (fun _ h=>h) rfl rfl rfl (fun _ _ _ h=>h) fun FK NK wK K=>(Hr 4 tk rfl rfl rfl rfl tv ?_))))
     obtain ⟨x25,hx25,H⟩:=ar H
     refine WH.call [] rfl (gg _ hx25) gh rfl rfl tv rfl rfl rfl rfl rfl ?_
     obtain ⟨g26,H⟩:=aq H
     refine Hr 1 tk rfl rfl rfl rfl ⟨(bP g26),tv⟩ ?_
     obtain ⟨x27,hx27,H⟩:=ar H
     refine WH.call [] rfl (bq _ hx27) br rfl rfl tv rfl rfl rfl rfl rfl ?_
     obtain ⟨g28,H⟩:=aq H
     refine Hr 1 tk rfl rfl rfl rfl ⟨(bP g28),tv⟩ ?_
     obtain ⟨x29,hx29,H⟩:=ar H
     refine WH.call [4031] rfl (aB 103 4031 rfl _ _ hx29) aC rfl rfl p2 rfl rfl rfl rfl rfl (WH.nil rfl (Qn (G (R 2 rfl ?_))))
     obtain ⟨x30,hx30,H⟩:=ar H
     refine Cl [] (aL _ hx30) aM rfl tv rfl (NQ (Wd rfl H (fun H=>?_) (fun H=>?_)))
     ·refine Wg (R 2 rfl ?_)
      obtain ⟨x32,hx32,H⟩:=ar H
      refine Cl [] (bq _ hx32) br rfl tv rfl ?_
      obtain ⟨g33,H⟩:=aq H
      refine RS 1 rfl ⟨(bP g33),tv⟩ ?_
      obtain ⟨x34,hx34,H⟩:=ar H
      refine Cl [4031] (aB 103 4031 rfl _ _ hx34) aC rfl p2 rfl (Wn (Qb (Qn ?_)))
      exact Wg (R 2 rfl (NQ (⟨⟨(k10,(IntKind.i64.wrap (s9.1+1),x34.2.2.addr,x34.2.2.buf)),H⟩,Z,Lm p7 p2⟩)))
     refine Wk (Qb (Qn ?_))
     exact Wg (R 2 rfl (NQ (⟨⟨(k10,(IntKind.i64.wrap (s9.1+1),x29.2.2.addr,x29.2.2.buf)),H⟩,Z,Lm p7 p2⟩)))
    refine WC.exit (Qx (Qx (Qh (Qb (Qn ?_)))))
    exact ⟨(s9.2.1,s9.2.2),H,Lw q4 p2⟩
   refine Wk (Qn (G (R 3 rfl (NQ (Wb (Wl (ι:= {x:Nat×(Int×Bool×ByteArray) //bw a0 s1 K4 x.1 x.2=some r}) (fun x=>[(3, .ptr 103 0),(8, .d (slT aw a0)),(9, .d (.int .i64 (a0.length:Int))),(10, .d (.int .i64 s1.1)),(18, .d (slT aN (a0.getD s1.1.toNat default))),(19, .d (.int .i64 ((a0.getD s1.1.toNat default).length:Int))),(20, .d (.int .i64 x.1.2.1))]) (fun x=>[(103, .box 58 [.optp x.1.2.2.1 103 0, .own 4031]),(4031, .row 5 1 (b8 x.1.2.2.2))]) (fun x=>x.1.1) ⟨(fuel,(0,s1.2.1,s1.2.2)),H⟩ (Lm p7 p2) fun x=>?_))))))
   obtain ⟨⟨k36,s35⟩,H⟩:=x
   rcases k36 with _ | k36
   ·exact aO H
   rw [bw] at H
   refine G (R 1 rfl (NS (Wd rfl H (fun H=>?_) (fun H=>?_))))
   ·refine Wk (Qn (Ws (Wb (G ?_))))
    obtain ⟨g38,H⟩:=aq H
    refine RS 3 rfl ⟨⟨(av g38).1,(av g38).2,rfl⟩,tv⟩ (Wa 107 tk rfl rfl rfl (R 1 rfl (Ef 0 rfl (NS (G (R 2 rfl (NQ (Wd rfl H (fun H=>?_) (fun H=>?_)))))))))
    ·refine Wg ?_
     obtain ⟨x40,hx40,H⟩:=ar H
     refine Cl [4031] (aB 103 4031 rfl _ _ hx40) aC rfl p2 rfl (NS (Hp (.one 0 true (.one 1 true (.one 4 true (.one 5 true (.one 2 false (.one 3 true (.one 6 false (.one 7 true (.one 8 false .done))))))))) [103,107] [107] rfl (by kernel_rfl) rfl (by kernel_rfl) rfl rfl (fun _ h=>h) rfl rfl rfl (fun _ _ _ h=>h) fun FK NK wK K=>(Hr 4 tk rfl rfl rfl rfl tv ?_)))
     obtain ⟨x41,hx41,H⟩:=ar H
     refine WH.call [] rfl (gg _ hx41) gh rfl rfl tv rfl rfl rfl rfl rfl ?_
     obtain ⟨g42,H⟩:=aq H
     refine Hr 1 tk rfl rfl rfl rfl ⟨(bP g42),tv⟩ ?_
     obtain ⟨x43,hx43,H⟩:=ar H
     refine WH.call [] rfl (bq _ hx43) br rfl rfl tv rfl rfl rfl rfl rfl ?_
     obtain ⟨g44,H⟩:=aq H
     refine Hr 1 tk rfl rfl rfl rfl ⟨(bP g44),tv⟩ ?_
     obtain ⟨x45,hx45,H⟩:=ar H
     refine WH.call [4031] rfl (aB 103 4031 rfl _ _ hx45) aC rfl rfl p2 rfl rfl rfl rfl rfl (WH.nil rfl (Qn (G (R 2 rfl ?_))))
     obtain ⟨x46,hx46,H⟩:=ar H
     refine Cl [] (aL _ hx46) aM rfl tv rfl (NQ (Wd rfl H (fun H=>?_) (fun H=>?_)))
     ·refine Wg (R 2 rfl ?_)
      obtain ⟨x48,hx48,H⟩:=ar H
      refine Cl [] (bq _ hx48) br rfl tv rfl ?_
      obtain ⟨g49,H⟩:=aq H
      refine RS 1 rfl ⟨(bP g49),tv⟩ ?_
      obtain ⟨x50,hx50,H⟩:=ar H
      refine Cl [4031] (aB 103 4031 rfl _ _ hx50) aC rfl p2 rfl (Wn (Qb (Qn ?_)))
      exact Wg (R 2 rfl (NQ (⟨⟨(k36,(IntKind.i64.wrap (s35.1+1),x50.2.2.addr,x50.2.2.buf)),H⟩,Z,Lm p7 p2⟩)))
     refine Wk (Qb (Qn ?_))
     exact Wg (R 2 rfl (NQ (⟨⟨(k36,(IntKind.i64.wrap (s35.1+1),x45.2.2.addr,x45.2.2.buf)),H⟩,Z,Lm p7 p2⟩)))
    refine Wk (Qn (Ws (Hp (.one 0 true (.one 1 true (.one 4 true (.one 5 true (.one 2 false (.one 3 true (.one 6 false (.one 7 true (.one 8 false .done))))))))) [103,107] [107] rfl (by kernel_rfl) rfl (by kernel_rfl) rfl rfl (fun _ h=>h) rfl rfl rfl (fun _ _ _ h=>h) fun FK NK wK K=>(Hr 4 tk rfl rfl rfl rfl tv ?_))))
    obtain ⟨x51,hx51,H⟩:=ar H
    refine WH.call [] rfl (gg _ hx51) gh rfl rfl tv rfl rfl rfl rfl rfl ?_
    obtain ⟨g52,H⟩:=aq H
    refine Hr 1 tk rfl rfl rfl rfl ⟨(bP g52),tv⟩ ?_
    obtain ⟨x53,hx53,H⟩:=ar H
    refine WH.call [] rfl (bq _ hx53) br rfl rfl tv rfl rfl rfl rfl rfl ?_
    obtain ⟨g54,H⟩:=aq H
    refine Hr 1 tk rfl rfl rfl rfl ⟨(bP g54),tv⟩ ?_
    obtain ⟨x55,hx55,H⟩:=ar H
    refine WH.call [4031] rfl (aB 103 4031 rfl _ _ hx55) aC rfl rfl p2 rfl rfl rfl rfl rfl (WH.nil rfl (Qn (G (R 2 rfl ?_))))
    obtain ⟨x56,hx56,H⟩:=ar H
    refine Cl [] (aL _ hx56) aM rfl tv rfl (NQ (Wd rfl H (fun H=>?_) (fun H=>?_)))
    ·refine Wg (R 2 rfl ?_)
     obtain ⟨x58,hx58,H⟩:=ar H
     refine Cl [] (bq _ hx58) br rfl tv rfl ?_
     obtain ⟨g59,H⟩:=aq H
     refine RS 1 rfl ⟨(bP g59),tv⟩ ?_
     obtain ⟨x60,hx60,H⟩:=ar H
     refine Cl [4031] (aB 103 4031 rfl _ _ hx60) aC rfl p2 rfl (Wn (Qb (Qn ?_)))
     exact Wg (R 2 rfl (NQ (⟨⟨(k36,(IntKind.i64.wrap (s35.1+1),x60.2.2.addr,x60.2.2.buf)),H⟩,Z,Lm p7 p2⟩)))
    refine Wk (Qb (Qn ?_))
    exact Wg (R 2 rfl (NQ (⟨⟨(k36,(IntKind.i64.wrap (s35.1+1),x55.2.2.addr,x55.2.2.buf)),H⟩,Z,Lm p7 p2⟩)))
   refine WC.exit (Qx (Qx (Qh (Qb (Qn ?_)))))
   exact ⟨(s35.2.1,s35.2.2),H,Lw q4 p2⟩
  ·rintro E m ⟨s5,H,hl⟩
   refine WC.lessW hl ?_
   replace H:=(hK4 _).symm.trans H
   try dsimp only at H
   exact Wg (R 2 rfl (NQ (⟨⟨(k2,(IntKind.i64.wrap (s1.1+1),s5.1,s5.2)),H⟩,Z,Lm p4 p2⟩)))
 refine WC.exit (Qx (Qx (Qh (Qn ?_))))
 refine G ?_
 obtain ⟨x61,hx61,H⟩:=ar H
 refine Cl [] (dE 103 4031 rfl _ hx61) dF rfl p2 rfl (R 1 rfl (NQ (Wt ?_)))
 cases H
 exact Ea rfl rfl rfl tv
theorem l6:aE Tryz.prog 22 Tryz.f22:=⟨Tryz.func22,rfl,by kernel_rfl⟩
theorem nd (a0:ao) {r:ByteArray} (H:gZ a0=some r):LJ.Spec Tryz.prog 24 [.d (.agg [.int .i64 a0.Op, .int .i64 a0.A, .int .i64 a0.B])] [] (.d (.str r)) []:=by
 refine LJ.Spec.code Tryz.func24 rfl 20 rfl rfl [] rfl fun w0 F0 S0 B0=>?_
 unfold gZ at H
 refine G (Ef 101 rfl (R 1 rfl (N (R 4 rfl (Ef 108 rfl (WL.freezeT 108 bN ([a0.A,a0.B]:List Int) rfl rfl rfl rfl (R 1 rfl (NS (Hp (.one 0 true (.one 1 true (.one 3 true (.one 4 true (.one 5 true (.one 2 false (.one 6 false (.one 7 true (.one 8 true (.one 9 false (.one 10 true (.one 11 true .done)))))))))))) [101] [101] rfl (by kernel_rfl) rfl (by kernel_rfl) rfl rfl (fun _ h=>h) rfl rfl rfl (fun _ _ _ h=>h) fun FK NK wK K=>(Hr 5 tk rfl rfl rfl rfl tv ?_))))))))))
 obtain ⟨x1,hx1,H⟩:=ar H
 refine WH.call [] rfl (pC _ hx1) pD rfl rfl tv rfl rfl rfl rfl rfl ?_
 obtain ⟨x2,hx2,H⟩:=ar H
 refine WH.call [] rfl (gQ _ hx2) gR rfl rfl tv rfl rfl rfl rfl rfl (Hr 1 tk rfl rfl rfl rfl tv ?_)
 obtain ⟨g3,H⟩:=aq H
 refine WH.yv rfl (LJ.Y.sliceT bN ([a0.A,a0.B]:List Int) tk rfl (fun _=>rfl) none (some (.tmp 16)) (0:Int) (x2.size:Int) rfl rfl ⟨_,rfl⟩ rfl rfl (lp g3)) rfl rfl rfl ?_
 obtain ⟨x4,hx4,H⟩:=ar H
 refine WH.call [] rfl (gd _ hx4) gf rfl rfl tv rfl rfl rfl rfl rfl ?_
 obtain ⟨g5,H⟩:=aq H
 refine Hr 2 tk rfl rfl rfl rfl ⟨(bP g5),tv⟩ (WH.nil rfl (Qn (Wt ?_)))
 cases H
 exact Ea rfl rfl rfl tv
theorem nf:aE Tryz.prog 24 Tryz.f24:=⟨Tryz.func24,rfl,by kernel_rfl⟩
theorem jU (a0:ab) {r:ByteArray×Int} (H:fj a0=some r):LJ.Spec Tryz.prog 8 [.d (.agg [slT ai a0.Decls,slT ae a0.Waits,slT ak a0.Funcs])] [] (.tup [.d (.str r.1), .d (.int .i64 r.2)]) []:=by
 refine LJ.Spec.code Tryz.func8 rfl 75 rfl rfl [] rfl fun w0 F0 S0 B0=>?_
 unfold fj at H
 refine G (Ef 101 rfl (R 2 rfl (NS (G (R 1 rfl ?_)))))
 obtain ⟨x1,hx1,H⟩:=ar H
 refine Cl [] (kl _ hx1) km rfl tv rfl (R 1 rfl (N (R 2 rfl (NQ (Wd rfl H (fun H=>?_) (fun H=>?_))))))
 ·refine G (R 3 rfl (NQ (Wt (QT.r ?_))))
  cases H
  exact Ea rfl rfl rfl tv
 refine Wk (Qn (G (Wa 105 tk rfl rfl rfl (WL.nilP 105 0 105 rfl (WL.nilF 105 1 4051 5 1 rfl (WL.row 4051 (b8 ByteArray.empty) rfl rfl rfl (NS (G (R 4 rfl (NQ (Wb (Wl (ι:= {x:Nat×(Int×Bool×ByteArray) //dA a0 x.1 x.2=some r}) (fun x=>[(1, .ptr 101 0),(5, .ptr 105 0),(20, .d (slT ai a0.Decls)),(21, .d (.int .i64 (a0.Decls.length:Int))),(22, .d (.int .i64 x.1.2.1))]) (fun x=>[(101, .box 26 [.d (slT ai a0.Decls), .d (slT ae a0.Waits), .d (slT ak a0.Funcs)]),(105, .box 58 [.optp x.1.2.2.1 105 0, .own 4051]),(4051, .row 5 1 (b8 x.1.2.2.2))]) (fun x=>x.1.1) ⟨(fuel,(0,false,ByteArray.empty)),H⟩ (Lm p5 p3) fun x=>?_))))))))))))
 obtain ⟨⟨k4,s3⟩,H⟩:=x
 rcases k4 with _ | k4
 ·exact aO H
 rw [dA] at H
 refine G (R 1 rfl (NS (Wd rfl H (fun H=>?_) (fun H=>?_))))
 ·refine Wk (Qn (Ws (Wb (G ?_))))
  obtain ⟨g6,H⟩:=aq H
  refine RS 2 rfl ⟨⟨(av g6).1,(av g6).2,rfl⟩,tv⟩ (Wa 107 tk rfl rfl rfl (Ef 0 rfl (NQ (Wg (R 1 rfl ?_)))))
  obtain ⟨x7,hx7,H⟩:=ar H
  refine Cl [] (pE _ hx7) pF rfl tv rfl ?_
  obtain ⟨g8,H⟩:=aq H
  refine RS 1 rfl ⟨(bP g8),tv⟩ ?_
  obtain ⟨x9,hx9,H⟩:=ar H
  refine Cl [4051] (aB 105 4051 rfl _ _ hx9) aC rfl p2 rfl (Wn (Qb (Qn ?_)))
  exact Wg (R 2 rfl (NQ (⟨⟨(k4,(IntKind.i64.wrap (s3.1+1),x9.2.2.addr,x9.2.2.buf)),H⟩,Z,Lm p5 p3⟩)))
 refine WC.exit (Qx (Qx (Qh (Qn ?_))))
 refine Ws (G (R 4 rfl (NQ (Wb (Wl (ι:= {x:Nat×(Int×Bool×ByteArray) //dj a0 x.1 x.2=some r}) (fun x=>[(1, .ptr 101 0),(5, .ptr 105 0),(32, .d (slT ae a0.Waits)),(33, .d (.int .i64 (a0.Waits.length:Int))),(34, .d (.int .i64 x.1.2.1))]) (fun x=>[(101, .box 26 [.d (slT ai a0.Decls), .d (slT ae a0.Waits), .d (slT ak a0.Funcs)]),(105, .box 58 [.optp x.1.2.2.1 105 0, .own 4051]),(4051, .row 5 1 (b8 x.1.2.2.2))]) (fun x=>x.1.1) ⟨(fuel,(0,s3.2.1,s3.2.2)),H⟩ (Lm p5 p3) fun x=>?_)))))
 obtain ⟨⟨k11,s10⟩,H⟩:=x
 rcases k11 with _ | k11
 ·exact aO H
 rw [dj] at H
 refine G (R 1 rfl (NS (Wd rfl H (fun H=>?_) (fun H=>?_))))
 ·refine Wk (Qn (Ws (Wb (G ?_))))
  obtain ⟨g13,H⟩:=aq H
  refine RS 3 rfl ⟨⟨(av g13).1,(av g13).2,rfl⟩,tv⟩ (NQ (Wg (R 1 rfl ?_)))
  obtain ⟨x14,hx14,H⟩:=ar H
  refine Cl [] (l5 _ hx14) l6 rfl tv rfl ?_
  obtain ⟨g15,H⟩:=aq H
  obtain ⟨g16,H⟩:=aq H
  refine RS 2 rfl ⟨(bP g15),(bP g16),tv⟩ ?_
  obtain ⟨x17,hx17,H⟩:=ar H
  refine Cl [4051] (aB 105 4051 rfl _ _ hx17) aC rfl p2 rfl (Wn (Qb (Qn ?_)))
  exact Wg (R 2 rfl (NQ (⟨⟨(k11,(IntKind.i64.wrap (s10.1+1),x17.2.2.addr,x17.2.2.buf)),H⟩,Z,Lm p5 p3⟩)))
 refine WC.exit (Qx (Qx (Qh (Qn ?_))))
 refine Ws (G (R 4 rfl (NQ (Wb (Wl (ι:= {x:Nat×(Int×Bool×ByteArray) //cM a0 x.1 x.2=some r}) (fun x=>[(5, .ptr 105 0),(45, .d (slT ak a0.Funcs)),(46, .d (.int .i64 (a0.Funcs.length:Int))),(47, .d (.int .i64 x.1.2.1))]) (fun x=>[(105, .box 58 [.optp x.1.2.2.1 105 0, .own 4051]),(4051, .row 5 1 (b8 x.1.2.2.2))]) (fun x=>x.1.1) ⟨(fuel,(0,s10.2.1,s10.2.2)),H⟩ (Lm p4 p2) fun x=>?_)))))
 obtain ⟨⟨k19,s18⟩,H⟩:=x
 rcases k19 with _ | k19
 ·exact aO H
 rw [cM] at H
 refine G (R 1 rfl (NS (Wd rfl H (fun H=>?_) (fun H=>?_))))
 ·refine Wk (Qn ?_)
  obtain ⟨K21,hK21,H⟩:=du H
  refine WC.cut (fun E m=>∃ s22:Bool×ByteArray,K21 s22=some r∧gu E m [(5, .ptr 105 0),(45, .d (slT ak a0.Funcs)),(46, .d (.int .i64 (a0.Funcs.length:Int))),(47, .d (.int .i64 s18.1))] [(105, .box 58 [.optp s22.1 105 0, .own 4051]),(4051, .row 5 1 (b8 s22.2))]) ?_ ?_
  ·refine Wb (G ?_)
   obtain ⟨g23,H⟩:=aq H
   refine RS 2 rfl ⟨⟨(av g23).1,(av g23).2,rfl⟩,tv⟩ (Wa 111 tk rfl rfl rfl (Ef 0 rfl (N (R 4 rfl (Ef 155 rfl (WL.freezeT 155 bN ([(a0.Funcs.getD s18.1.toNat default).Args,(a0.Funcs.getD s18.1.toNat default).Locals]:List Int) rfl rfl rfl rfl ?_))))))
   obtain ⟨x24,hx24,H⟩:=ar H
   refine Cl [] (gd _ hx24) gf rfl tv rfl ?_
   obtain ⟨g25,H⟩:=aq H
   obtain ⟨g26,H⟩:=aq H
   refine RS 2 rfl ⟨(bP g25),(bP g26),tv⟩ ?_
   obtain ⟨x27,hx27,H⟩:=ar H
   refine Cl [4051] (aB 105 4051 rfl _ _ hx27) aC rfl p2 rfl (N (R 4 rfl (NQ (Wb (Wl (ι:= {x:Nat×(Int×Bool×ByteArray) //di a0 s18 K21 x.1 x.2=some r}) (fun x=>[(5, .ptr 105 0),(45, .d (slT ak a0.Funcs)),(46, .d (.int .i64 (a0.Funcs.length:Int))),(47, .d (.int .i64 s18.1)),(61, .d (slT ay ((a0.Funcs.getD s18.1.toNat default).Code))),(62, .d (.int .i64 (((a0.Funcs.getD s18.1.toNat default).Code).length:Int))),(63, .d (.int .i64 x.1.2.1))]) (fun x=>[(105, .box 58 [.optp x.1.2.2.1 105 0, .own 4051]),(4051, .row 5 1 (b8 x.1.2.2.2))]) (fun x=>x.1.1) ⟨(fuel,(0,x27.2.2.addr,x27.2.2.buf)),H⟩ (Lm p7 p2) fun x=>?_)))))
   obtain ⟨⟨k29,s28⟩,H⟩:=x
   rcases k29 with _ | k29
   ·exact aO H
   rw [di] at H
   refine G (R 1 rfl (NS (Wd rfl H (fun H=>?_) (fun H=>?_))))
   ·refine Wk (Qn (Ws (Wb (G ?_))))
    obtain ⟨g31,H⟩:=aq H
    refine RS 2 rfl ⟨⟨(av g31).1,(av g31).2,rfl⟩,tv⟩ (Wa 113 tk rfl rfl rfl (Ef 0 rfl (NQ (Wg (R 1 rfl ?_)))))
    obtain ⟨x32,hx32,H⟩:=ar H
    refine Cl [] (nd _ hx32) nf rfl tv rfl ?_
    obtain ⟨g33,H⟩:=aq H
    obtain ⟨g34,H⟩:=aq H
    refine RS 2 rfl ⟨(bP g33),(bP g34),tv⟩ ?_
    obtain ⟨x35,hx35,H⟩:=ar H
    refine Cl [4051] (aB 105 4051 rfl _ _ hx35) aC rfl p2 rfl (Wn (Qb (Qn ?_)))
    exact Wg (R 2 rfl (NQ (⟨⟨(k29,(IntKind.i64.wrap (s28.1+1),x35.2.2.addr,x35.2.2.buf)),H⟩,Z,Lm p7 p2⟩)))
   refine WC.exit (Qx (Qx (Qh (Qb (Qn ?_)))))
   exact ⟨(s28.2.1,s28.2.2),H,Lw q4 p2⟩
  ·rintro E m ⟨s22,H,hl⟩
   refine WC.lessW hl ?_
   replace H:=(hK21 _).symm.trans H
   try dsimp only at H
   exact Wg (R 2 rfl (NQ (⟨⟨(k19,(IntKind.i64.wrap (s18.1+1),s22.1,s22.2)),H⟩,Z,Lm p4 p2⟩)))
 refine WC.exit (Qx (Qx (Qh (Qn ?_))))
 refine G ?_
 obtain ⟨x36,hx36,H⟩:=ar H
 refine Cl [] (dE 105 4051 rfl _ hx36) dF rfl p2 rfl (R 2 rfl (NQ (Wt ?_)))
 cases H
 exact Ea rfl rfl rfl tv
theorem jV:aE Tryz.prog 8 Tryz.f8:=⟨Tryz.func8,rfl,by kernel_rfl⟩
theorem sc (a0:ao) {r:ByteArray} (H:kR a0=some r):LJ.Spec Tryz.prog 9 [.d (.agg [.int .i64 a0.Op, .int .i64 a0.A, .int .i64 a0.B])] [] (.d (.str r)) []:=by
 refine LJ.Spec.code Tryz.func9 rfl 8 rfl rfl [] rfl fun w0 F0 S0 B0=>?_
 unfold kR at H
 refine G (Ef 101 rfl (R 1 rfl (NS (G (R 1 rfl ?_)))))
 obtain ⟨x1,hx1,H⟩:=ar H
 refine Cl [] (lU _ hx1) lV rfl tv rfl (R 1 rfl (NQ (Wd rfl H (fun H=>?_) (fun H=>?_))))
 ·refine G (R 1 rfl (NQ (Wt (QT.r ?_))))
  cases H
  exact Ea rfl rfl rfl tv
 refine Wk (Qn (G (R 1 rfl ?_)))
 obtain ⟨x3,hx3,H⟩:=ar H
 refine Cl [] (nd _ hx3) nf rfl tv rfl (R 1 rfl (NQ (Wt ?_)))
 cases H
 exact Ea rfl rfl rfl tv
theorem se:aE Tryz.prog 9 Tryz.f9:=⟨Tryz.func9,rfl,by kernel_rfl⟩
def ρx:Go.Shelf.Ren:=⟨fun n=>cond (Nat.beq n 314) 106 (cond (Nat.beq n 267) 91 (cond (Nat.beq n 266) 105 (cond (Nat.beq n 225) 89 (cond (Nat.beq n 224) 90 (cond (Nat.beq n 219) 73 (cond (Nat.beq n 217) 88 (0))))))),fun n=>cond (Nat.beq n 146) 143 (cond (Nat.beq n 51) 140 (cond (Nat.beq n 46) 127 (cond (Nat.beq n 9) 9 (cond (Nat.beq n 5) 5 (cond (Nat.beq n 4) 4 (cond (Nat.beq n 3) 3 (0))))))),fun n=>cond (Nat.beq n 1) 1 (0)⟩
set_option maxRecDepth 100000 in
theorem wY:Go.Proofs.Lays.n219 Tryz.prog ρx:=by
 constructor <;> first | kernel_rfl | (intro w;kernel_rfl) | (intro w;rfl)
theorem eN (a0 a1:ByteArray) {r:Int} (H:bx a0 a1=some r):LJ.Spec Tryz.prog 73 [.d (.str a0), .d (.str a1)] [] (.d (.int .i64 r)) []:=by
 unfold bx at H
 obtain ⟨g1,H⟩:=aq H
 cases H
 exact Spec.indexL wY (by kernel_rfl) g1
theorem eO:aE Tryz.prog 73 Tryz.f73:=⟨Tryz.func73,rfl,by kernel_rfl⟩
theorem jA (a0:ByteArray) (a1:ByteArray) {r:ByteArray×ByteArray×Bool} (H:cY a0 a1=some r):LJ.Spec Tryz.prog 57 [.d (.str a0), .d (.str a1)] [] (.tup [.d (.str r.1), .d (.str r.2.1), .d (.bool r.2.2)]) []:=by
 refine LJ.Spec.code Tryz.func57 rfl 23 rfl rfl [] rfl fun w0 F0 S0 B0=>?_
 unfold cY at H
 refine G (R 3 rfl (NS (G (R 2 rfl ?_))))
 obtain ⟨x1,hx1,H⟩:=ar H
 refine Cl [] (eN _ _ hx1) eO rfl tv rfl (R 1 rfl (N (R 2 rfl (NQ (Wd rfl H (fun H=>?_) (fun H=>?_))))))
 ·refine Ws (Hp (.one 0 true (.one 1 true (.one 2 true (.one 3 true (.one 4 true (.one 5 true (.one 6 true (.one 7 true (.one 8 true (.one 9 true (.one 10 true (.one 11 true .done)))))))))))) [] [] rfl (by kernel_rfl) rfl (by kernel_rfl) rfl rfl (fun _ h=>h) rfl rfl rfl (fun _ _ _ h=>h) fun FK NK wK K=>?_)
  obtain ⟨g3,H⟩:=aq H
  obtain ⟨g4,H⟩:=aq H
  refine Hr 12 tk rfl rfl rfl rfl ⟨(ll g3),(ll g4),tv⟩ (WH.nil rfl (Qn (Wt (QT.r ?_))))
  cases H
  exact Ea rfl rfl rfl tv
 refine Wk (Qn (G (R 4 rfl (NQ (Wt ?_)))))
 cases H
 exact Ea rfl rfl rfl tv
theorem jB:aE Tryz.prog 57 Tryz.f57:=⟨Tryz.func57,rfl,by kernel_rfl⟩
theorem eT (a0:ByteArray) (a1:ByteArray) {r:ByteArray×ByteArray×Bool} (H:cd a0 a1=some r):LJ.Spec Tryz.prog 32 [.d (.str a0), .d (.str a1)] [] (.tup [.d (.str r.1), .d (.str r.2.1), .d (.bool r.2.2)]) []:=by
 refine LJ.Spec.code Tryz.func32 rfl 13 rfl rfl [] rfl fun w0 F0 S0 B0=>?_
 unfold cd at H
 refine G (R 3 rfl (N (R 2 rfl ?_)))
 obtain ⟨x1,hx1,H⟩:=ar H
 refine Cl [] (jA _ _ hx1) jB rfl tv rfl (R 6 rfl (NQ (Wt ?_)))
 cases H
 exact Ea rfl rfl rfl tv
theorem eU:aE Tryz.prog 32 Tryz.f32:=⟨Tryz.func32,rfl,by kernel_rfl⟩
theorem dG (a0:ByteArray) (a1:ByteArray) {r:Bool} (H:bm a0 a1=some r):LJ.Spec Tryz.prog 92 [.d (.str a0), .d (.str a1)] [] (.d (.bool r)) []:=by
 refine LJ.Spec.code Tryz.func92 rfl 18 rfl rfl [] rfl fun w0 F0 S0 B0=>?_
 unfold bm at H
 refine G (R 1 rfl (N (R 6 rfl ?_)))
 obtain ⟨g1,H⟩:=en H
 refine Wx 6 5 true tk sg0 rfl rfl (fun hb=>⟨(ll (g1 hb)),tv⟩) (RS 2 rfl ⟨by first | exact id | exact fun h=>by rw [h];rfl | simp_all,tv⟩ (NQ (Wt ?_)))
 cases H
 exact Ea rfl rfl rfl tv
theorem dH:aE Tryz.prog 92 Tryz.f92:=⟨Tryz.func92,rfl,by kernel_rfl⟩
theorem fI (a0:ByteArray) (a1:ByteArray) {r:ByteArray×Bool} (H:cf a0 a1=some r):LJ.Spec Tryz.prog 74 [.d (.str a0), .d (.str a1)] [] (.tup [.d (.str r.1), .d (.bool r.2)]) []:=by
 refine LJ.Spec.code Tryz.func74 rfl 15 rfl rfl [] rfl fun w0 F0 S0 B0=>?_
 unfold cf at H
 refine G (R 2 rfl (NS (G (R 2 rfl ?_))))
 obtain ⟨x1,hx1,H⟩:=ar H
 refine Cl [] (dG _ _ hx1) dH rfl tv rfl (R 1 rfl (NQ (Wd rfl H (fun H=>?_) (fun H=>?_))))
 ·refine G (R 3 rfl (NQ (Wt (QT.r ?_))))
  cases H
  exact Ea rfl rfl rfl tv
 refine Wk (Qn (G ?_))
 obtain ⟨g3,H⟩:=aq H
 refine RS 6 rfl ⟨(ll g3),tv⟩ (NQ (Wt ?_))
 cases H
 exact Ea rfl rfl rfl tv
theorem fJ:aE Tryz.prog 74 Tryz.f74:=⟨Tryz.func74,rfl,by kernel_rfl⟩
theorem iK (a0:ByteArray) (a1:ByteArray) {r:ByteArray×Bool} (H:bZ a0 a1=some r):LJ.Spec Tryz.prog 58 [.d (.str a0), .d (.str a1)] [] (.tup [.d (.str r.1), .d (.bool r.2)]) []:=by
 refine LJ.Spec.code Tryz.func58 rfl 11 rfl rfl [] rfl fun w0 F0 S0 B0=>?_
 unfold bZ at H
 refine G (R 2 rfl (N (R 2 rfl ?_)))
 obtain ⟨x1,hx1,H⟩:=ar H
 refine Cl [] (fI _ _ hx1) fJ rfl tv rfl (R 4 rfl (NQ (Wt ?_)))
 cases H
 exact Ea rfl rfl rfl tv
theorem iL:aE Tryz.prog 58 Tryz.f58:=⟨Tryz.func58,rfl,by kernel_rfl⟩
theorem l7 (a0:ByteArray) (a1:ByteArray) {r:Int} (H:eP a0 a1=some r):LJ.Spec Tryz.prog 95 [.d (.str a0), .d (.str a1)] [] (.d (.int .i64 r)) []:=by
 refine LJ.Spec.code Tryz.func95 rfl 8 rfl rfl [] rfl fun w0 F0 S0 B0=>?_
 unfold eP at H
 refine G (R 1 rfl (N (R 2 rfl ?_)))
 obtain ⟨x1,hx1,H⟩:=ar H
 refine Cl [] (eN _ _ hx1) eO rfl tv rfl (R 1 rfl (NQ (Wt ?_)))
 cases H
 exact Ea rfl rfl rfl tv
theorem l8:aE Tryz.prog 95 Tryz.f95:=⟨Tryz.func95,rfl,by kernel_rfl⟩
def ρs:Go.Shelf.Ren:=⟨fun n=>cond (Nat.beq n 314) 106 (cond (Nat.beq n 268) 93 (cond (Nat.beq n 267) 91 (cond (Nat.beq n 266) 105 (cond (Nat.beq n 260) 120 (cond (Nat.beq n 225) 89 (cond (Nat.beq n 224) 90 (cond (Nat.beq n 221) 76 (cond (Nat.beq n 219) 73 (cond (Nat.beq n 218) 109 (cond (Nat.beq n 217) 88 (cond (Nat.beq n 197) 108 (cond (Nat.beq n 195) 107 (cond (Nat.beq n 146) 60 (cond (Nat.beq n 143) 95 (cond (Nat.beq n 138) 94 (0)))))))))))))))),fun n=>cond (Nat.beq n 146) 143 (cond (Nat.beq n 139) 174 (cond (Nat.beq n 138) 173 (cond (Nat.beq n 119) 123 (cond (Nat.beq n 105) 145 (cond (Nat.beq n 51) 140 (cond (Nat.beq n 46) 127 (cond (Nat.beq n 31) 92 (cond (Nat.beq n 21) 21 (cond (Nat.beq n 9) 9 (cond (Nat.beq n 5) 5 (cond (Nat.beq n 4) 4 (cond (Nat.beq n 3) 3 (cond (Nat.beq n 0) 0 (0)))))))))))))),fun n=>cond (Nat.beq n 4) 5 (cond (Nat.beq n 3) 4 (cond (Nat.beq n 1) 1 (0)))⟩
set_option maxRecDepth 100000 in
theorem wZ:Go.Proofs.Lays.n146 Tryz.prog ρs:=by
 constructor <;> first | kernel_rfl | (intro w;kernel_rfl) | (intro w;rfl)
theorem dR (a0 a1:ByteArray) {r:List ByteArray} (H:strings_Split a0 a1=some r):LJ.Spec Tryz.prog 60 [.d (.str a0), .d (.str a1)] [] (.d (slT bJ r)) []:=by
 unfold strings_Split at H
 obtain ⟨g1,H⟩:=aq H
 cases H
 exact Spec.split wZ (by kernel_rfl) (by kernel_rfl) rfl g1
theorem dS:aE Tryz.prog 60 Tryz.f60:=⟨Tryz.func60,rfl,by kernel_rfl⟩
theorem w3 (a0:ByteArray) {r:Int×Bool} (H:tu a0=some r):LJ.Spec Tryz.prog 75 [.d (.str a0)] [] (.tup [.d (.int .i64 r.1), .d (.bool r.2)]) []:=by
 refine LJ.Spec.code Tryz.func75 rfl 18 rfl rfl [] rfl fun w0 F0 S0 B0=>?_
 unfold tu at H
 refine G (R 2 rfl (NS (G ?_)))
 obtain ⟨x1,hx1,H⟩:=ar H
 refine Cl [] (eI _ hx1) eJ rfl tv rfl (R 2 rfl (NQ (Wb (Wl (ι:= {x:Nat×Int //fU a0 x1 x.1 x.2=some r}) (fun x=>[(0, .d (.str a0)),(6, .d (slT bJ x1)),(7, .d (.int .i64 (x1.length:Int))),(8, .d (.int .i64 x.1.2))]) (fun x=>[]) (fun x=>x.1.1) ⟨(fuel,0),H⟩ (Lm p4 tv) fun x=>?_))))
 obtain ⟨⟨k3,s2⟩,H⟩:=x
 rcases k3 with _ | k3
 ·exact aO H
 rw [fU] at H
 refine G (R 1 rfl (NS (Wd rfl H (fun H=>?_) (fun H=>?_))))
 ·refine Wk (Qn (Ws (Wb (G ?_))))
  obtain ⟨g5,H⟩:=aq H
  refine RS 5 rfl ⟨⟨(av g5).1,(av g5).2,rfl⟩,tv⟩ (N (R 3 rfl (NQ (Wd rfl H (fun H=>?_) (fun H=>?_)))))
  ·refine G (R 3 rfl (NQ (Wt (QB.r (QT.r (QT.r (QB.r (QT.r ?_))))))))
   cases H
   exact Ea rfl rfl rfl tv
  refine Wk (Qb (Qn ?_))
  exact Wg (R 2 rfl (NQ (⟨⟨(k3,IntKind.i64.wrap (s2+1)),H⟩,Z,Lm p4 tv⟩)))
 refine WC.exit (Qx (Qx (Qh (Qn ?_))))
 refine G (R 2 rfl (NQ (Wt ?_)))
 cases H
 exact Ea rfl rfl rfl tv
theorem w4:aE Tryz.prog 75 Tryz.f75:=⟨Tryz.func75,rfl,by kernel_rfl⟩
def ρa:Go.Shelf.Ren:=⟨fun n=>cond (Nat.beq n 338) 127 (cond (Nat.beq n 337) 126 (cond (Nat.beq n 322) 132 (cond (Nat.beq n 321) 131 (cond (Nat.beq n 320) 117 (cond (Nat.beq n 319) 116 (cond (Nat.beq n 318) 115 (cond (Nat.beq n 317) 113 (cond (Nat.beq n 316) 129 (cond (Nat.beq n 287) 128 (cond (Nat.beq n 286) 103 (cond (Nat.beq n 285) 102 (cond (Nat.beq n 284) 101 (cond (Nat.beq n 283) 100 (cond (Nat.beq n 282) 125 (cond (Nat.beq n 281) 124 (cond (Nat.beq n 280) 123 (cond (Nat.beq n 279) 122 (cond (Nat.beq n 247) 121 (cond (Nat.beq n 246) 85 (cond (Nat.beq n 245) 111 (cond (Nat.beq n 244) 110 (cond (Nat.beq n 243) 68 (cond (Nat.beq n 205) 130 (cond (Nat.beq n 172) 96 (cond (Nat.beq n 171) 44 (cond (Nat.beq n 129) 114 (0))))))))))))))))))))))))))),fun n=>cond (Nat.beq n 233) 182 (cond (Nat.beq n 232) 181 (cond (Nat.beq n 213) 150 (cond (Nat.beq n 212) 149 (cond (Nat.beq n 210) 179 (cond (Nat.beq n 175) 175 (cond (Nat.beq n 173) 135 (cond (Nat.beq n 171) 133 (cond (Nat.beq n 168) 166 (cond (Nat.beq n 167) 163 (cond (Nat.beq n 145) 186 (cond (Nat.beq n 143) 184 (cond (Nat.beq n 127) 88 (cond (Nat.beq n 85) 164 (cond (Nat.beq n 80) 66 (cond (Nat.beq n 76) 61 (cond (Nat.beq n 75) 60 (cond (Nat.beq n 53) 117 (cond (Nat.beq n 51) 140 (cond (Nat.beq n 46) 127 (cond (Nat.beq n 37) 56 (cond (Nat.beq n 21) 21 (cond (Nat.beq n 20) 20 (cond (Nat.beq n 9) 9 (cond (Nat.beq n 5) 5 (cond (Nat.beq n 4) 4 (cond (Nat.beq n 3) 3 (cond (Nat.beq n 2) 2 (cond (Nat.beq n 0) 0 (0))))))))))))))))))))))))))))),fun n=>cond (Nat.beq n 19) 9 (cond (Nat.beq n 18) 8 (cond (Nat.beq n 17) 3 (cond (Nat.beq n 16) 7 (cond (Nat.beq n 15) 6 (0)))))⟩
set_option maxRecDepth 100000 in
theorem vw:Go.Proofs.Lays.n172 Tryz.prog ρa:=by
 constructor <;> first | kernel_rfl | (intro w;kernel_rfl) | (intro w;rfl)
set_option maxRecDepth 100000 in
theorem vx:Go.Proofs.LaysM.n172 Tryz.prog ρa:=by
 apply Go.Proofs.LaysM.n172.mk vw <;> first | kernel_rfl | (intro w;kernel_rfl) | (intro w;rfl)
set_option maxRecDepth 100000 in
theorem w5:Go.Proofs.LaysC.n172 Tryz.prog ρa:=by
 apply Go.Proofs.LaysC.n172.mk vx <;> first | kernel_rfl | (intro w;kernel_rfl) | (intro w;rfl)
theorem mo (a0:ByteArray) {r:Int×Bool} (H:ez a0=some r):LJ.Spec Tryz.prog 96 [.d (.str a0)] [] (.tup [.d (.int .i64 r.1), .d (erD 166 r.2)]) []:=by
 unfold ez at H
 obtain ⟨g1,H⟩:=aq H
 cases H
 exact Spec.atoi w5 (by kernel_rfl) (by kernel_rfl) g1
theorem mq:aE Tryz.prog 96 Tryz.f96:=⟨Tryz.func96,rfl,by kernel_rfl⟩
theorem fq (a0:ByteArray) (a1:ByteArray) {r:ByteArray} (H:bR a0 a1=some r):LJ.Spec Tryz.prog 112 [.d (.str a0), .d (.str a1)] [] (.d (.str r)) []:=by
 refine LJ.Spec.code Tryz.func112 rfl 13 rfl rfl [] rfl fun w0 F0 S0 B0=>?_
 unfold bR at H
 refine G (R 1 rfl (NS (G (R 2 rfl ?_))))
 obtain ⟨x1,hx1,H⟩:=ar H
 refine Cl [] (dG _ _ hx1) dH rfl tv rfl (NQ (Wd rfl H (fun H=>?_) (fun H=>?_)))
 ·refine G ?_
  obtain ⟨g3,H⟩:=aq H
  refine RS 5 rfl ⟨(ll g3),tv⟩ (NQ (Wt (QT.r ?_)))
  cases H
  exact Ea rfl rfl rfl tv
 refine Wk (Qn (G (R 2 rfl (NQ (Wt ?_)))))
 cases H
 exact Ea rfl rfl rfl tv
theorem fr:aE Tryz.prog 112 Tryz.f112:=⟨Tryz.func112,rfl,by kernel_rfl⟩
theorem hZ (a0:ByteArray) (a1:ByteArray) {r:ByteArray} (H:bj a0 a1=some r):LJ.Spec Tryz.prog 97 [.d (.str a0), .d (.str a1)] [] (.d (.str r)) []:=by
 refine LJ.Spec.code Tryz.func97 rfl 8 rfl rfl [] rfl fun w0 F0 S0 B0=>?_
 unfold bj at H
 refine G (R 1 rfl (N (R 2 rfl ?_)))
 obtain ⟨x1,hx1,H⟩:=ar H
 refine Cl [] (fq _ _ hx1) fr rfl tv rfl (R 1 rfl (NQ (Wt ?_)))
 cases H
 exact Ea rfl rfl rfl tv
theorem ia:aE Tryz.prog 97 Tryz.f97:=⟨Tryz.func97,rfl,by kernel_rfl⟩
theorem gS (a0:ByteArray) {r:Int×Bool} (H:dn a0=some r):LJ.Spec Tryz.prog 77 [.d (.str a0)] [] (.tup [.d (.int .i64 r.1), .d (.bool r.2)]) []:=by
 refine LJ.Spec.code Tryz.func77 rfl 26 rfl rfl [] rfl fun w0 F0 S0 B0=>?_
 unfold dn at H
 refine G (R 2 rfl (N (R 1 rfl ?_)))
 obtain ⟨x1,hx1,H⟩:=ar H
 refine Cl [] (mo _ hx1) mq rfl tv rfl (R 5 rfl (NS (G (R 1 rfl (WL.yv (LJ.Y.erNe rfl rfl (by kernel_rfl)) rfl rfl rfl (R 1 rfl ?_))))))
 obtain ⟨x2,hx2,H⟩:=ar H
 refine Wx 4 2 false tk [PSig.at' ia ((!x1.2)=true) rfl (fun hb=>hZ _ _ (of_t hx2 hb))] rfl rfl (fun hb=>⟨⟨hb,rfl⟩,tv⟩) (RS 2 rfl ⟨by first | exact id | exact fun h=>by rw [h];rfl | simp_all,tv⟩ ?_)
 obtain ⟨x3,hx3,H⟩:=ar H
 refine Wx 4 8 false tk [PSig.at' br ((!(x1.2||(iLt 10 (x2.size:Int))))=true) rfl (fun hb=>bq _ (of_t hx3 hb))] rfl rfl (fun hb=>⟨⟨hb,rfl⟩,tv⟩) (RS 1 rfl ⟨by first | exact id | exact fun h=>by rw [h];rfl | simp_all,tv⟩ (NQ (Wd rfl H (fun H=>?_) (fun H=>?_))))
 ·refine G (R 2 rfl (NQ (Wt (QT.r ?_))))
  cases H
  exact Ea rfl rfl rfl tv
 refine Wk (Qn (G (R 3 rfl (NQ (Wt ?_)))))
 cases H
 exact Ea rfl rfl rfl tv
theorem gU:aE Tryz.prog 77 Tryz.f77:=⟨Tryz.func77,rfl,by kernel_rfl⟩
theorem fg (a0:List ByteArray) (a1:Int) {r:(List Int)×Bool} (H:fV a0 a1=some r):LJ.Spec Tryz.prog 62 [.d (slT bJ a0), .d (.int .i64 a1)] [] (.tup [.d (.agg [.int .i64 (r.1.getD 0 default), .int .i64 (r.1.getD 1 default)]), .d (.bool r.2)]) []:=by
 refine LJ.Spec.code Tryz.func62 rfl 36 rfl rfl [] rfl fun w0 F0 S0 B0=>?_
 unfold fV at H
 refine G (WL.allocZ 104 [.int .i64 0, .int .i64 0] rfl (by kernel_rfl) rfl rfl rfl rfl (R 1 rfl (N (WL.allocZ 106 [.int .i64 0, .int .i64 0] rfl (by kernel_rfl) rfl rfl rfl rfl (NS (G (R 4 rfl (NQ (Wd rfl H (fun H=>?_) (fun H=>?_))))))))))
 ·refine G (R 1 rfl (Ef 0 rfl (R 1 rfl (NQ (Wt (QT.r ?_))))))
  cases H
  exact Ends.autoA 2 (by kernel_rfl) rfl rfl rfl rfl rfl rfl tv
 refine Wk (Qn (Ws (G (R 3 rfl (NQ (Wb (Wl (ι:= {x:Nat×(Int×(List Int)) //c5 a0 x.1 x.2=some r}) (fun x=>[(4, .ptr 104 0),(6, .ptr 106 0),(16, .d (slT bJ a0)),(17, .d (.int .i64 (a0.length:Int))),(18, .d (.int .i64 x.1.2.1))]) (fun x=>[(104, .box 89 [.d (.int .i64 0), .d (.int .i64 0)]),(106, .box 89 [.d (.int .i64 (x.1.2.2.getD 0 default)), .d (.int .i64 (x.1.2.2.getD 1 default))])]) (fun x=>x.1.1) ⟨(fuel,(0,([0,0]:List Int))),H⟩ (Lm p5 p2) fun x=>?_)))))))
 obtain ⟨⟨k3,s2⟩,H⟩:=x
 rcases k3 with _ | k3
 ·exact aO H
 rw [c5] at H
 refine G (R 1 rfl (NS (Wd rfl H (fun H=>?_) (fun H=>?_))))
 ·refine Wk (Qn (Ws (Wb (G ?_))))
  obtain ⟨g5,H⟩:=aq H
  refine RS 5 rfl ⟨⟨(av g5).1,(av g5).2,rfl⟩,tv⟩ (N (R 1 rfl ?_))
  obtain ⟨x6,hx6,H⟩:=ar H
  refine Cl [] (gS _ hx6) gU rfl tv rfl (R 5 rfl (NS (G (R 2 rfl (NQ (Wd rfl H (fun H=>?_) (fun H=>?_)))))))
  ·refine G (R 1 rfl (Ef 0 rfl (R 1 rfl (NQ (Wt (QT.r (QB.r (QT.r (QT.r (QB.r (QT.r ?_)))))))))))
   cases H
   exact Ends.autoA 2 (by kernel_rfl) rfl rfl rfl rfl rfl rfl tv
  refine Wk (Qn (Wg (R 2 rfl ?_)))
  obtain ⟨g8,H⟩:=aq H
  refine WL.yv (LJ.Y.idxPtrA 2 s2.1 (by kernel_rfl) rfl rfl rfl (av g8)) rfl rfl rfl (WL.wo (WO.storePtrA 2 0 (fun x:Int=>DV.int .i64 x) s2.2 x6.1 s2.1 (cs':=[.d (.int .i64 ((aset 2 s2.2 s2.1.toNat x6.1).getD 0 default)), .d (.int .i64 ((aset 2 s2.2 s2.1.toNat x6.1).getD 1 default))]) rfl rfl rfl rfl rfl (by kernel_rfl) rfl rfl (av g8) rfl rfl rfl) rfl (Wn (Qb (Qn ?_))))
  exact Wg (R 2 rfl (NQ (⟨⟨(k3,(IntKind.i64.wrap (s2.1+1),(aset 2 s2.2 s2.1.toNat x6.1))),H⟩,Z,Lm p5 p2⟩)))
 refine WC.exit (Qx (Qx (Qh (Qn ?_))))
 refine G (R 1 rfl (Ef 0 rfl (R 1 rfl (NQ (Wt ?_)))))
 cases H
 exact Ends.autoA 2 (by kernel_rfl) rfl rfl rfl rfl rfl rfl tv
theorem fh:aE Tryz.prog 62 Tryz.f62:=⟨Tryz.func62,rfl,by kernel_rfl⟩
theorem fK (a0:aU) (a1:ByteArray) {r:Bool×aU} (H:aX a0 a1=some r):LJ.Spec Tryz.prog 59 [.ptr 0 0, .d (.str a1)] [(0, .box 72 [.own 1, .own 2, .own 3]),(1, .row 44 3 (a0.p.Decls.map ai)),(2, .row 45 1 (a0.p.Waits.map ae)),(3, .rowl 49 3 2 (some 4) (a0.p.Funcs.map ak)),(4, .row 28 3 ((bF a0.p.Funcs).map ay))] (.d (.bool r.1)) [(1, .row 44 3 (r.2.p.Decls.map ai)),(2, .row 45 1 (r.2.p.Waits.map ae)),(3, .rowl 49 3 2 (some 4) (r.2.p.Funcs.map ak)),(4, .row 28 3 ((bF r.2.p.Funcs).map ay)),(0, .box 72 [.own 1, .own 2, .own 3])]:=by
 refine LJ.Spec.code Tryz.func59 rfl 68 rfl rfl [0] rfl fun w0 F0 S0 B0=>?_
 unfold aX at H
 refine G (R 1 rfl (N (R 1 rfl ?_)))
 obtain ⟨x1,hx1,H⟩:=ar H
 refine Cl [] (dR _ _ hx1) dS rfl tv rfl (R 1 rfl (NS (Wg ?_)))
 obtain ⟨g2,H⟩:=aq H
 refine RS 3 rfl ⟨⟨(av g2).1,(av g2).2,rfl⟩,tv⟩ ?_
 obtain ⟨x3,hx3,H⟩:=ar H
 refine Cl [] (w3 _ hx3) w4 rfl tv rfl (R 5 rfl (NS (G (R 3 rfl (Wx 7 2 false tk sg0 rfl rfl (fun _=>tv) (RS 1 rfl ⟨by first | exact id | exact fun h=>by rw [h];rfl | simp_all,tv⟩ (NQ (Wd rfl H (fun H=>?_) (fun H=>?_)))))))))
 ·refine G (R 1 rfl (NQ (Wt (QT.r ?_))))
  cases H
  exact Ea rfl rfl rfl p5
 refine Wk (Qn (Ws ?_))
 obtain ⟨g5_1_1,H⟩:=aq H
 obtain ⟨x5_3_1,hx5_3_1,H⟩:=ar H
 obtain ⟨x5_5_1,hx5_5_1,H⟩:=ar H
 refine WC.heldF [(0, .ptr 0 0),(6, .d (.int .i64 x3.1)),(7, .d (.bool x5_5_1.2)),(8, .ptr 108 0)] [(0, .box 72 [.own 1, .own 2, .own 3]),(1, .row 44 3 (a0.p.Decls.map ai)),(2, .row 45 1 (a0.p.Waits.map ae)),(3, .rowl 49 3 2 (some 4) (a0.p.Funcs.map ak)),(4, .row 28 3 ((bF a0.p.Funcs).map ay)),(108, .box 89 [.d (.int .i64 (x5_5_1.1.getD 0 default)), .d (.int .i64 (x5_5_1.1.getD 1 default))])] (sT 0 (sT 1 (sT 2 (fk (sf 3 (sT 4 (fk (sf 5 (sT 6 (fk (sf 7 (fk (sf 8 (sf 9 (sf 10 (sT 11 sd)))) (sf 9 (fk (sf 8 (sf 10 (sT 11 sd))) (sf 10 (sf 8 (sT 11 sd))))))) (fk (sf 8 (fk (sf 7 (sf 9 (sf 10 (sT 11 sd)))) (sf 9 (sf 7 (sf 10 (sT 11 sd)))))) (sf 9 (fk (sf 7 (fk (sf 8 (sf 10 (sT 11 sd))) (sf 10 (sf 8 (sT 11 sd))))) (sf 8 (sf 7 (sf 10 (sT 11 sd)))))))))) (sf 9 (sf 5 (sT 6 (fk (sf 7 (fk (sf 8 (sf 10 (sT 11 sd))) (sf 10 (sf 8 (sT 11 sd))))) (sf 8 (sf 7 (sf 10 (sT 11 sd))))))))))) (sf 9 (sf 3 (sT 4 (sf 5 (sT 6 (fk (sf 7 (fk (sf 8 (sf 10 (sT 11 sd))) (sf 10 (sf 8 (sT 11 sd))))) (sf 8 (sf 7 (sf 10 (sT 11 sd)))))))))))))) [0] [0] rfl (by kernel_rfl) rfl (by kernel_rfl) rfl rfl (fun _ h=>h) rfl rfl rfl (fun FK NK wK K=>?_) ?_
 ·refine Hr 1 tk rfl rfl rfl rfl tv (WH.yv rfl (LJ.Y.sliceT bJ x1 tk rfl (fun _=>rfl) (some (.const (.int .i64 1))) none (1:Int) (x1.length:Int) rfl ⟨_,rfl⟩ rfl rfl rfl (lp g5_1_1)) rfl rfl rfl (Hr 1 tk rfl rfl rfl rfl tv (WH.fork ?_ ?_)))
  ·refine WH.call [] rfl (gQ _ hx5_3_1) gR rfl rfl tv rfl rfl rfl rfl rfl (Hr 1 tk rfl rfl rfl rfl tv (WH.fork ?_ ?_))
   ·refine WH.call [] rfl (fg _ _ hx5_5_1) fh rfl rfl tv rfl rfl rfl rfl rfl (WH.mv rfl rfl rfl rfl rfl rfl rfl rfl rfl (WH.fork ?_ (WH.fork ?_ ?_)))
    ·refine WH.val tk rfl rfl rfl rfl rfl tv rfl rfl (WH.fork ?_ ?_)
     ·exact WH.val tk rfl rfl rfl rfl rfl tv rfl rfl (WH.allocZ 108 [.int .i64 0, .int .i64 0] rfl rfl (by kernel_rfl) rfl rfl rfl rfl rfl rfl (He 0 tk ek rfl rfl rfl rfl tv rfl rfl (Hr 1 tk rfl rfl rfl rfl tv (Hn rfl (Lw q4 p6)))))
     ·refine WH.allocZ 108 [.int .i64 0, .int .i64 0] rfl rfl (by kernel_rfl) rfl rfl rfl rfl rfl rfl (WH.fork ?_ ?_)
      ·exact WH.val tk rfl rfl rfl rfl rfl tv rfl rfl (He 0 tk ek rfl rfl rfl rfl tv rfl rfl (Hr 1 tk rfl rfl rfl rfl tv (Hn rfl (Lw q4 p6))))
      ·exact He 0 tk ek rfl rfl rfl rfl tv rfl rfl (WH.val tk rfl rfl rfl rfl rfl tv rfl rfl (Hr 1 tk rfl rfl rfl rfl tv (Hn rfl (Lw q4 p6))))
    ·refine WH.val tk rfl rfl rfl rfl rfl tv rfl rfl (WH.fork ?_ ?_)
     ·exact WH.val tk rfl rfl rfl rfl rfl tv rfl rfl (WH.allocZ 108 [.int .i64 0, .int .i64 0] rfl rfl (by kernel_rfl) rfl rfl rfl rfl rfl rfl (He 0 tk ek rfl rfl rfl rfl tv rfl rfl (Hr 1 tk rfl rfl rfl rfl tv (Hn rfl (Lw q4 p6)))))
     ·exact WH.allocZ 108 [.int .i64 0, .int .i64 0] rfl rfl (by kernel_rfl) rfl rfl rfl rfl rfl rfl (WH.val tk rfl rfl rfl rfl rfl tv rfl rfl (He 0 tk ek rfl rfl rfl rfl tv rfl rfl (Hr 1 tk rfl rfl rfl rfl tv (Hn rfl (Lw q4 p6)))))
    ·refine WH.allocZ 108 [.int .i64 0, .int .i64 0] rfl rfl (by kernel_rfl) rfl rfl rfl rfl rfl rfl (WH.fork ?_ ?_)
     ·refine WH.val tk rfl rfl rfl rfl rfl tv rfl rfl (WH.fork ?_ ?_)
      ·exact WH.val tk rfl rfl rfl rfl rfl tv rfl rfl (He 0 tk ek rfl rfl rfl rfl tv rfl rfl (Hr 1 tk rfl rfl rfl rfl tv (Hn rfl (Lw q4 p6))))
      ·exact He 0 tk ek rfl rfl rfl rfl tv rfl rfl (WH.val tk rfl rfl rfl rfl rfl tv rfl rfl (Hr 1 tk rfl rfl rfl rfl tv (Hn rfl (Lw q4 p6))))
     ·exact WH.val tk rfl rfl rfl rfl rfl tv rfl rfl (WH.val tk rfl rfl rfl rfl rfl tv rfl rfl (He 0 tk ek rfl rfl rfl rfl tv rfl rfl (Hr 1 tk rfl rfl rfl rfl tv (Hn rfl (Lw q4 p6)))))
   ·refine WH.allocZ 108 [.int .i64 0, .int .i64 0] rfl rfl (by kernel_rfl) rfl rfl rfl rfl rfl rfl (WH.call [] rfl (fg _ _ hx5_5_1) fh rfl rfl tv rfl rfl rfl rfl rfl (WH.mv rfl rfl rfl rfl rfl rfl rfl rfl rfl (WH.fork ?_ ?_)))
    ·refine WH.val tk rfl rfl rfl rfl rfl tv rfl rfl (WH.fork ?_ ?_)
     ·exact WH.val tk rfl rfl rfl rfl rfl tv rfl rfl (He 0 tk ek rfl rfl rfl rfl tv rfl rfl (Hr 1 tk rfl rfl rfl rfl tv (Hn rfl (Lw q4 p6))))
     ·exact He 0 tk ek rfl rfl rfl rfl tv rfl rfl (WH.val tk rfl rfl rfl rfl rfl tv rfl rfl (Hr 1 tk rfl rfl rfl rfl tv (Hn rfl (Lw q4 p6))))
    ·exact WH.val tk rfl rfl rfl rfl rfl tv rfl rfl (WH.val tk rfl rfl rfl rfl rfl tv rfl rfl (He 0 tk ek rfl rfl rfl rfl tv rfl rfl (Hr 1 tk rfl rfl rfl rfl tv (Hn rfl (Lw q4 p6)))))
  ·refine WH.allocZ 108 [.int .i64 0, .int .i64 0] rfl rfl (by kernel_rfl) rfl rfl rfl rfl rfl rfl (WH.call [] rfl (gQ _ hx5_3_1) gR rfl rfl tv rfl rfl rfl rfl rfl (Hr 1 tk rfl rfl rfl rfl tv (WH.call [] rfl (fg _ _ hx5_5_1) fh rfl rfl tv rfl rfl rfl rfl rfl (WH.mv rfl rfl rfl rfl rfl rfl rfl rfl rfl (WH.fork ?_ ?_)))))
   ·refine WH.val tk rfl rfl rfl rfl rfl tv rfl rfl (WH.fork ?_ ?_)
    ·exact WH.val tk rfl rfl rfl rfl rfl tv rfl rfl (He 0 tk ek rfl rfl rfl rfl tv rfl rfl (Hr 1 tk rfl rfl rfl rfl tv (Hn rfl (Lw q4 p6))))
    ·exact He 0 tk ek rfl rfl rfl rfl tv rfl rfl (WH.val tk rfl rfl rfl rfl rfl tv rfl rfl (Hr 1 tk rfl rfl rfl rfl tv (Hn rfl (Lw q4 p6))))
   ·exact WH.val tk rfl rfl rfl rfl rfl tv rfl rfl (WH.val tk rfl rfl rfl rfl rfl tv rfl rfl (He 0 tk ek rfl rfl rfl rfl tv rfl rfl (Hr 1 tk rfl rfl rfl rfl tv (Hn rfl (Lw q4 p6)))))
 ·refine Qn (Ws ?_)
  obtain ⟨g6_12_1,H⟩:=aq H
  refine WC.heldF [(6, .d (.int .i64 x3.1)),(7, .d (.bool x5_5_1.2)),(8, .ptr 108 0),(9, .rel 3 ((IntKind.i64.wrap (((a0.p.Funcs.map ak).length:Int) - 1)).toNat*3))] [(0, .box 72 [.own 1, .own 2, .own 3]),(1, .row 44 3 (a0.p.Decls.map ai)),(2, .row 45 1 (a0.p.Waits.map ae)),(3, .rowl 49 3 2 (some 4) (a0.p.Funcs.map ak)),(4, .row 28 3 ((bF a0.p.Funcs).map ay)),(108, .box 89 [.d (.int .i64 (x5_5_1.1.getD 0 default)), .d (.int .i64 (x5_5_1.1.getD 1 default))])] (sT 0 (sT 1 (sT 2 (sT 3 (sT 5 (sT 6 (sT 7 (sT 8 (fk (sf 4 (sf 9 (sf 10 (sT 11 (sf 12 (sT 13 sd)))))) (sf 9 (fk (sf 4 (sf 10 (sT 11 (sf 12 (sT 13 sd))))) (sf 10 (sT 11 (sf 4 (sf 12 (sT 13 sd)))))))))))))))) [0,108] [0,108] rfl (by kernel_rfl) rfl (by kernel_rfl) rfl rfl (fun _ h=>h) rfl rfl rfl (fun FK NK wK K=>?_) ?_
  ·refine Hr 8 tk rfl rfl rfl rfl tv (WH.fork ?_ ?_)
   ·exact WH.val tk rfl rfl rfl rfl rfl tv rfl rfl (WH.val tk rfl rfl rfl rfl rfl tv rfl rfl (WH.val tk rfl rfl rfl rfl rfl tv rfl rfl (Hr 1 tk rfl rfl rfl rfl tv (WH.yvs rfl (LJ.Y.idxL ak a0.p.Funcs (IntKind.i64.wrap (((a0.p.Funcs.map ak).length:Int) - 1)) tk rfl rfl rfl rfl rfl (nJ g6_12_1)) rfl rfl rfl rfl rfl (WH.mv rfl rfl rfl rfl rfl rfl rfl rfl rfl (Hn rfl (Lw q4 p6)))))))
   ·refine WH.val tk rfl rfl rfl rfl rfl tv rfl rfl (WH.fork ?_ ?_)
    ·exact WH.val tk rfl rfl rfl rfl rfl tv rfl rfl (WH.val tk rfl rfl rfl rfl rfl tv rfl rfl (Hr 1 tk rfl rfl rfl rfl tv (WH.yvs rfl (LJ.Y.idxL ak a0.p.Funcs (IntKind.i64.wrap (((a0.p.Funcs.map ak).length:Int) - 1)) tk rfl rfl rfl rfl rfl (nJ g6_12_1)) rfl rfl rfl rfl rfl (WH.mv rfl rfl rfl rfl rfl rfl rfl rfl rfl (Hn rfl (Lw q4 p6))))))
    ·exact WH.val tk rfl rfl rfl rfl rfl tv rfl rfl (Hr 1 tk rfl rfl rfl rfl tv (WH.val tk rfl rfl rfl rfl rfl tv rfl rfl (WH.yvs rfl (LJ.Y.idxL ak a0.p.Funcs (IntKind.i64.wrap (((a0.p.Funcs.map ak).length:Int) - 1)) tk rfl rfl rfl rfl rfl (nJ g6_12_1)) rfl rfl rfl rfl rfl (WH.mv rfl rfl rfl rfl rfl rfl rfl rfl rfl (Hn rfl (Lw q4 p6))))))
  ·refine Qn (Ws ?_)
   obtain ⟨g7_6_1,H⟩:=aq H
   obtain ⟨g7_8_1,H⟩:=aq H
   obtain ⟨g7_12_1,H⟩:=aq H
   refine WC.heldF [(7, .d (.bool x5_5_1.2))] [(0, .box 72 [.own 1, .own 2, .own 3]),(1, .row 44 3 (a0.p.Decls.map ai)),(2, .row 45 1 (a0.p.Waits.map ae)),(3, .rowl 49 3 2 (some 4) ((a0.p.Funcs.set (a0.p.Funcs.length - 1) (⟨(a0.p.Funcs.getD (a0.p.Funcs.length - 1) default).Args,(a0.p.Funcs.getD (a0.p.Funcs.length - 1) default).Locals,(bF a0.p.Funcs)++([(⟨x3.1,(x5_5_1.1.getD (0:Int).toNat default),(x5_5_1.1.getD (1:Int).toNat default)⟩:ao)]:List ao)⟩:al)).map ak)),(4, .row 28 3 ((bF (a0.p.Funcs.set (a0.p.Funcs.length - 1) (⟨(a0.p.Funcs.getD (a0.p.Funcs.length - 1) default).Args,(a0.p.Funcs.getD (a0.p.Funcs.length - 1) default).Locals,(bF a0.p.Funcs)++([(⟨x3.1,(x5_5_1.1.getD (0:Int).toNat default),(x5_5_1.1.getD (1:Int).toNat default)⟩:ao)]:List ao)⟩:al))).map ay))] (sT 0 (sT 1 (sT 5 (sT 6 (sT 7 (sT 8 (sT 9 (sT 10 (fk (sf 2 (fk (sf 3 (fk (sf 4 (sf 11 (sf 12 (sf 13 (sf 14 (sf 15 sd)))))) (sf 11 (sf 4 (sf 12 (sf 13 (sf 14 (sf 15 sd)))))))) (sf 11 (sf 3 (sf 4 (sf 12 (sf 13 (sf 14 (sf 15 sd))))))))) (sf 11 (sf 2 (sf 3 (sf 4 (sf 12 (sf 13 (sf 14 (sf 15 sd))))))))))))))))) [0,108] [0,108] rfl (by kernel_rfl) rfl (by kernel_rfl) rfl rfl (fun _ h=>h) rfl rfl rfl (fun FK NK wK K=>?_) ?_
   ·refine WH.mv rfl rfl rfl rfl rfl rfl rfl rfl rfl (WH.mv rfl rfl rfl rfl rfl rfl rfl rfl rfl (Hr 1 tk rfl rfl rfl rfl tv (WH.yv rfl (LJ.Y.idxPtrA 2 (0:Int) (by kernel_rfl) rfl rfl rfl (av g7_6_1)) rfl rfl rfl (WH.yv rfl (LJ.Y.loadPtrA 2 0 (fun k=> .int .i64 (x5_5_1.1.getD k default)) (0:Int) rfl rfl rfl (by kernel_rfl) rfl (av g7_6_1)) rfl rfl rfl (WH.yv rfl (LJ.Y.idxPtrA 2 (1:Int) (by kernel_rfl) rfl rfl rfl (av g7_8_1)) rfl rfl rfl (WH.yv rfl (LJ.Y.loadPtrA 2 0 (fun k=> .int .i64 (x5_5_1.1.getD k default)) (1:Int) rfl rfl rfl (by kernel_rfl) rfl (av g7_8_1)) rfl rfl rfl (Hr 1 tk rfl rfl rfl rfl tv (WH.fork ?_ ?_))))))))
    ·refine WH.val tk rfl rfl rfl rfl rfl tv rfl rfl (WH.fork ?_ ?_)
     ·refine WH.yvs rfl (LJ.Y.fieldRel (fo:=2) rfl rfl (by kernel_rfl)) rfl rfl rfl rfl rfl (WH.fork ?_ ?_)
      ·refine WH.yvs rfl (LJ.Y.loadL rfl rfl (qZ g6_12_1) (nK g6_12_1) rfl (by kernel_rfl)) rfl rfl rfl rfl rfl ?_
       refine He 163 tk ek rfl rfl rfl rfl tv rfl rfl (WH.freezeT 163 ay ([(⟨x3.1,(x5_5_1.1.getD (0:Int).toNat default),(x5_5_1.1.getD (1:Int).toNat default)⟩:ao)]:List ao) rfl rfl rfl rfl (WH.appT ay (bF a0.p.Funcs) ([(⟨x3.1,(x5_5_1.1.getD (0:Int).toNat default),(x5_5_1.1.getD (1:Int).toNat default)⟩:ao)]:List ao) tk ek rfl rfl (fun _=>rfl) (fun _=>rfl) rfl rfl rfl rfl rfl (bO g7_12_1) rfl rfl rfl rfl rfl rfl rfl ?_))
       refine WH.val tk rfl rfl rfl rfl rfl tv rfl rfl (WH.yvs rfl (LJ.Y.fieldRel (fo:=2) rfl rfl (by kernel_rfl)) rfl rfl rfl rfl rfl (WH.storeL ak a0.p.Funcs (⟨(a0.p.Funcs.getD (a0.p.Funcs.length - 1) default).Args,(a0.p.Funcs.getD (a0.p.Funcs.length - 1) default).Locals,(bF a0.p.Funcs)++([(⟨x3.1,(x5_5_1.1.getD (0:Int).toNat default),(x5_5_1.1.getD (1:Int).toNat default)⟩:ao)]:List ao)⟩:al) (IntKind.i64.wrap (((a0.p.Funcs.map ak).length:Int) - 1)) rfl rfl rfl rfl rfl (fl g6_12_1) (fun _=>rfl) rfl (by kernel_rfl) rfl rfl rfl rfl rfl rfl rfl ?_))
       exact WH.row 4 ((bF (a0.p.Funcs.set (a0.p.Funcs.length - 1) (⟨(a0.p.Funcs.getD (a0.p.Funcs.length - 1) default).Args,(a0.p.Funcs.getD (a0.p.Funcs.length - 1) default).Locals,(bF a0.p.Funcs)++([(⟨x3.1,(x5_5_1.1.getD (0:Int).toNat default),(x5_5_1.1.getD (1:Int).toNat default)⟩:ao)]:List ao)⟩:al))).map ay) rfl (congrArg (List.map ay) (jh (L:=a0.p.Funcs) (x:=(⟨(a0.p.Funcs.getD (a0.p.Funcs.length - 1) default).Args,(a0.p.Funcs.getD (a0.p.Funcs.length - 1) default).Locals,(bF a0.p.Funcs)++([(⟨x3.1,(x5_5_1.1.getD (0:Int).toNat default),(x5_5_1.1.getD (1:Int).toNat default)⟩:ao)]:List ao)⟩:al)) g6_12_1).symm) rfl (Hn rfl (Lw q1 p5))
      ·refine He 163 tk ek rfl rfl rfl rfl tv rfl rfl (WH.freezeT 163 ay ([(⟨x3.1,(x5_5_1.1.getD (0:Int).toNat default),(x5_5_1.1.getD (1:Int).toNat default)⟩:ao)]:List ao) rfl rfl rfl rfl (WH.yvs rfl (LJ.Y.loadL rfl rfl (qZ g6_12_1) (nK g6_12_1) rfl (by kernel_rfl)) rfl rfl rfl rfl rfl ?_))
       refine WH.appT ay (bF a0.p.Funcs) ([(⟨x3.1,(x5_5_1.1.getD (0:Int).toNat default),(x5_5_1.1.getD (1:Int).toNat default)⟩:ao)]:List ao) tk ek rfl rfl (fun _=>rfl) (fun _=>rfl) rfl rfl rfl rfl rfl (bO g7_12_1) rfl rfl rfl rfl rfl rfl rfl ?_
       refine WH.val tk rfl rfl rfl rfl rfl tv rfl rfl (WH.yvs rfl (LJ.Y.fieldRel (fo:=2) rfl rfl (by kernel_rfl)) rfl rfl rfl rfl rfl (WH.storeL ak a0.p.Funcs (⟨(a0.p.Funcs.getD (a0.p.Funcs.length - 1) default).Args,(a0.p.Funcs.getD (a0.p.Funcs.length - 1) default).Locals,(bF a0.p.Funcs)++([(⟨x3.1,(x5_5_1.1.getD (0:Int).toNat default),(x5_5_1.1.getD (1:Int).toNat default)⟩:ao)]:List ao)⟩:al) (IntKind.i64.wrap (((a0.p.Funcs.map ak).length:Int) - 1)) rfl rfl rfl rfl rfl (fl g6_12_1) (fun _=>rfl) rfl (by kernel_rfl) rfl rfl rfl rfl rfl rfl rfl ?_))
       exact WH.row 4 ((bF (a0.p.Funcs.set (a0.p.Funcs.length - 1) (⟨(a0.p.Funcs.getD (a0.p.Funcs.length - 1) default).Args,(a0.p.Funcs.getD (a0.p.Funcs.length - 1) default).Locals,(bF a0.p.Funcs)++([(⟨x3.1,(x5_5_1.1.getD (0:Int).toNat default),(x5_5_1.1.getD (1:Int).toNat default)⟩:ao)]:List ao)⟩:al))).map ay) rfl (congrArg (List.map ay) (jh (L:=a0.p.Funcs) (x:=(⟨(a0.p.Funcs.getD (a0.p.Funcs.length - 1) default).Args,(a0.p.Funcs.getD (a0.p.Funcs.length - 1) default).Locals,(bF a0.p.Funcs)++([(⟨x3.1,(x5_5_1.1.getD (0:Int).toNat default),(x5_5_1.1.getD (1:Int).toNat default)⟩:ao)]:List ao)⟩:al)) g6_12_1).symm) rfl (Hn rfl (Lw q1 p5))
     ·refine He 163 tk ek rfl rfl rfl rfl tv rfl rfl (WH.freezeT 163 ay ([(⟨x3.1,(x5_5_1.1.getD (0:Int).toNat default),(x5_5_1.1.getD (1:Int).toNat default)⟩:ao)]:List ao) rfl rfl rfl rfl (WH.yvs rfl (LJ.Y.fieldRel (fo:=2) rfl rfl (by kernel_rfl)) rfl rfl rfl rfl rfl (WH.yvs rfl (LJ.Y.loadL rfl rfl (qZ g6_12_1) (nK g6_12_1) rfl (by kernel_rfl)) rfl rfl rfl rfl rfl ?_)))
      refine WH.appT ay (bF a0.p.Funcs) ([(⟨x3.1,(x5_5_1.1.getD (0:Int).toNat default),(x5_5_1.1.getD (1:Int).toNat default)⟩:ao)]:List ao) tk ek rfl rfl (fun _=>rfl) (fun _=>rfl) rfl rfl rfl rfl rfl (bO g7_12_1) rfl rfl rfl rfl rfl rfl rfl ?_
      refine WH.val tk rfl rfl rfl rfl rfl tv rfl rfl (WH.yvs rfl (LJ.Y.fieldRel (fo:=2) rfl rfl (by kernel_rfl)) rfl rfl rfl rfl rfl (WH.storeL ak a0.p.Funcs (⟨(a0.p.Funcs.getD (a0.p.Funcs.length - 1) default).Args,(a0.p.Funcs.getD (a0.p.Funcs.length - 1) default).Locals,(bF a0.p.Funcs)++([(⟨x3.1,(x5_5_1.1.getD (0:Int).toNat default),(x5_5_1.1.getD (1:Int).toNat default)⟩:ao)]:List ao)⟩:al) (IntKind.i64.wrap (((a0.p.Funcs.map ak).length:Int) - 1)) rfl rfl rfl rfl rfl (fl g6_12_1) (fun _=>rfl) rfl (by kernel_rfl) rfl rfl rfl rfl rfl rfl rfl ?_))
      exact WH.row 4 ((bF (a0.p.Funcs.set (a0.p.Funcs.length - 1) (⟨(a0.p.Funcs.getD (a0.p.Funcs.length - 1) default).Args,(a0.p.Funcs.getD (a0.p.Funcs.length - 1) default).Locals,(bF a0.p.Funcs)++([(⟨x3.1,(x5_5_1.1.getD (0:Int).toNat default),(x5_5_1.1.getD (1:Int).toNat default)⟩:ao)]:List ao)⟩:al))).map ay) rfl (congrArg (List.map ay) (jh (L:=a0.p.Funcs) (x:=(⟨(a0.p.Funcs.getD (a0.p.Funcs.length - 1) default).Args,(a0.p.Funcs.getD (a0.p.Funcs.length - 1) default).Locals,(bF a0.p.Funcs)++([(⟨x3.1,(x5_5_1.1.getD (0:Int).toNat default),(x5_5_1.1.getD (1:Int).toNat default)⟩:ao)]:List ao)⟩:al)) g6_12_1).symm) rfl (Hn rfl (Lw q1 p5))
    ·refine He 163 tk ek rfl rfl rfl rfl tv rfl rfl (WH.freezeT 163 ay ([(⟨x3.1,(x5_5_1.1.getD (0:Int).toNat default),(x5_5_1.1.getD (1:Int).toNat default)⟩:ao)]:List ao) rfl rfl rfl rfl (WH.val tk rfl rfl rfl rfl rfl tv rfl rfl (WH.yvs rfl (LJ.Y.fieldRel (fo:=2) rfl rfl (by kernel_rfl)) rfl rfl rfl rfl rfl (WH.yvs rfl (LJ.Y.loadL rfl rfl (qZ g6_12_1) (nK g6_12_1) rfl (by kernel_rfl)) rfl rfl rfl rfl rfl ?_))))
     refine WH.appT ay (bF a0.p.Funcs) ([(⟨x3.1,(x5_5_1.1.getD (0:Int).toNat default),(x5_5_1.1.getD (1:Int).toNat default)⟩:ao)]:List ao) tk ek rfl rfl (fun _=>rfl) (fun _=>rfl) rfl rfl rfl rfl rfl (bO g7_12_1) rfl rfl rfl rfl rfl rfl rfl ?_
     refine WH.val tk rfl rfl rfl rfl rfl tv rfl rfl (WH.yvs rfl (LJ.Y.fieldRel (fo:=2) rfl rfl (by kernel_rfl)) rfl rfl rfl rfl rfl (WH.storeL ak a0.p.Funcs (⟨(a0.p.Funcs.getD (a0.p.Funcs.length - 1) default).Args,(a0.p.Funcs.getD (a0.p.Funcs.length - 1) default).Locals,(bF a0.p.Funcs)++([(⟨x3.1,(x5_5_1.1.getD (0:Int).toNat default),(x5_5_1.1.getD (1:Int).toNat default)⟩:ao)]:List ao)⟩:al) (IntKind.i64.wrap (((a0.p.Funcs.map ak).length:Int) - 1)) rfl rfl rfl rfl rfl (fl g6_12_1) (fun _=>rfl) rfl (by kernel_rfl) rfl rfl rfl rfl rfl rfl rfl ?_))
     exact WH.row 4 ((bF (a0.p.Funcs.set (a0.p.Funcs.length - 1) (⟨(a0.p.Funcs.getD (a0.p.Funcs.length - 1) default).Args,(a0.p.Funcs.getD (a0.p.Funcs.length - 1) default).Locals,(bF a0.p.Funcs)++([(⟨x3.1,(x5_5_1.1.getD (0:Int).toNat default),(x5_5_1.1.getD (1:Int).toNat default)⟩:ao)]:List ao)⟩:al))).map ay) rfl (congrArg (List.map ay) (jh (L:=a0.p.Funcs) (x:=(⟨(a0.p.Funcs.getD (a0.p.Funcs.length - 1) default).Args,(a0.p.Funcs.getD (a0.p.Funcs.length - 1) default).Locals,(bF a0.p.Funcs)++([(⟨x3.1,(x5_5_1.1.getD (0:Int).toNat default),(x5_5_1.1.getD (1:Int).toNat default)⟩:ao)]:List ao)⟩:al)) g6_12_1).symm) rfl (Hn rfl (Lw q1 p5))
   ·refine Qn (G (R 2 rfl (NQ (Wt ?_))))
    cases H
    exact Ea rfl rfl rfl p5
theorem fL (n0 n1 n2 n3 n4:Nat) (hn:ib [n0,n1,n2,n3,n4]=true) (a0:aU) (a1:ByteArray) {r:Bool×aU} (H:aX a0 a1=some r):LJ.Spec Tryz.prog 59 [.ptr n0 0, .d (.str a1)] [(n0, .box 72 [.own n1, .own n2, .own n3]),(n1, .row 44 3 (a0.p.Decls.map ai)),(n2, .row 45 1 (a0.p.Waits.map ae)),(n3, .rowl 49 3 2 (some n4) (a0.p.Funcs.map ak)),(n4, .row 28 3 ((bF a0.p.Funcs).map ay))] (.d (.bool r.1)) [(n1, .row 44 3 (r.2.p.Decls.map ai)),(n2, .row 45 1 (r.2.p.Waits.map ae)),(n3, .rowl 49 3 2 (some n4) (r.2.p.Funcs.map ak)),(n4, .row 28 3 ((bF r.2.p.Funcs).map ay)),(n0, .box 72 [.own n1, .own n2, .own n3])]:=
 Spec.names [n0,n1,n2,n3,n4] hn rfl rfl (fK a0 a1 H)
theorem fM:aE Tryz.prog 59 Tryz.f59:=⟨Tryz.func59,rfl,by kernel_rfl⟩
theorem sh (a0:ByteArray) {r:Int} (H:hH a0=some r):LJ.Spec Tryz.prog 61 [.d (.str a0)] [] (.d (.int .i64 r)) []:=by
 refine LJ.Spec.code Tryz.func61 rfl 13 rfl rfl [] rfl fun w0 F0 S0 B0=>?_
 unfold hH at H
 refine G (R 1 rfl (NS (G (R 1 rfl (NQ (Wb (Wl (ι:= {x:Nat×Int //dB a0 x.1 x.2=some r}) (fun x=>[(0, .d (.str a0)),(3, .d (.int .i64 x.1.2))]) (fun x=>[]) (fun x=>x.1.1) ⟨(fuel,1),H⟩ (Lm p2 tv) fun x=>?_)))))))
 obtain ⟨⟨k2,s1⟩,H⟩:=x
 rcases k2 with _ | k2
 ·exact aO H
 rw [dB] at H
 refine Ws (G (R 2 rfl (NQ (Wd rfl H (fun H=>?_) (fun H=>?_)))))
 ·refine Wk (Qn (Ws (Wb (G (R 1 rfl ?_)))))
  obtain ⟨x4,hx4,H⟩:=ar H
  refine Cl [] (lY _ hx4) lZ rfl tv rfl (R 2 rfl (NQ (Wd rfl H (fun H=>?_) (fun H=>?_))))
  ·refine G (R 2 rfl (NQ (Wt (QB.r (QT.r (QT.r (QB.r (QT.r ?_))))))))
   cases H
   exact Ea rfl rfl rfl tv
  refine Wk (Qb (Qn ?_))
  exact Wg (R 3 rfl (NQ (⟨⟨(k2,IntKind.i64.wrap (s1+1)),H⟩,Z,Lm p2 tv⟩)))
 refine WC.exit (Qx (Qx (Qh (Qn ?_))))
 refine G (R 1 rfl (NQ (Wt ?_)))
 cases H
 exact Ea rfl rfl rfl tv
theorem si:aE Tryz.prog 61 Tryz.f61:=⟨Tryz.func61,rfl,by kernel_rfl⟩
theorem uC (a0:ByteArray) {r:aa×Bool} (H:iv a0=some r):LJ.Spec Tryz.prog 78 [.d (.str a0)] [] (.tup [.d (.agg [.int .i64 r.1.Kind, .int .i64 r.1.Obj, .int .i64 r.1.N]), .d (.bool r.2)]) []:=by
 refine LJ.Spec.code Tryz.func78 rfl 75 rfl rfl [] rfl fun w0 F0 S0 B0=>?_
 unfold iv at H
 refine G (Wa 102 tk rfl rfl rfl (R 1 rfl (N (R 1 rfl ?_))))
 obtain ⟨x1,hx1,H⟩:=ar H
 refine Cl [] (eT _ _ hx1) eU rfl tv rfl (R 7 rfl (N (R 1 rfl (Wa 107 tk rfl rfl rfl (Ef 0 rfl (NS (G (R 1 rfl (NQ (Wb (Wl (ι:= {x:Nat×(Int×Int) //cm x1 x.1 x.2=some r}) (fun x=>[(2, .ptr 102 0),(4, .d (.str x1.1)),(5, .d (.str x1.2.1)),(6, .d (.bool x1.2.2)),(7, .ptr 107 0),(8, .d (.int .i64 x.1.2.1))]) (fun x=>[(102, .box 80 [.d (.int .i64 0), .d (.int .i64 0), .d (.int .i64 0)]),(107, .box 80 [.d (.int .i64 x.1.2.2), .d (.int .i64 0), .d (.int .i64 0)])]) (fun x=>x.1.1) ⟨(fuel,(1,0)),H⟩ (Lm p6 p2) fun x=>?_)))))))))))
 obtain ⟨⟨k3,s2⟩,H⟩:=x
 rcases k3 with _ | k3
 ·exact aO H
 rw [cm] at H
 refine Ws (G (R 2 rfl (NQ (Wd rfl H (fun H=>?_) (fun H=>?_)))))
 ·refine Wk (Qn (Ws (Wb (G (R 2 rfl (Ef 126 rfl (WL.freezeT 126 aN ([(⟨s2.1,0,0⟩:aa)]:List aa) rfl rfl rfl rfl (Ef 127 rfl (WL.freezeT 127 aw ([([(⟨s2.1,0,0⟩:aa)]:List aa)]:List (List aa)) rfl rfl rfl rfl ?_)))))))))
  obtain ⟨x5,hx5,H⟩:=ar H
  refine Cl [] (l5 _ hx5) l6 rfl tv rfl (R 1 rfl (N (R 2 rfl ?_)))
  obtain ⟨x6,hx6,H⟩:=ar H
  refine Cl [] (l7 _ _ hx6) l8 rfl tv rfl ?_
  obtain ⟨g7,H⟩:=aq H
  refine RS 3 rfl ⟨(ll g7),tv⟩ (NQ (Wd rfl H (fun H=>?_) (fun H=>?_)))
  ·refine Wg (R 2 rfl (Ef 0 rfl (Wn (Qb (Qn ?_)))))
   exact Wg (R 3 rfl (NQ (⟨⟨(k3,(IntKind.i64.wrap (s2.1+1),s2.1)),H⟩,Z,Lm p6 p2⟩)))
  refine Wk (Qb (Qn ?_))
  exact Wg (R 3 rfl (NQ (⟨⟨(k3,(IntKind.i64.wrap (s2.1+1),s2.2)),H⟩,Z,Lm p6 p2⟩)))
 refine WC.exit (Qx (Qx (Qh (Qn ?_))))
 refine Ws (G (R 4 rfl (Wx 2 3 false tk sg0 rfl rfl (fun _=>tv) (RS 1 rfl ⟨by first | exact id | exact fun h=>by rw [h];rfl | simp_all,tv⟩ (NQ (Wd rfl H (fun H=>?_) (fun H=>?_)))))))
 ·refine G (R 1 rfl (Ef 0 rfl (R 1 rfl (NQ (Wt (QT.r ?_))))))
  cases H
  exact Ends.autoC tk rfl rfl rfl tv
 refine Wk (Qn (G (R 1 rfl ?_)))
 obtain ⟨x10,hx10,H⟩:=ar H
 refine Cl [] (eT _ _ hx10) eU rfl tv rfl (R 7 rfl (NS (G (R 5 rfl (NQ (Wd rfl H (fun H=>?_) (fun H=>?_)))))))
 ·refine G (R 1 rfl (Ef 0 rfl (R 1 rfl (NQ (Wt (QT.r ?_))))))
  cases H
  exact Ends.autoC tk rfl rfl rfl tv
 refine Wk (Qn (Ws (G (R 1 rfl ?_))))
 obtain ⟨x12,hx12,H⟩:=ar H
 refine Cl [] (gS _ hx12) gU rfl tv rfl (R 4 rfl (Ef 0 rfl (R 1 rfl (N (R 2 rfl (Wx 1 1 true tk sg0 rfl rfl (fun _=>tv) (RS 1 rfl ⟨by first | exact id | exact fun h=>by rw [h];rfl | simp_all,tv⟩ (NQ (Wd rfl H (fun H=>?_) (fun H=>?_))))))))))
 ·refine Wg (R 1 rfl ?_)
  obtain ⟨x14,hx14,H⟩:=ar H
  refine Cl [] (gS _ hx14) gU rfl tv rfl (R 4 rfl (Ef 0 rfl (R 1 rfl (N (R 2 rfl (Ef 0 rfl (R 1 rfl (NQ (Wt ?_)))))))))
  cases H
  exact Ends.autoC tk rfl rfl rfl tv
 refine Wk (Qn (G (R 2 rfl (Ef 0 rfl (R 1 rfl (NQ (Wt ?_)))))))
 cases H
 exact Ends.autoC tk rfl rfl rfl tv
theorem uD:aE Tryz.prog 78 Tryz.f78:=⟨Tryz.func78,rfl,by kernel_rfl⟩
theorem sj (a0:ByteArray) {r:(List (List aa))×Bool} (H:fW a0=some r):LJ.Spec Tryz.prog 63 [.d (.str a0)] [] (.tup [.d (slT aw r.1), .d (.bool r.2)]) []:=by
 refine LJ.Spec.code Tryz.func63 rfl 44 rfl rfl [] rfl fun w0 F0 S0 B0=>?_
 unfold fW at H
 refine G (R 2 rfl (N (R 1 rfl (NS (G (R 1 rfl ?_))))))
 obtain ⟨x1,hx1,H⟩:=ar H
 refine Cl [] (dR _ _ hx1) dS rfl tv rfl (R 2 rfl (NQ (Wb (WC.nilrow (t:=4) 1038 76 1 rfl rfl rfl (Wl (ι:= {x:Nat×(Int×(List (List aa))) //bA x1 x.1 x.2=some r}) (fun x=>[(4, .own 1038),(13, .d (slT bJ x1)),(14, .d (.int .i64 (x1.length:Int))),(15, .d (.int .i64 x.1.2.1))]) (fun x=>[(1038, .row 76 1 (x.1.2.2.map aw))]) (fun x=>x.1.1) ⟨(fuel,(0,([]:List (List aa)))),H⟩ (Lm p4 p1) fun x=>?_)))))
 obtain ⟨⟨k4,s3⟩,H⟩:=x
 rcases k4 with _ | k4
 ·exact aO H
 rw [bA] at H
 refine G (R 1 rfl (NS (Wd rfl H (fun H=>?_) (fun H=>?_))))
 ·refine Wk (Qn ?_)
  obtain ⟨K6,hK6,H⟩:=du H
  refine WC.cut (fun E m=>∃ s7:List (List aa),K6 s7=some r∧gu E m [(4, .own 1038),(13, .d (slT bJ x1)),(14, .d (.int .i64 (x1.length:Int))),(15, .d (.int .i64 s3.1))] [(1038, .row 76 1 (s7.map aw))]) ?_ ?_
  ·refine Wb (G ?_)
   obtain ⟨g8,H⟩:=aq H
   refine RS 3 rfl ⟨⟨(av g8).1,(av g8).2,rfl⟩,tv⟩ (N (R 1 rfl (NS (G (R 1 rfl ?_)))))
   obtain ⟨x9,hx9,H⟩:=ar H
   refine Cl [] (dR _ _ hx9) dS rfl tv rfl (R 2 rfl (NQ (Wb (WC.nilrow (t:=7) 1033 80 3 rfl rfl rfl (Wl (ι:= {x:Nat×(Int×(List aa)) //bL s3 K6 x9 x.1 x.2=some r}) (fun x=>[(4, .own 1038),(7, .own 1033),(13, .d (slT bJ x1)),(14, .d (.int .i64 (x1.length:Int))),(15, .d (.int .i64 s3.1)),(20, .d (slT bJ x9)),(21, .d (.int .i64 (x9.length:Int))),(22, .d (.int .i64 x.1.2.1))]) (fun x=>[(1033, .row 80 3 (x.1.2.2.map aN)),(1038, .row 76 1 (s3.2.map aw))]) (fun x=>x.1.1) ⟨(fuel,(0,([]:List aa))),H⟩ (Lm p8 p2) fun x=>?_)))))
   obtain ⟨⟨k12,s11⟩,H⟩:=x
   rcases k12 with _ | k12
   ·exact aO H
   rw [bL] at H
   refine G (R 1 rfl (NS (Wd rfl H (fun H=>?_) (fun H=>?_))))
   ·refine Wk (Qn (Ws (Wb (G ?_))))
    obtain ⟨g14,H⟩:=aq H
    refine RS 3 rfl ⟨⟨(av g14).1,(av g14).2,rfl⟩,tv⟩ (N (R 1 rfl ?_))
    obtain ⟨x15,hx15,H⟩:=ar H
    refine Cl [] (uC _ hx15) uD rfl tv rfl (R 3 rfl (Wa 110 tk rfl rfl rfl (Ef 0 rfl (R 1 rfl (NS (G (R 2 rfl (NQ (Wd rfl H (fun H=>?_) (fun H=>?_))))))))))
    ·refine G (R 2 rfl (NQ (WC.nilT 2 aw rfl (Wt (QT.r (QB.r (QT.r (QT.r (QB.r (QT.r (QB.r (QT.r (QT.r (QB.r (QT.r ?_)))))))))))))))
     cases H
     exact Ea rfl rfl rfl tv
    refine Wk (Qn (Wg (R 2 rfl (Ef 135 rfl (WL.freezeT 135 aN ([x15.1]:List aa) rfl rfl rfl rfl ?_)))))
    obtain ⟨g17,H⟩:=aq H
    refine WL.appT aN s11.2 ([x15.1]:List aa) tk ek rfl rfl (fun _=>rfl) (fun _=>rfl) rfl rfl rfl rfl (bO g17) rfl rfl rfl rfl rfl ?_
    refine R 1 rfl (Wn (Qb (Qn ?_)))
    exact Wg (R 2 rfl (NQ (⟨⟨(k12,(IntKind.i64.wrap (s11.1+1),s11.2++([x15.1]:List aa))),H⟩,Z,Lm p8 p2⟩)))
   refine WC.exit (Qx (Qx (Qh (Qn ?_))))
   refine Wg (R 2 rfl (WL.freezeT 1033 aN s11.2 rfl rfl rfl rfl (Ef 140 rfl (WL.freezeT 140 aw ([s11.2]:List (List aa)) rfl rfl rfl rfl ?_))))
   obtain ⟨g18,H⟩:=aq H
   refine WL.appT aw s3.2 ([s11.2]:List (List aa)) tk ek rfl rfl (fun _=>rfl) (fun _=>rfl) rfl rfl rfl rfl (bO g18) rfl rfl rfl rfl rfl ?_
   refine R 1 rfl (Wn (Qb (Qn ?_)))
   exact ⟨s3.2++([s11.2]:List (List aa)),H,Lw q4 p1⟩
  ·rintro E m ⟨s7,H,hl⟩
   refine WC.lessW hl ?_
   replace H:=(hK6 _).symm.trans H
   try dsimp only at H
   exact Wg (R 2 rfl (NQ (⟨⟨(k4,(IntKind.i64.wrap (s3.1+1),s7)),H⟩,Z,Lm p4 p1⟩)))
 refine WC.exit (Qx (Qx (Qh (Qn ?_))))
 refine G (R 3 rfl (NQ (WC.freezeT 1038 aw s3.2 rfl rfl rfl rfl (Wt ?_))))
 cases H
 exact Ea rfl rfl rfl tv
theorem sk:aE Tryz.prog 63 Tryz.f63:=⟨Tryz.func63,rfl,by kernel_rfl⟩
theorem jW (a0:aU) (a1:ByteArray) {r:Bool×aU} (H:aQ a0 a1=some r):LJ.Spec Tryz.prog 33 [.ptr 0 0, .d (.str a1)] [(0, .box 72 [.own 1, .own 2, .own 3]),(1, .row 44 3 (a0.p.Decls.map ai)),(2, .row 45 1 (a0.p.Waits.map ae)),(3, .rowl 49 3 2 (some 4) (a0.p.Funcs.map ak)),(4, .row 28 3 ((bF a0.p.Funcs).map ay))] (.d (.bool r.1)) [(1, .row 44 3 (r.2.p.Decls.map ai)),(2, .row 45 1 (r.2.p.Waits.map ae)),(3, .rowl 49 3 2 (some 4) (r.2.p.Funcs.map ak)),(4, .row 28 3 ((bF r.2.p.Funcs).map ay)),(0, .box 72 [.own 1, .own 2, .own 3])]:=by
 refine LJ.Spec.code Tryz.func33 rfl 145 rfl rfl [0] rfl fun w0 F0 S0 B0=>?_
 unfold aQ at H
 refine G (R 1 rfl (NS (G (R 1 rfl ?_))))
 obtain ⟨x1,hx1,H⟩:=ar H
 refine Cl [] (iK _ _ hx1) iL rfl tv rfl (R 5 rfl (N (R 1 rfl (NQ (Wd rfl H (fun H=>?_) (fun H=>?_))))))
 ·refine G (R 2 rfl ?_)
  obtain ⟨x3,hx3,H⟩:=ar H
  refine Cl [1,2,3,4] (fL 0 1 2 3 4 rfl _ _ hx3) fM rfl p5 rfl (R 1 rfl (NQ (Wt (QT.r ?_))))
  cases H
  exact Ea rfl rfl rfl p5
 refine Wk (Qn (G (R 1 rfl ?_)))
 obtain ⟨x4,hx4,H⟩:=ar H
 refine Cl [] (eT _ _ hx4) eU rfl tv rfl (R 7 rfl (N (R 1 rfl ?_)))
 obtain ⟨x5,hx5,H⟩:=ar H
 refine Cl [] (dR _ _ hx5) dS rfl tv rfl (R 1 rfl (NS (G (R 1 rfl (NQ (Wb (G (R 2 rfl (NQ (Wd rfl H (fun H=>?_) (fun H=>?_)))))))))))
 ·refine G ?_
  obtain ⟨g7,H⟩:=aq H
  refine RS 3 rfl ⟨⟨(av g7).1,(av g7).2,rfl⟩,tv⟩ ?_
  obtain ⟨x8,hx8,H⟩:=ar H
  refine Cl [] (sh _ hx8) si rfl tv rfl (R 1 rfl (Wa 111 tk rfl rfl rfl (Ef 0 rfl (NQ (Ws ?_)))))
  obtain ⟨g9_1_1,H⟩:=aq H
  obtain ⟨x9_4_1,hx9_4_1,H⟩:=ar H
  obtain ⟨x9_5_1,hx9_5_1,H⟩:=ar H
  refine WC.heldF [(0, .ptr 0 0),(11, .ptr 111 0),(12, .ptr 112 0),(13, .d (.bool x9_5_1.2))] [(0, .box 72 [.own 1, .own 2, .own 3]),(1, .row 44 3 (a0.p.Decls.map ai)),(2, .row 45 1 (a0.p.Waits.map ae)),(3, .rowl 49 3 2 (some 4) (a0.p.Funcs.map ak)),(4, .row 28 3 ((bF a0.p.Funcs).map ay)),(111, .box 44 [.d (.int .i64 x8), .d (.int .i64 0), .d (.int .i64 0)]),(112, .box 89 [.d (.int .i64 (x9_5_1.1.getD 0 default)), .d (.int .i64 (x9_5_1.1.getD 1 default))])] (sT 0 (sT 1 (sT 2 (sT 3 (fk (sf 4 (fk (sf 5 (sT 6 (fk (sf 7 (fk (sf 8 (sf 9 (sf 10 (sT 11 sd)))) (sf 9 (fk (sf 8 (sf 10 (sT 11 sd))) (sf 10 (sf 8 (sT 11 sd))))))) (fk (sf 8 (fk (sf 7 (sf 9 (sf 10 (sT 11 sd)))) (sf 9 (sf 7 (sf 10 (sT 11 sd)))))) (sf 9 (fk (sf 7 (fk (sf 8 (sf 10 (sT 11 sd))) (sf 10 (sf 8 (sT 11 sd))))) (sf 8 (sf 7 (sf 10 (sT 11 sd)))))))))) (sf 9 (sf 5 (sT 6 (fk (sf 7 (fk (sf 8 (sf 10 (sT 11 sd))) (sf 10 (sf 8 (sT 11 sd))))) (sf 8 (sf 7 (sf 10 (sT 11 sd)))))))))) (sf 9 (sf 4 (sf 5 (sT 6 (fk (sf 7 (fk (sf 8 (sf 10 (sT 11 sd))) (sf 10 (sf 8 (sT 11 sd))))) (sf 8 (sf 7 (sf 10 (sT 11 sd)))))))))))))) [0,1,2,3,111,1000001,1000002,1000003] [0,111,1,2,3] rfl (by kernel_rfl) rfl (by kernel_rfl) rfl rfl (fun _ h=>h) rfl rfl rfl (fun FK NK wK K=>?_) ?_
  ·refine Hr 1 tk rfl rfl rfl rfl tv (WH.yv rfl (LJ.Y.sliceT bJ x5 tk rfl (fun _=>rfl) (some (.const (.int .i64 1))) none (1:Int) (x5.length:Int) rfl ⟨_,rfl⟩ rfl rfl rfl (lp g9_1_1)) rfl rfl rfl (Hr 2 tk rfl rfl rfl rfl tv (WH.fork ?_ ?_)))
   ·refine WH.call [] rfl (iI _ hx9_4_1) iJ rfl rfl tv rfl rfl rfl rfl rfl (WH.fork ?_ ?_)
    ·refine WH.call [] rfl (fg _ _ hx9_5_1) fh rfl rfl tv rfl rfl rfl rfl rfl (WH.mv rfl rfl rfl rfl rfl rfl rfl rfl rfl (WH.fork ?_ (WH.fork ?_ ?_)))
     ·refine WH.val tk rfl rfl rfl rfl rfl tv rfl rfl (WH.fork ?_ ?_)
      ·exact WH.val tk rfl rfl rfl rfl rfl tv rfl rfl (WH.allocZ 112 [.int .i64 0, .int .i64 0] rfl rfl (by kernel_rfl) rfl rfl rfl rfl rfl rfl (He 0 tk ek rfl rfl rfl rfl tv rfl rfl (Hr 1 tk rfl rfl rfl rfl tv (Hn rfl (Lw q4 p7)))))
      ·refine WH.allocZ 112 [.int .i64 0, .int .i64 0] rfl rfl (by kernel_rfl) rfl rfl rfl rfl rfl rfl (WH.fork ?_ ?_)
       ·exact WH.val tk rfl rfl rfl rfl rfl tv rfl rfl (He 0 tk ek rfl rfl rfl rfl tv rfl rfl (Hr 1 tk rfl rfl rfl rfl tv (Hn rfl (Lw q4 p7))))
       ·exact He 0 tk ek rfl rfl rfl rfl tv rfl rfl (WH.val tk rfl rfl rfl rfl rfl tv rfl rfl (Hr 1 tk rfl rfl rfl rfl tv (Hn rfl (Lw q4 p7))))
     ·refine WH.val tk rfl rfl rfl rfl rfl tv rfl rfl (WH.fork ?_ ?_)
      ·exact WH.val tk rfl rfl rfl rfl rfl tv rfl rfl (WH.allocZ 112 [.int .i64 0, .int .i64 0] rfl rfl (by kernel_rfl) rfl rfl rfl rfl rfl rfl (He 0 tk ek rfl rfl rfl rfl tv rfl rfl (Hr 1 tk rfl rfl rfl rfl tv (Hn rfl (Lw q4 p7)))))
      ·exact WH.allocZ 112 [.int .i64 0, .int .i64 0] rfl rfl (by kernel_rfl) rfl rfl rfl rfl rfl rfl (WH.val tk rfl rfl rfl rfl rfl tv rfl rfl (He 0 tk ek rfl rfl rfl rfl tv rfl rfl (Hr 1 tk rfl rfl rfl rfl tv (Hn rfl (Lw q4 p7)))))
     ·refine WH.allocZ 112 [.int .i64 0, .int .i64 0] rfl rfl (by kernel_rfl) rfl rfl rfl rfl rfl rfl (WH.fork ?_ ?_)
      ·refine WH.val tk rfl rfl rfl rfl rfl tv rfl rfl (WH.fork ?_ ?_)
       ·exact WH.val tk rfl rfl rfl rfl rfl tv rfl rfl (He 0 tk ek rfl rfl rfl rfl tv rfl rfl (Hr 1 tk rfl rfl rfl rfl tv (Hn rfl (Lw q4 p7))))
       ·exact He 0 tk ek rfl rfl rfl rfl tv rfl rfl (WH.val tk rfl rfl rfl rfl rfl tv rfl rfl (Hr 1 tk rfl rfl rfl rfl tv (Hn rfl (Lw q4 p7))))
      ·exact WH.val tk rfl rfl rfl rfl rfl tv rfl rfl (WH.val tk rfl rfl rfl rfl rfl tv rfl rfl (He 0 tk ek rfl rfl rfl rfl tv rfl rfl (Hr 1 tk rfl rfl rfl rfl tv (Hn rfl (Lw q4 p7)))))
    ·refine WH.allocZ 112 [.int .i64 0, .int .i64 0] rfl rfl (by kernel_rfl) rfl rfl rfl rfl rfl rfl (WH.call [] rfl (fg _ _ hx9_5_1) fh rfl rfl tv rfl rfl rfl rfl rfl (WH.mv rfl rfl rfl rfl rfl rfl rfl rfl rfl (WH.fork ?_ ?_)))
     ·refine WH.val tk rfl rfl rfl rfl rfl tv rfl rfl (WH.fork ?_ ?_)
      ·exact WH.val tk rfl rfl rfl rfl rfl tv rfl rfl (He 0 tk ek rfl rfl rfl rfl tv rfl rfl (Hr 1 tk rfl rfl rfl rfl tv (Hn rfl (Lw q4 p7))))
      ·exact He 0 tk ek rfl rfl rfl rfl tv rfl rfl (WH.val tk rfl rfl rfl rfl rfl tv rfl rfl (Hr 1 tk rfl rfl rfl rfl tv (Hn rfl (Lw q4 p7))))
     ·exact WH.val tk rfl rfl rfl rfl rfl tv rfl rfl (WH.val tk rfl rfl rfl rfl rfl tv rfl rfl (He 0 tk ek rfl rfl rfl rfl tv rfl rfl (Hr 1 tk rfl rfl rfl rfl tv (Hn rfl (Lw q4 p7)))))
   ·refine WH.allocZ 112 [.int .i64 0, .int .i64 0] rfl rfl (by kernel_rfl) rfl rfl rfl rfl rfl rfl (WH.call [] rfl (iI _ hx9_4_1) iJ rfl rfl tv rfl rfl rfl rfl rfl (WH.call [] rfl (fg _ _ hx9_5_1) fh rfl rfl tv rfl rfl rfl rfl rfl (WH.mv rfl rfl rfl rfl rfl rfl rfl rfl rfl (WH.fork ?_ ?_))))
    ·refine WH.val tk rfl rfl rfl rfl rfl tv rfl rfl (WH.fork ?_ ?_)
     ·exact WH.val tk rfl rfl rfl rfl rfl tv rfl rfl (He 0 tk ek rfl rfl rfl rfl tv rfl rfl (Hr 1 tk rfl rfl rfl rfl tv (Hn rfl (Lw q4 p7))))
     ·exact He 0 tk ek rfl rfl rfl rfl tv rfl rfl (WH.val tk rfl rfl rfl rfl rfl tv rfl rfl (Hr 1 tk rfl rfl rfl rfl tv (Hn rfl (Lw q4 p7))))
    ·exact WH.val tk rfl rfl rfl rfl rfl tv rfl rfl (WH.val tk rfl rfl rfl rfl rfl tv rfl rfl (He 0 tk ek rfl rfl rfl rfl tv rfl rfl (Hr 1 tk rfl rfl rfl rfl tv (Hn rfl (Lw q4 p7)))))
  ·refine Qn (Ws (Hp (.one 0 true (.one 1 true (.one 2 true (.one 3 true (.one 4 true (.one 5 false (.one 6 true (.one 7 false .done)))))))) [0,1,2,3,111,112,1000001,1000002,1000003] [0,112,1,2,3] rfl (by kernel_rfl) rfl (by kernel_rfl) rfl rfl (fun _ h=>h) rfl rfl rfl (fun _ _ _ h=>h) fun FK NK wK K=>?_))
   obtain ⟨g9,H⟩:=aq H
   refine WH.yv rfl (LJ.Y.idxPtrA 2 (0:Int) (by kernel_rfl) rfl rfl rfl (av g9)) rfl rfl rfl (WH.yv rfl (LJ.Y.loadPtrA 2 0 (fun k=> .int .i64 (x9_5_1.1.getD k default)) (0:Int) rfl rfl rfl (by kernel_rfl) rfl (av g9)) rfl rfl rfl ?_)
   obtain ⟨g10,H⟩:=aq H
   refine WH.yv rfl (LJ.Y.idxPtrA 2 (1:Int) (by kernel_rfl) rfl rfl rfl (av g10)) rfl rfl rfl (WH.yv rfl (LJ.Y.loadPtrA 2 0 (fun k=> .int .i64 (x9_5_1.1.getD k default)) (1:Int) rfl rfl rfl (by kernel_rfl) rfl (av g10)) rfl rfl rfl (Hr 1 tk rfl rfl rfl rfl tv (He 0 tk ek rfl rfl rfl rfl tv rfl rfl (Hr 1 tk rfl rfl rfl rfl tv (He 0 tk ek rfl rfl rfl rfl tv rfl rfl (WH.nil rfl (Qn (Ws ?_))))))))
   obtain ⟨g11_8_1,H⟩:=aq H
   refine WC.heldF [(0, .ptr 0 0),(11, .ptr 111 0),(13, .d (.bool x9_5_1.2))] [(0, .box 72 [.own 1, .own 2, .own 3]),(1, .row 44 3 ((a0.p.Decls++([(⟨x8,(x9_5_1.1.getD (0:Int).toNat default),(x9_5_1.1.getD (1:Int).toNat default)⟩:af)]:List af)).map ai)),(2, .row 45 1 (a0.p.Waits.map ae)),(3, .rowl 49 3 2 (some 4) (a0.p.Funcs.map ak)),(4, .row 28 3 ((bF a0.p.Funcs).map ay)),(111, .box 44 [.d (.int .i64 x8), .d (.int .i64 (x9_5_1.1.getD (0:Int).toNat default)), .d (.int .i64 (x9_5_1.1.getD (1:Int).toNat default))])] (sT 0 (sT 1 (sT 2 (sT 3 (sT 4 (sT 6 (fk (sf 5 (sf 7 (sf 8 (sT 9 (sT 10 (sT 11 (sf 12 sd))))))) (sf 7 (sf 5 (sf 8 (sT 9 (sT 10 (sT 11 (sf 12 sd)))))))))))))) [0,2,3,111,112,1000002,1000003] [111,112,2,3] rfl (by kernel_rfl) rfl (by kernel_rfl) rfl rfl (fun _ h=>h) rfl rfl rfl (fun FK NK wK K=>?_) ?_
   ·refine Hr 6 tk rfl rfl rfl rfl tv (WH.fork ?_ ?_)
    ·refine WH.val tk rfl rfl rfl rfl rfl tv rfl rfl (He 165 tk ek rfl rfl rfl rfl tv rfl rfl (WH.freezeT 165 ai ([(⟨x8,(x9_5_1.1.getD (0:Int).toNat default),(x9_5_1.1.getD (1:Int).toNat default)⟩:af)]:List af) rfl rfl rfl rfl (WH.appT ai a0.p.Decls ([(⟨x8,(x9_5_1.1.getD (0:Int).toNat default),(x9_5_1.1.getD (1:Int).toNat default)⟩:af)]:List af) tk ek rfl rfl (fun _=>rfl) (fun _=>rfl) rfl rfl rfl rfl rfl (bO g11_8_1) rfl rfl rfl rfl rfl rfl rfl ?_)))
     exact Hr 3 tk rfl rfl rfl rfl tv (He 0 tk ek rfl rfl rfl rfl tv rfl rfl (Hn rfl (Lw q3 p6)))
    ·refine He 165 tk ek rfl rfl rfl rfl tv rfl rfl (WH.freezeT 165 ai ([(⟨x8,(x9_5_1.1.getD (0:Int).toNat default),(x9_5_1.1.getD (1:Int).toNat default)⟩:af)]:List af) rfl rfl rfl rfl (WH.val tk rfl rfl rfl rfl rfl tv rfl rfl (WH.appT ai a0.p.Decls ([(⟨x8,(x9_5_1.1.getD (0:Int).toNat default),(x9_5_1.1.getD (1:Int).toNat default)⟩:af)]:List af) tk ek rfl rfl (fun _=>rfl) (fun _=>rfl) rfl rfl rfl rfl rfl (bO g11_8_1) rfl rfl rfl rfl rfl rfl rfl ?_)))
     exact Hr 3 tk rfl rfl rfl rfl tv (He 0 tk ek rfl rfl rfl rfl tv rfl rfl (Hn rfl (Lw q3 p6)))
   ·refine Qn (Ws (Hp (.one 0 true (.one 1 true (.one 2 true (.one 3 true (.one 4 true (.one 5 true (.one 6 true (.one 7 true (.one 8 true (.one 9 true (.one 10 true (.one 11 true (.one 12 true (.one 13 true (.one 14 true (.one 15 true (.one 16 true (.one 17 true (.one 18 true (.one 19 true (.one 20 true (.one 21 true (.one 22 true .done))))))))))))))))))))))) [0,1,2,3,111,1000001,1000002,1000003] [0,111,1,2,3] rfl (by kernel_rfl) rfl (by kernel_rfl) rfl rfl (fun _ h=>h) rfl rfl rfl (fun _ _ _ h=>h) fun FK NK wK K=>(Hr 2 tk rfl rfl rfl rfl tv (WH.sect 3 1 true tk rfl rfl rfl rfl (fun _=>tv) (Hr 2 tk rfl rfl rfl rfl ⟨by first | exact id | exact fun h=>by rw [h];rfl | simp_all,tv⟩ (WH.sect 14 6 true tk rfl rfl rfl rfl (fun _=>tv) (Hr 2 tk rfl rfl rfl rfl ⟨by first | exact id | exact fun h=>by rw [h];rfl | simp_all,tv⟩ (WH.nil rfl (Qn (Wt (QB.r (QT.r ?_))))))))))))
    cases H
    exact Ea rfl rfl rfl p5
 refine G (R 2 rfl (NQ (Wd rfl H (fun H=>?_) (fun H=>?_))))
 ·refine G (R 1 rfl ?_)
  obtain ⟨x12,hx12,H⟩:=ar H
  refine Cl [] (sj _ hx12) sk rfl tv rfl (R 5 rfl (N (R 7 rfl (Ef 206 rfl (WL.freezeT 206 ae ([x12.1]:List (List (List aa))) rfl rfl rfl rfl ?_)))))
  obtain ⟨g13,H⟩:=aq H
  refine WL.appT ae a0.p.Waits ([x12.1]:List (List (List aa))) tk ek rfl rfl (fun _=>rfl) (fun _=>rfl) rfl rfl rfl rfl (bO g13) rfl rfl rfl rfl rfl ?_
  refine R 3 rfl (Ef 0 rfl (N (R 2 rfl (Wx 7 1 true tk sg0 rfl rfl (fun _=>tv) (RS 2 rfl ⟨by first | exact id | exact fun h=>by rw [h];rfl | simp_all,tv⟩ (NQ (Wt (QB.r (QT.r ?_)))))))))
  cases H
  exact Ea rfl rfl rfl p5
 refine G (R 2 rfl (NQ (Wd rfl H (fun H=>?_) (fun H=>?_))))
 ·refine G (R 1 rfl ?_)
  obtain ⟨x15,hx15,H⟩:=ar H
  refine Cl [] (fg _ _ hx15) fh rfl tv rfl (R 3 rfl (WL.allocZ 116 [.int .i64 0, .int .i64 0] rfl (by kernel_rfl) rfl rfl rfl rfl (Ef 0 rfl (R 1 rfl (NQ (Ws ?_))))))
  obtain ⟨g19_6_1,H⟩:=aq H
  obtain ⟨g19_8_1,H⟩:=aq H
  obtain ⟨g19_12_1,H⟩:=aq H
  refine WC.heldF [(17, .d (.bool x15.2))] [(0, .box 72 [.own 1, .own 2, .own 3]),(1, .row 44 3 (a0.p.Decls.map ai)),(2, .row 45 1 (a0.p.Waits.map ae)),(3, .rowl 49 3 2 (some 4) ((a0.p.Funcs++[(⟨(x15.1.getD (0:Int).toNat default),(x15.1.getD (1:Int).toNat default),[]⟩:al)]).map ak)),(4, .row 28 3 ((bF (a0.p.Funcs++[(⟨(x15.1.getD (0:Int).toNat default),(x15.1.getD (1:Int).toNat default),[]⟩:al)])).map ay))] (sT 0 (sT 1 (sT 2 (sT 3 (sT 4 (sT 6 (sT 7 (sT 8 (sT 9 (sT 10 (fk (sf 5 (sf 11 (sf 12 (sT 13 (sT 14 (sT 15 (sf 16 sd))))))) (sf 11 (sf 5 (sf 12 (sT 13 (sT 14 (sT 15 (sf 16 sd)))))))))))))))))) [0,1,2,116,1000001,1000002] [116,1,2] rfl (by kernel_rfl) rfl (by kernel_rfl) rfl rfl (fun _ h=>h) rfl rfl rfl (fun FK NK wK K=>?_) ?_
  ·refine Hr 5 tk rfl rfl rfl rfl tv (WH.yv rfl (LJ.Y.idxPtrA 2 (0:Int) (by kernel_rfl) rfl rfl rfl (av g19_6_1)) rfl rfl rfl (WH.yv rfl (LJ.Y.loadPtrA 2 0 (fun k=> .int .i64 (x15.1.getD k default)) (0:Int) rfl rfl rfl (by kernel_rfl) rfl (av g19_6_1)) rfl rfl rfl (WH.yv rfl (LJ.Y.idxPtrA 2 (1:Int) (by kernel_rfl) rfl rfl rfl (av g19_8_1)) rfl rfl rfl (WH.yv rfl (LJ.Y.loadPtrA 2 0 (fun k=> .int .i64 (x15.1.getD k default)) (1:Int) rfl rfl rfl (by kernel_rfl) rfl (av g19_8_1)) rfl rfl rfl (Hr 1 tk rfl rfl rfl rfl tv (WH.fork ?_ ?_))))))
   ·refine WH.val tk rfl rfl rfl rfl rfl tv rfl rfl (He 239 tk ek rfl rfl rfl rfl tv rfl rfl (WH.freezeL 3 4 ak a0.p.Funcs ay (bF a0.p.Funcs) rfl rfl rfl rfl (fun _=>rfl) rfl (fun _=>rfl) rfl rfl rfl ?_))
    refine He 0 tk ek rfl rfl rfl rfl (mJ rfl rfl (bO g19_12_1)) rfl rfl (Hr 3 tk rfl rfl rfl rfl tv (He 0 tk ek rfl rfl rfl rfl tv rfl rfl (WH.toRowl ak a0.p.Funcs (⟨(x15.1.getD (0:Int).toNat default),(x15.1.getD (1:Int).toNat default),[]⟩:al) [.int .i64 (x15.1.getD (0:Int).toNat default), .int .i64 (x15.1.getD (1:Int).toNat default), .nils] 3 4 (k:=2) (ei:=28) (szi:=3) rfl rfl (fun _=>rfl) rfl rfl rfl rfl rfl rfl rfl ?_)))
    exact WH.row 4 ((bF (a0.p.Funcs++[(⟨(x15.1.getD (0:Int).toNat default),(x15.1.getD (1:Int).toNat default),[]⟩:al)])).map ay) rfl (congrArg (List.map ay) (fa (L:=a0.p.Funcs) (x:=(⟨(x15.1.getD (0:Int).toNat default),(x15.1.getD (1:Int).toNat default),[]⟩:al))).symm) rfl (Hn rfl (Lw q1 p5))
   ·refine He 239 tk ek rfl rfl rfl rfl tv rfl rfl (WH.val tk rfl rfl rfl rfl rfl tv rfl rfl (WH.freezeL 3 4 ak a0.p.Funcs ay (bF a0.p.Funcs) rfl rfl rfl rfl (fun _=>rfl) rfl (fun _=>rfl) rfl rfl rfl ?_))
    refine He 0 tk ek rfl rfl rfl rfl (mJ rfl rfl (bO g19_12_1)) rfl rfl (Hr 3 tk rfl rfl rfl rfl tv (He 0 tk ek rfl rfl rfl rfl tv rfl rfl (WH.toRowl ak a0.p.Funcs (⟨(x15.1.getD (0:Int).toNat default),(x15.1.getD (1:Int).toNat default),[]⟩:al) [.int .i64 (x15.1.getD (0:Int).toNat default), .int .i64 (x15.1.getD (1:Int).toNat default), .nils] 3 4 (k:=2) (ei:=28) (szi:=3) rfl rfl (fun _=>rfl) rfl rfl rfl rfl rfl rfl rfl ?_)))
    exact WH.row 4 ((bF (a0.p.Funcs++[(⟨(x15.1.getD (0:Int).toNat default),(x15.1.getD (1:Int).toNat default),[]⟩:al)])).map ay) rfl (congrArg (List.map ay) (fa (L:=a0.p.Funcs) (x:=(⟨(x15.1.getD (0:Int).toNat default),(x15.1.getD (1:Int).toNat default),[]⟩:al))).symm) rfl (Hn rfl (Lw q1 p5))
  ·refine Qn (G (R 2 rfl (NQ (Wt (QB.r (QT.r ?_))))))
   cases H
   exact Ea rfl rfl rfl p5
 refine Wk (Qb (Qn ?_))
 refine G (R 1 rfl (NQ (Wt ?_)))
 cases H
 exact Ea rfl rfl rfl p5
theorem jX (n0 n1 n2 n3 n4:Nat) (hn:ib [n0,n1,n2,n3,n4]=true) (a0:aU) (a1:ByteArray) {r:Bool×aU} (H:aQ a0 a1=some r):LJ.Spec Tryz.prog 33 [.ptr n0 0, .d (.str a1)] [(n0, .box 72 [.own n1, .own n2, .own n3]),(n1, .row 44 3 (a0.p.Decls.map ai)),(n2, .row 45 1 (a0.p.Waits.map ae)),(n3, .rowl 49 3 2 (some n4) (a0.p.Funcs.map ak)),(n4, .row 28 3 ((bF a0.p.Funcs).map ay))] (.d (.bool r.1)) [(n1, .row 44 3 (r.2.p.Decls.map ai)),(n2, .row 45 1 (r.2.p.Waits.map ae)),(n3, .rowl 49 3 2 (some n4) (r.2.p.Funcs.map ak)),(n4, .row 28 3 ((bF r.2.p.Funcs).map ay)),(n0, .box 72 [.own n1, .own n2, .own n3])]:=
 Spec.names [n0,n1,n2,n3,n4] hn rfl rfl (jW a0 a1 H)
theorem jY:aE Tryz.prog 33 Tryz.f33:=⟨Tryz.func33,rfl,by kernel_rfl⟩
theorem gi (a0:ByteArray) {r:ab×Int×Int} (H:cZ a0=some r):LJ.Spec Tryz.prog 13 [.d (.str a0)] [] (.tup [.d (.agg [slT ai r.1.Decls,slT ae r.1.Waits,slT ak r.1.Funcs]), .d (.int .i64 r.2.1), .d (.int .i64 r.2.2)]) []:=by
 refine LJ.Spec.code Tryz.func13 rfl 51 rfl rfl [] rfl fun w0 F0 S0 B0=>?_
 unfold cZ at H
 refine G (Wa 102 tk rfl rfl rfl (R 2 rfl (NS (G (R 3 rfl (NQ (Wd rfl H (fun H=>?_) (fun H=>?_))))))))
 ·refine G (R 1 rfl (Ef 0 rfl (R 2 rfl (NQ (WC.nilF 102 0 6020 44 3 rfl (WC.row 6020 (([]:List af).map ai) rfl rfl rfl (WC.nilF 102 1 6021 45 1 rfl (WC.row 6021 (([]:List (List (List aa))).map ae) rfl rfl rfl (WC.nilF 102 2 6022 49 3 rfl (WC.row 6022 (([]:List al).map ak) rfl rfl rfl (WC.freezeT 6020 ai ([]:List af) rfl rfl rfl rfl (WC.freezeT 6021 ae ([]:List (List (List aa))) rfl rfl rfl rfl (WC.freezeT 6022 ak ([]:List al) rfl rfl rfl rfl (Wt (QT.r ?_)))))))))))))))
  cases H
  exact Ends.autoC tk rfl rfl rfl tv
 refine Wk (Qn (G (R 1 rfl (Ef 116 rfl (WL.nilF 116 0 4160 44 3 rfl (WL.row 4160 (([]:List af).map ai) rfl rfl rfl (WL.nilF 116 1 4161 45 1 rfl (WL.row 4161 (([]:List (List (List aa))).map ae) rfl rfl rfl (WL.nilF 116 2 4162 49 3 rfl (WL.toRowl0 ak 4162 7162 (k:=2) (ei:=28) (szi:=3) rfl rfl rfl rfl rfl rfl rfl rfl ?_))))))))))
 refine WL.row 7162 ((bF ([]:List al)).map ay) rfl rfl rfl (R 2 rfl (NQ ?_))
 obtain ⟨K2,hK2,H⟩:=du H
 refine WC.cut (fun E m=>∃ s3:(List af)×(List (List (List aa)))×(List al),K2 s3=some r∧gu E m [(2, .ptr 102 0),(5, .ptr 116 0)] [(102, .box 26 [.d (.nils), .d (.nils), .d (.nils)]),(116, .box 72 [.own 4160, .own 4161, .own 4162]),(4160, .row 44 3 (s3.1.map ai)),(4161, .row 45 1 (s3.2.1.map ae)),(4162, .rowl 49 3 2 (some 7162) (s3.2.2.map ak)),(7162, .row 28 3 ((bF s3.2.2).map ay))]) ?_ ?_
 ·refine Wb (Wl (ι:= {x:Nat×(ByteArray×Int×(List af)×(List (List (List aa)))×(List al)) //bC K2 x.1 x.2=some r}) (fun x=>[(0, .d (.str x.1.2.1)),(2, .ptr 102 0),(5, .ptr 116 0),(6, .d (.int .i64 x.1.2.2.1))]) (fun x=>[(102, .box 26 [.d (.nils), .d (.nils), .d (.nils)]),(116, .box 72 [.own 4160, .own 4161, .own 4162]),(4160, .row 44 3 (x.1.2.2.2.1.map ai)),(4161, .row 45 1 (x.1.2.2.2.2.1.map ae)),(4162, .rowl 49 3 2 (some 7162) (x.1.2.2.2.2.2.map ak)),(7162, .row 28 3 ((bF x.1.2.2.2.2.2).map ay))]) (fun x=>x.1.1) ⟨(fuel,(a0,0,([]:List af),([]:List (List (List aa))),([]:List al))),H⟩ (Lm p4 p6) fun x=>?_)
  obtain ⟨⟨k5,s4⟩,H⟩:=x
  rcases k5 with _ | k5
  ·exact aO H
  rw [bC] at H
  refine Ws (G (R 2 rfl (NQ (Wd rfl H (fun H=>?_) (fun H=>?_)))))
  ·refine Wk (Qn (Wb (G (R 1 rfl ?_))))
   obtain ⟨x7,hx7,H⟩:=ar H
   refine Cl [] (eT _ _ hx7) eU rfl tv rfl (R 7 rfl (N (R 3 rfl (NS (G (R 3 rfl (WL.split (g:=29) rfl (fun h8=>?_) (fun h8=>?_))))))))
   ·replace H:=of_t H h8
    refine WL.gskips 4 2 false 29 rfl rfl rfl rfl (WL.pickT rfl rfl rfl rfl rfl rfl (NQ (Wc rfl (fun h=>?_) (fun h=>absurd h (by decide)))))
    refine G (R 2 rfl (Ef 0 rfl (R 2 rfl (NQ (WC.nilF 102 0 6020 44 3 rfl (WC.row 6020 (([]:List af).map ai) rfl rfl rfl (WC.nilF 102 1 6021 45 1 rfl (WC.row 6021 (([]:List (List (List aa))).map ae) rfl rfl rfl (WC.nilF 102 2 6022 49 3 rfl (WC.row 6022 (([]:List al).map ak) rfl rfl rfl (WC.freezeT 6020 ai ([]:List af) rfl rfl rfl rfl (WC.freezeT 6021 ae ([]:List (List (List aa))) rfl rfl rfl rfl (WC.freezeT 6022 ak ([]:List al) rfl rfl rfl rfl (Wt (QT.r (QB.r (QT.r (QB.r (QT.r ?_)))))))))))))))))))
    cases H
    exact Ends.autoC tk rfl rfl rfl tv
   ·replace H:=of_f H h8
    refine WL.grun 2 2 false 29 tk sg0 rfl rfl rfl rfl tv ?_
    obtain ⟨x9,hx9,H⟩:=ar H
    refine WL.gcall [4160,4161,4162,7162] (jX 116 4160 4161 4162 7162 rfl _ _ hx9) jY rfl rfl p5 rfl rfl rfl rfl rfl rfl (WL.grun 1 2 false 29 tk sg0 rfl rfl rfl rfl tv (WL.pickF rfl rfl rfl rfl rfl rfl (NQ (Wd rfl H (fun H=>?_) (fun H=>?_)))))
    ·refine G (R 2 rfl (Ef 0 rfl (R 2 rfl (NQ (WC.nilF 102 0 6020 44 3 rfl (WC.row 6020 (([]:List af).map ai) rfl rfl rfl (WC.nilF 102 1 6021 45 1 rfl (WC.row 6021 (([]:List (List (List aa))).map ae) rfl rfl rfl (WC.nilF 102 2 6022 49 3 rfl (WC.row 6022 (([]:List al).map ak) rfl rfl rfl (WC.freezeT 6020 ai ([]:List af) rfl rfl rfl rfl (WC.freezeT 6021 ae ([]:List (List (List aa))) rfl rfl rfl rfl (WC.freezeT 6022 ak ([]:List al) rfl rfl rfl rfl (Wt (QT.r (QB.r (QT.r (QB.r (QT.r ?_)))))))))))))))))))
     cases H
     exact Ends.autoC tk rfl rfl rfl tv
    refine Wk (Qn (Wg (R 2 rfl (Wn (Qb (Qn ?_))))))
    exact ⟨⟨(k5,(x7.2.1,IntKind.i64.wrap (s4.2.1+1),x9.2.p.Decls,x9.2.p.Waits,x9.2.p.Funcs)),H⟩,Z,Lm p4 p6⟩
  refine WC.exit (Qx (Qx (Qh (Qn ?_))))
  exact ⟨(s4.2.2.1,s4.2.2.2.1,s4.2.2.2.2),H,Lw q2 p6⟩
 ·rintro E m ⟨s3,H,hl⟩
  refine WC.lessW hl ?_
  replace H:=(hK2 _).symm.trans H
  try dsimp only at H
  refine Ws (G (R 3 rfl (WL.freezeT 4160 ai s3.1 rfl rfl rfl rfl (WL.freezeT 4161 ae s3.2.1 rfl rfl rfl rfl (WL.freezeL 4162 7162 ak s3.2.2 ay (bF s3.2.2) rfl rfl rfl rfl (fun _=>rfl) rfl (fun _=>rfl) rfl rfl rfl ?_)))))
  refine WL.freezeT 4162 ak s3.2.2 rfl rfl rfl rfl (R 1 rfl ?_)
  obtain ⟨x11,hx11,H⟩:=ar H
  refine Cl [] (kl _ hx11) km rfl tv rfl (R 1 rfl (N (R 2 rfl (NQ (Wd rfl H (fun H=>?_) (fun H=>?_))))))
  ·refine G (R 2 rfl (Ef 0 rfl (R 2 rfl (NQ (WC.nilF 102 0 6020 44 3 rfl (WC.row 6020 (([]:List af).map ai) rfl rfl rfl (WC.nilF 102 1 6021 45 1 rfl (WC.row 6021 (([]:List (List (List aa))).map ae) rfl rfl rfl (WC.nilF 102 2 6022 49 3 rfl (WC.row 6022 (([]:List al).map ak) rfl rfl rfl (WC.freezeT 6020 ai ([]:List af) rfl rfl rfl rfl (WC.freezeT 6021 ae ([]:List (List (List aa))) rfl rfl rfl rfl (WC.freezeT 6022 ak ([]:List al) rfl rfl rfl rfl (Wt (QT.r ?_)))))))))))))))
   cases H
   exact Ends.autoC tk rfl rfl rfl tv
  refine Wk (Qn (G (R 4 rfl (Ef 0 rfl (R 2 rfl (NQ (Wt ?_)))))))
  cases H
  exact Ends.autoC tk rfl rfl rfl tv
theorem gk:aE Tryz.prog 13 Tryz.f13:=⟨Tryz.func13,rfl,by kernel_rfl⟩
theorem dT {r:Bool} (H:cT=some r):LJ.Spec Tryz.prog 12 [] [] (.d (.bool r)) []:=by
 refine LJ.Spec.code Tryz.func12 rfl 64 rfl rfl [] rfl fun w0 F0 S0 B0=>?_
 unfold cT at H
 refine G (R 1 rfl (NS (Wg ?_)))
 obtain ⟨x1,hx1,H⟩:=ar H
 refine Cl [] (gi _ hx1) gk rfl tv rfl (R 4 rfl (Wa 101 tk rfl rfl rfl (Ef 0 rfl (R 2 rfl (N (R 1 rfl ?_))))))
 obtain ⟨x2,hx2,H⟩:=ar H
 refine Cl [] (jU _ hx2) jV rfl tv rfl (R 5 rfl (NS (Wg ?_)))
 obtain ⟨x3,hx3,H⟩:=ar H
 refine Cl [] (gi _ hx3) gk rfl tv rfl (R 4 rfl (Wa 106 tk rfl rfl rfl (Ef 0 rfl (R 2 rfl (N (R 5 rfl (Wx 4 4 true tk sg0 rfl rfl (fun _=>tv) (RS 2 rfl ⟨by first | exact id | exact fun h=>by rw [h];rfl | simp_all,tv⟩ (Wx 2 10 true tk sg0 rfl rfl (fun _=>tv) (RS 2 rfl ⟨by first | exact id | exact fun h=>by rw [h];rfl | simp_all,tv⟩ ?_))))))))))
 refine Wx 2 14 true tk sg0 rfl rfl (fun _=>tv) (RS 2 rfl ⟨by first | exact id | exact fun h=>by rw [h];rfl | simp_all,tv⟩ (Wx 3 18 true tk sg0 rfl rfl (fun _=>tv) (RS 2 rfl ⟨by first | exact id | exact fun h=>by rw [h];rfl | simp_all,tv⟩ (Wx 2 23 true tk sg0 rfl rfl (fun _=>tv) (RS 2 rfl ⟨by first | exact id | exact fun h=>by rw [h];rfl | simp_all,tv⟩ (Wx 2 27 true tk sg0 rfl rfl (fun _=>tv) (RS 2 rfl ⟨by first | exact id | exact fun h=>by rw [h];rfl | simp_all,tv⟩ (Wx 2 31 true tk sg0 rfl rfl (fun _=>tv) ?_))))))))
 refine RS 2 rfl ⟨by first | exact id | exact fun h=>by rw [h];rfl | simp_all,tv⟩ ?_
 obtain ⟨x4,hx4,H⟩:=ar H
 refine Wx 3 35 true tk [PSig.at' se (((((((((iEq (x1.1.Decls.length:Int) 1)&&(iEq (x1.1.Funcs.length:Int) 1))&&(iEq x1.2.1 0))&&(iEq x1.2.2 0))&&(iEq (x2.1.size:Int) 49))&&(iEq x2.2 0))&&(iEq x3.2.1 2))&&(iEq x3.2.2 2))=true) rfl (fun hb=>sc _ (of_t hx4 hb))] rfl rfl (fun hb=>⟨⟨hb,rfl⟩,tv⟩) (RS 2 rfl ⟨by first | exact id | exact fun h=>by rw [h];rfl | simp_all,tv⟩ (NQ (Wt ?_)))
 cases H
 exact Ea rfl rfl rfl tv
theorem dU:aE Tryz.prog 12 Tryz.f12:=⟨Tryz.func12,rfl,by kernel_rfl⟩
theorem pG (a0:List (List aa)) (a1:List (List aa)) {r:Bool} (H:dp a0 a1=some r):LJ.Spec Tryz.prog 34 [.d (slT aw a0), .d (slT aw a1)] [] (.d (.bool r)) []:=by
 refine LJ.Spec.code Tryz.func34 rfl 53 rfl rfl [] rfl fun w0 F0 S0 B0=>?_
 unfold dp at H
 refine G (R 1 rfl (NS (G (R 5 rfl (NQ (Wd rfl H (fun H=>?_) (fun H=>?_)))))))
 ·refine G (R 1 rfl (NQ (Wt (QT.r ?_))))
  cases H
  exact Ea rfl rfl rfl tv
 refine Wk (Qn (Ws (G (R 1 rfl (NQ (Wb (Wl (ι:= {x:Nat×Int //cx a0 a1 x.1 x.2=some r}) (fun x=>[(0, .d (slT aw a0)),(1, .d (slT aw a1)),(5, .d (.int .i64 x.1.2))]) (fun x=>[]) (fun x=>x.1.1) ⟨(fuel,0),H⟩ (Lm p3 tv) fun x=>?_)))))))
 obtain ⟨⟨k3,s2⟩,H⟩:=x
 rcases k3 with _ | k3
 ·exact aO H
 rw [cx] at H
 refine Ws (G (R 4 rfl (NQ (Wd rfl H (fun H=>?_) (fun H=>?_)))))
 ·refine Wk (Qn ?_)
  obtain ⟨K5,hK5,H⟩:=du H
  refine WC.cut (fun E m=>∃ s6:Unit,K5 s6=some r∧gu E m [(0, .d (slT aw a0)),(1, .d (slT aw a1)),(5, .d (.int .i64 s2))] []) ?_ ?_
  ·refine Wb (Ws (Ws (Hp (.one 0 true (.one 1 true (.one 2 true (.one 3 true (.one 4 true (.one 5 true (.one 6 true (.one 7 true (.one 8 true (.one 9 true (.one 10 true .done))))))))))) [] [] rfl (by kernel_rfl) rfl (by kernel_rfl) rfl rfl (fun _ h=>h) rfl rfl rfl (fun _ _ _ h=>h) fun FK NK wK K=>?_)))
   obtain ⟨g7,H⟩:=aq H
   obtain ⟨g8,H⟩:=aq H
   refine Hr 11 tk rfl rfl rfl rfl ⟨⟨(av g7).1,(av g7).2,rfl⟩,⟨(av g8).1,(av g8).2,rfl⟩,tv⟩ (WH.nil rfl (Qn (Wd rfl H (fun H=>?_) (fun H=>?_))))
   ·refine G (R 1 rfl (NQ (Wt (QT.r (QB.r (QT.r (QT.r (QB.r (QT.r ?_)))))))))
    cases H
    exact Ea rfl rfl rfl tv
   refine Wk (Qn (G (R 1 rfl (NQ (Wb (Wl (ι:= {x:Nat×Int //cF a0 a1 s2 K5 x.1 x.2=some r}) (fun x=>[(0, .d (slT aw a0)),(1, .d (slT aw a1)),(5, .d (.int .i64 s2)),(6, .d (.int .i64 x.1.2))]) (fun x=>[]) (fun x=>x.1.1) ⟨(fuel,0),H⟩ (Lm p4 tv) fun x=>?_))))))
   obtain ⟨⟨k11,s10⟩,H⟩:=x
   rcases k11 with _ | k11
   ·exact aO H
   rw [cF] at H
   refine Ws (G ?_)
   obtain ⟨g12,H⟩:=aq H
   refine RS 7 rfl ⟨⟨(av g12).1,(av g12).2,rfl⟩,tv⟩ (NQ (Wd rfl H (fun H=>?_) (fun H=>?_)))
   ·refine Wk (Qn (Ws (Wb (Ws (Hp (.one 0 true (.one 1 true (.one 2 true (.one 3 true (.one 4 true (.one 5 true (.one 6 true (.one 7 true (.one 8 true (.one 9 true (.one 10 true (.one 11 true (.one 12 true (.one 13 true (.one 14 true .done))))))))))))))) [] [] rfl (by kernel_rfl) rfl (by kernel_rfl) rfl rfl (fun _ h=>h) rfl rfl rfl (fun _ _ _ h=>h) fun FK NK wK K=>?_)))))
    obtain ⟨g14,H⟩:=aq H
    obtain ⟨g15,H⟩:=aq H
    obtain ⟨g16,H⟩:=aq H
    obtain ⟨g17,H⟩:=aq H
    refine Hr 14 tk rfl rfl rfl rfl ⟨⟨(av g14).1,(av g14).2,rfl⟩,⟨(av g15).1,(av g15).2,rfl⟩,⟨(av g16).1,(av g16).2,rfl⟩,⟨(av g17).1,(av g17).2,rfl⟩,tv⟩ (WH.yv rfl (LJ.Y.structEq .neq (.inr rfl) rfl rfl rfl (by kernel_rfl) rfl) rfl rfl rfl (WH.nil rfl (Qn (Wd rfl H (fun H=>?_) (fun H=>?_)))))
    ·refine G (R 1 rfl (NQ (Wt (QB.r (QT.r (QT.r (QB.r (QB.r (QT.r (QT.r (QB.r (QT.r ?_))))))))))))
     cases H
     exact Ea rfl rfl rfl tv
    refine Wk (Qb (Qn ?_))
    exact Wg (R 3 rfl (NQ (⟨⟨(k11,IntKind.i64.wrap (s10+1)),H⟩,Z,Lm p4 tv⟩)))
   refine WC.exit (Qx (Qx (Qh (Qb (Qn ?_)))))
   exact ⟨Unit.unit,H,Lw q3 tv⟩
  ·rintro E m ⟨s6,H,hl⟩
   refine WC.lessW hl ?_
   replace H:=(hK5 _).symm.trans H
   try dsimp only at H
   exact Wg (R 3 rfl (NQ (⟨⟨(k3,IntKind.i64.wrap (s2+1)),H⟩,Z,Lm p3 tv⟩)))
 refine WC.exit (Qx (Qx (Qh (Qn ?_))))
 refine G (R 1 rfl (NQ (Wt ?_)))
 cases H
 exact Ea rfl rfl rfl tv
theorem pH:aE Tryz.prog 34 Tryz.f34:=⟨Tryz.func34,rfl,by kernel_rfl⟩
end Go.Proofs.YtpnnkehkjfciiaaGreatDoor.W
