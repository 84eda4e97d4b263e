/- Each Go function comes to what its plain function gives, where that gives something. -/
import Derived.Test.YtpnnkehkjfciiaaGreatDoorPF
import Derived.Test.YtpnnkehkjfciiaaGreatDoorSq
import Derived.Test.YtpnnkehkjfciiaaGreatDoorWF1
import Derived.Test.YtpnnkehkjfciiaaGreatDoorXErr
import Derived.Test.YtpnnkehkjfciiaaGreatDoorXInd
import Derived.Test.YtpnnkehkjfciiaaGreatDoorXRowl
import Derived.Test.YtpnnkehkjfciiaaGreatDoorXShelf
namespace Go.Proofs.YtpnnkehkjfciiaaGreatDoor.W
open Go Go.RowKit LJ
set_option linter.unusedVariables false
set_option linter.unusedSimpArgs false
set_option maxRecDepth 10000
theorem lr (a0:Int) {r:ByteArray} (H:dt a0=some r):LJ.Spec Tryz.prog 41 [.d (.int .i64 a0)] [] (.d (.str r)) []:=by
 refine LJ.Spec.code Tryz.func41 rfl 18 rfl rfl [] rfl fun w0 F0 S0 B0=>?_
 unfold dt at H
 refine G (R 1 rfl (NS (G (R 1 rfl (NQ (Wb (G (R 2 rfl (NQ (Wd rfl H (fun H=>?_) (fun H=>?_)))))))))))
 ·refine G (R 1 rfl (NQ (Wt (QB.r (QT.r ?_)))))
  cases H
  exact Ea rfl rfl rfl tv
 refine G (R 2 rfl (NQ (Wd rfl H (fun H=>?_) (fun H=>?_))))
 ·refine G (R 1 rfl (NQ (Wt (QB.r (QT.r ?_)))))
  cases H
  exact Ea rfl rfl rfl tv
 refine G (R 2 rfl (NQ (Wd rfl H (fun H=>?_) (fun H=>?_))))
 ·refine G (R 1 rfl (NQ (Wt (QB.r (QT.r ?_)))))
  cases H
  exact Ea rfl rfl rfl tv
 refine G (R 2 rfl (NQ (Wd rfl H (fun H=>?_) (fun H=>?_))))
 ·refine G (R 1 rfl (NQ (Wt (QB.r (QT.r ?_)))))
  cases H
  exact Ea rfl rfl rfl tv
 refine G (R 2 rfl (NQ (Wd rfl H (fun H=>?_) (fun H=>?_))))
 ·refine G (R 1 rfl (NQ (Wt (QB.r (QT.r ?_)))))
  cases H
  exact Ea rfl rfl rfl tv
 refine G (R 2 rfl (NQ (Wd rfl H (fun H=>?_) (fun H=>?_))))
 ·refine G (R 1 rfl (NQ (Wt (QB.r (QT.r ?_)))))
  cases H
  exact Ea rfl rfl rfl tv
 refine G (R 2 rfl (NQ (Wd rfl H (fun H=>?_) (fun H=>?_))))
 ·refine G (R 1 rfl (NQ (Wt (QB.r (QT.r ?_)))))
  cases H
  exact Ea rfl rfl rfl tv
 refine Wk (Qb (Qn ?_))
 refine G (R 1 rfl (NQ (Wt ?_)))
 cases H
 exact Ea rfl rfl rfl tv
theorem lu:aE Tryz.prog 41 Tryz.f41:=⟨Tryz.func41,rfl,by kernel_rfl⟩
theorem ig (a0:Int) {r:Int} (H:fj a0=some r):LJ.Spec Tryz.prog 42 [.d (.int .i64 a0)] [] (.d (.int .i64 r)) []:=by
 refine LJ.Spec.code Tryz.func42 rfl 9 rfl rfl [] rfl fun w0 F0 S0 B0=>?_
 unfold fj at H
 refine G (R 1 rfl (NS (G (R 1 rfl (NQ (Wb (Ws (G (R 2 rfl (NQ (Wc rfl (fun h1=>?_) (fun h1=>?_))))))))))))
 ·replace H:=of_t H h1
  refine WC.known (g:=4) true rfl h1 (Wk (Qn (Wc rfl (fun h=>?_) (fun h=>absurd h (by decide)))))
  refine G (R 1 rfl (NQ (Wt (QB.r (QT.r ?_)))))
  cases H
  exact Ea rfl rfl rfl tv
 replace H:=of_f H h1
 refine Wg (R 2 rfl (NQ (Wd rfl H (fun H=>?_) (fun H=>?_))))
 ·refine G (R 1 rfl (NQ (Wt (QB.r (QT.r ?_)))))
  cases H
  exact Ea rfl rfl rfl tv
 refine G (R 2 rfl (NQ (Wd rfl H (fun H=>?_) (fun H=>?_))))
 ·refine G (R 1 rfl (NQ (Wt (QB.r (QT.r ?_)))))
  cases H
  exact Ea rfl rfl rfl tv
 refine Wk (Qb (Qn ?_))
 refine G (R 1 rfl (NQ (Wt ?_)))
 cases H
 exact Ea rfl rfl rfl tv
theorem ij:aE Tryz.prog 42 Tryz.f42:=⟨Tryz.func42,rfl,by kernel_rfl⟩
def ρi:Go.Shelf.Ren:=⟨fun n=>cond (Nat.beq n 338) 127 (cond (Nat.beq n 337) 126 (cond (Nat.beq n 320) 117 (cond (Nat.beq n 319) 116 (cond (Nat.beq n 318) 115 (cond (Nat.beq n 317) 113 (cond (Nat.beq n 286) 103 (cond (Nat.beq n 285) 102 (cond (Nat.beq n 284) 101 (cond (Nat.beq n 283) 100 (cond (Nat.beq n 246) 85 (cond (Nat.beq n 243) 68 (cond (Nat.beq n 171) 44 (cond (Nat.beq n 129) 114 (0)))))))))))))),fun n=>cond (Nat.beq n 233) 182 (cond (Nat.beq n 232) 181 (cond (Nat.beq n 213) 150 (cond (Nat.beq n 212) 149 (cond (Nat.beq n 173) 135 (cond (Nat.beq n 171) 133 (cond (Nat.beq n 53) 117 (cond (Nat.beq n 51) 140 (cond (Nat.beq n 46) 127 (cond (Nat.beq n 37) 56 (cond (Nat.beq n 20) 20 (cond (Nat.beq n 9) 9 (cond (Nat.beq n 5) 5 (cond (Nat.beq n 4) 4 (cond (Nat.beq n 3) 3 (cond (Nat.beq n 2) 2 (cond (Nat.beq n 0) 0 (0))))))))))))))))),fun n=>cond (Nat.beq n 19) 9 (cond (Nat.beq n 18) 8 (cond (Nat.beq n 17) 3 (0)))⟩
set_option maxRecDepth 100000 in
theorem tE:Go.Proofs.Lays.n171 Tryz.prog ρi:=by
 constructor <;> first | kernel_rfl | (intro w;kernel_rfl) | (intro w;rfl)
set_option maxRecDepth 100000 in
theorem u6:Go.Proofs.LaysM.n171 Tryz.prog ρi:=by
 apply Go.Proofs.LaysM.n171.mk tE <;> kernel_rfl
theorem bt (a0:Int) {r:ByteArray} (H:strconv_Itoa a0=some r):LJ.Spec Tryz.prog 44 [.d (.int .i64 a0)] [] (.d (.str r)) []:=by
 unfold strconv_Itoa at H
 obtain ⟨g1,H⟩:=ah H
 cases H
 exact Spec.itoa u6 g1 (by kernel_rfl)
theorem bu:aE Tryz.prog 44 Tryz.f44:=⟨Tryz.func44,rfl,by kernel_rfl⟩
theorem fR (a0:List Int) {r:ByteArray} (H:df a0=some r):LJ.Spec Tryz.prog 23 [.d (slT bq a0)] [] (.d (.str r)) []:=by
 refine LJ.Spec.code Tryz.func23 rfl 19 rfl rfl [] rfl fun w0 F0 S0 B0=>?_
 unfold df at H
 refine G (R 1 rfl (N (R 1 rfl (NS (G (R 3 rfl (NQ (Wb (Wl (ι:= {x:Nat×(ByteArray×Int) //cw a0 x.1 x.2=some r}) (fun x=>[(3, .d (.str x.1.2.1)),(6, .d (slT bq a0)),(7, .d (.int .i64 (a0.length:Int))),(8, .d (.int .i64 x.1.2.2))]) (fun x=>[]) (fun x=>x.1.1) ⟨(fuel,(ByteArray.empty,0)),H⟩ (Lm p4 tv) fun x=>?_)))))))))
 obtain ⟨⟨k2,s1⟩,H⟩:=x
 rcases k2 with _ | k2
 ·exact aL H
 rw [cw] at H
 refine G (R 1 rfl (NS (Wd rfl H (fun H=>?_) (fun H=>?_))))
 ·refine Wk (Qn (Ws (Wb (G ?_))))
  obtain ⟨g4,H⟩:=ah H
  refine RS 3 rfl ⟨⟨(an g4).1,(an g4).2,rfl⟩,tv⟩ (NQ (Wg (R 2 rfl ?_)))
  obtain ⟨x5,hx5,H⟩:=al H
  refine Cl [] (bt _ hx5) bu rfl tv rfl ?_
  obtain ⟨g6,H⟩:=ah H
  obtain ⟨g7,H⟩:=ah H
  refine RS 3 rfl ⟨(aF g6),(aF g7),tv⟩ (Wn (Qb (Qn ?_)))
  exact Wg (R 2 rfl (NQ (⟨⟨(k2,(s1.1++((⟨#[32]⟩:ByteArray)++x5),IntKind.i64.wrap (s1.2+1))),H⟩,Z,Lm p4 tv⟩)))
 refine WC.exit (Qx (Qx (Qh (Qn ?_))))
 refine G (R 2 rfl (NQ (Wt ?_)))
 cases H
 exact Ea rfl rfl rfl tv
theorem fS:aE Tryz.prog 23 Tryz.f23:=⟨Tryz.func23,rfl,by kernel_rfl⟩
theorem oU (a0:ab) {r:ByteArray} (H:fl a0=some r):LJ.Spec Tryz.prog 21 [.d (.agg [.int .i64 a0.Kind, .int .i64 a0.A, .int .i64 a0.B])] [] (.d (.str r)) []:=by
 refine LJ.Spec.code Tryz.func21 rfl 20 rfl rfl [] rfl fun w0 F0 S0 B0=>?_
 unfold fl at H
 refine G (Ef 101 rfl (R 1 rfl (N (R 4 rfl (Ef 108 rfl (WL.freezeT 108 bq ([a0.A,a0.B]:List Int) rfl rfl rfl rfl (R 1 rfl (NS (Hp (.one 0 true (.one 1 true (.one 4 true (.one 5 true (.one 6 true (.one 2 false (.one 3 true (.one 7 false (.one 8 true (.one 9 false (.one 10 true (.one 11 true .done)))))))))))) [101] [101] rfl (by kernel_rfl) rfl (by kernel_rfl) rfl rfl (fun _ h=>h) rfl rfl rfl (fun _ _ _ h=>h) fun FK NK wK K=>(Hr 5 tk rfl rfl rfl rfl tv ?_))))))))))
 obtain ⟨x1,hx1,H⟩:=al H
 refine WH.call [] rfl (lr _ hx1) lu rfl rfl tv rfl rfl rfl rfl rfl ?_
 obtain ⟨g2,H⟩:=ah H
 refine Hr 1 tk rfl rfl rfl rfl ⟨(aF g2),tv⟩ ?_
 obtain ⟨x3,hx3,H⟩:=al H
 refine WH.call [] rfl (ig _ hx3) ij rfl rfl tv rfl rfl rfl rfl rfl ?_
 obtain ⟨g4,H⟩:=ah H
 refine WH.yv rfl (LJ.Y.sliceT bq ([a0.A,a0.B]:List Int) tk rfl (fun _=>rfl) none (some (.tmp 16)) (0:Int) x3 rfl rfl ⟨_,rfl⟩ rfl rfl (kI g4)) rfl rfl rfl ?_
 obtain ⟨x5,hx5,H⟩:=al H
 refine WH.call [] rfl (fR _ hx5) fS rfl rfl tv rfl rfl rfl rfl rfl ?_
 obtain ⟨g6,H⟩:=ah H
 refine Hr 2 tk rfl rfl rfl rfl ⟨(aF g6),tv⟩ (WH.nil rfl (Qn (Wt ?_)))
 cases H
 exact Ea rfl rfl rfl tv
theorem oV:aE Tryz.prog 21 Tryz.f21:=⟨Tryz.func21,rfl,by kernel_rfl⟩
theorem eI (a0:av) {r:av} (H:bp a0=some r):LJ.Spec Tryz.prog 40 [.ptr 0 0] [(0, .box 58 [.optp a0.addr 0 0, .own 1]),(1, .row 5 1 (bC a0.buf))] (.tup []) [(1, .row 5 1 (bC r.buf)),(0, .box 58 [.optp r.addr 0 0, .own 1])]:=by
 refine LJ.Spec.code Tryz.func40 rfl 20 rfl rfl [0] rfl fun w0 F0 S0 B0=>?_
 unfold bp at H
 refine G (R 4 rfl (WL.yv (LJ.Y.oeql rfl rfl rfl (by kernel_rfl)) rfl rfl rfl (NQ (Wd rfl H (fun H=>?_) (fun H=>?_)))))
 ·refine Wg (R 2 rfl (WL.yv (LJ.Y.toUns 58 rfl rfl rfl rfl (by kernel_rfl) (by kernel_rfl) (by kernel_rfl)) rfl rfl rfl (WL.yv (LJ.Y.noEsc rfl rfl Tryz.func67 (by kernel_rfl) (by kernel_rfl) (by kernel_rfl) (by kernel_rfl)) rfl rfl rfl (WL.yv (LJ.Y.fromUns 58 rfl rfl rfl (by kernel_rfl) (by kernel_rfl) (by kernel_rfl) (by kernel_rfl)) rfl rfl rfl (R 2 rfl (Ef 0 rfl (Wn ?_)))))))
  cases H
  exact Ends.auton rfl rfl rfl p2
 refine G (R 5 rfl (WL.yv (LJ.Y.oneq rfl rfl rfl (by kernel_rfl) (by kernel_rfl)) rfl rfl rfl (NQ (Wd rfl H (fun H=>?_) (fun H=>?_)))))
 ·exact aL H
 refine Wk ?_
 cases H
 exact Ends.auton rfl rfl rfl p2
theorem eJ (n0 n1:Nat) (hn:gU [n0,n1]=true) (a0:av) {r:av} (H:bp a0=some r):LJ.Spec Tryz.prog 40 [.ptr n0 0] [(n0, .box 58 [.optp a0.addr n0 0, .own n1]),(n1, .row 5 1 (bC a0.buf))] (.tup []) [(n1, .row 5 1 (bC r.buf)),(n0, .box 58 [.optp r.addr n0 0, .own n1])]:=
 Spec.names [n0,n1] hn rfl rfl (eI a0 H)
theorem eK:aE Tryz.prog 40 Tryz.f40:=⟨Tryz.func40,rfl,by kernel_rfl⟩
theorem ef (a0:av) (a1:ByteArray) {r:Int×Unit×av} (H:aw a0 a1=some r):LJ.Spec Tryz.prog 20 [.ptr 0 0, .d (.str a1)] [(0, .box 58 [.optp a0.addr 0 0, .own 1]),(1, .row 5 1 (bC a0.buf))] (.tup [.d (.int .i64 r.1), .d (.nili)]) [(1, .row 5 1 (bC r.2.2.buf)),(0, .box 58 [.optp r.2.2.addr 0 0, .own 1])]:=by
 refine LJ.Spec.code Tryz.func20 rfl 19 rfl rfl [0] rfl fun w0 F0 S0 B0=>?_
 unfold aw at H
 refine G (R 2 rfl (N (R 1 rfl ?_)))
 obtain ⟨x1,hx1,H⟩:=al H
 refine Cl [1] (eJ 0 1 rfl _ hx1) eK rfl p2 rfl (N (R 6 rfl ?_))
 obtain ⟨g2,H⟩:=ah H
 refine WL.apps tk wj rfl rfl rfl (uB (bL g2)) (WL.row 1 (bC (x1.buf++a1)) rfl (nS _ _).symm rfl (R 2 rfl (Ef 0 rfl (N (R 4 rfl (NQ (Wt ?_)))))))
 cases H
 exact Ea rfl rfl rfl p2
theorem aC (n0 n1:Nat) (hn:gU [n0,n1]=true) (a0:av) (a1:ByteArray) {r:Int×Unit×av} (H:aw a0 a1=some r):LJ.Spec Tryz.prog 20 [.ptr n0 0, .d (.str a1)] [(n0, .box 58 [.optp a0.addr n0 0, .own n1]),(n1, .row 5 1 (bC a0.buf))] (.tup [.d (.int .i64 r.1), .d (.nili)]) [(n1, .row 5 1 (bC r.2.2.buf)),(n0, .box 58 [.optp r.2.2.addr n0 0, .own n1])]:=
 Spec.names [n0,n1] hn rfl rfl (ef a0 a1 H)
theorem aD:aE Tryz.prog 20 Tryz.f20:=⟨Tryz.func20,rfl,by kernel_rfl⟩
theorem fT (a0:Int) {r:ByteArray} (H:dT a0=some r):LJ.Spec Tryz.prog 43 [.d (.int .i64 a0)] [] (.d (.str r)) []:=by
 refine LJ.Spec.code Tryz.func43 rfl 14 rfl rfl [] rfl fun w0 F0 S0 B0=>?_
 unfold dT at H
 refine G (R 1 rfl (NS (G (R 1 rfl (NQ (Wb (G (R 2 rfl (NQ (Wd rfl H (fun H=>?_) (fun H=>?_)))))))))))
 ·refine G (R 1 rfl (NQ (Wt (QB.r (QT.r ?_)))))
  cases H
  exact Ea rfl rfl rfl tv
 refine G (R 2 rfl (NQ (Wd rfl H (fun H=>?_) (fun H=>?_))))
 ·refine G (R 1 rfl (NQ (Wt (QB.r (QT.r ?_)))))
  cases H
  exact Ea rfl rfl rfl tv
 refine G (R 2 rfl (NQ (Wd rfl H (fun H=>?_) (fun H=>?_))))
 ·refine G (R 1 rfl (NQ (Wt (QB.r (QT.r ?_)))))
  cases H
  exact Ea rfl rfl rfl tv
 refine G (R 2 rfl (NQ (Wd rfl H (fun H=>?_) (fun H=>?_))))
 ·refine G (R 1 rfl (NQ (Wt (QB.r (QT.r ?_)))))
  cases H
  exact Ea rfl rfl rfl tv
 refine G (R 2 rfl (NQ (Wd rfl H (fun H=>?_) (fun H=>?_))))
 ·refine G (R 1 rfl (NQ (Wt (QB.r (QT.r ?_)))))
  cases H
  exact Ea rfl rfl rfl tv
 refine Wk (Qb (Qn ?_))
 refine G (R 1 rfl (NQ (Wt ?_)))
 cases H
 exact Ea rfl rfl rfl tv
theorem fU:aE Tryz.prog 43 Tryz.f43:=⟨Tryz.func43,rfl,by kernel_rfl⟩
def ρb:Go.Shelf.Ren:=⟨fun n=>cond (Nat.beq n 169) 25 0,fun n=>cond (Nat.beq n 127) 88 (cond (Nat.beq n 72) 58 (cond (Nat.beq n 70) 55 (cond (Nat.beq n 37) 56 (cond (Nat.beq n 9) 9 (cond (Nat.beq n 5) 5 (cond (Nat.beq n 3) 3 (cond (Nat.beq n 0) 0 (0)))))))),fun _=>0⟩
set_option maxRecDepth 100000 in
theorem u7:Go.Proofs.Lays.n169 Tryz.prog ρb:=by
 constructor <;> first | kernel_rfl | (intro w;kernel_rfl) | (intro w;rfl)
theorem vR:Go.Proofs.Builder.Extra Tryz.prog ρb:=by
 constructor <;> first | kernel_rfl | (intro w;kernel_rfl) | (intro w;rfl) | decide | (constructor <;> kernel_rfl)
theorem fy (a0:av) {r:ByteArray} (H:bd a0=some r):LJ.Spec Tryz.prog 25 [.ptr 0 0] [(0, .box 58 [.optp a0.addr 0 0, .own 1]),(1, .row 5 1 (bC a0.buf))] (.d (.str r)) []:=by
 unfold bd at H
 cases H
 exact Spec.bldAny u7 vR
theorem dh (n0 n1:Nat) (hn:gU [n0,n1]=true) (a0:av) {r:ByteArray} (H:bd a0=some r):LJ.Spec Tryz.prog 25 [.ptr n0 0] [(n0, .box 58 [.optp a0.addr n0 0, .own n1]),(n1, .row 5 1 (bC a0.buf))] (.d (.str r)) []:=
 Spec.names [n0,n1] hn rfl rfl (fy a0 H)
theorem di:aE Tryz.prog 25 Tryz.f25:=⟨Tryz.func25,rfl,by kernel_rfl⟩
theorem lv (a0:List (List aa)) {r:ByteArray} (H:fm a0=some r):LJ.Spec Tryz.prog 22 [.d (slT ax a0)] [] (.d (.str r)) []:=by
 refine LJ.Spec.code Tryz.func22 rfl 48 rfl rfl [] rfl fun w0 F0 S0 B0=>?_
 unfold fm at H
 refine G (R 1 rfl (N (Wa 103 tk rfl rfl rfl (WL.nilP 103 0 103 rfl (WL.nilF 103 1 4031 5 1 rfl (WL.row 4031 (bC ByteArray.empty) rfl rfl rfl (NS (G (R 3 rfl (NQ (Wb (Wl (ι:= {x:Nat×(Int×Bool×ByteArray) //cm a0 x.1 x.2=some r}) (fun x=>[(3, .ptr 103 0),(8, .d (slT ax a0)),(9, .d (.int .i64 (a0.length:Int))),(10, .d (.int .i64 x.1.2.1))]) (fun x=>[(103, .box 58 [.optp x.1.2.2.1 103 0, .own 4031]),(4031, .row 5 1 (bC x.1.2.2.2))]) (fun x=>x.1.1) ⟨(fuel,(0,false,ByteArray.empty)),H⟩ (Lm p4 p2) fun x=>?_))))))))))))
 obtain ⟨⟨k2,s1⟩,H⟩:=x
 rcases k2 with _ | k2
 ·exact aL H
 rw [cm] at H
 refine G (R 1 rfl (NS (Wd rfl H (fun H=>?_) (fun H=>?_))))
 ·refine Wk (Qn ?_)
  obtain ⟨K4,hK4,H⟩:=dc H
  refine WC.cut (fun E m=>∃ s5:Bool×ByteArray,K4 s5=some r∧ga E m [(3, .ptr 103 0),(8, .d (slT ax a0)),(9, .d (.int .i64 (a0.length:Int))),(10, .d (.int .i64 s1.1))] [(103, .box 58 [.optp s5.1 103 0, .own 4031]),(4031, .row 5 1 (bC s5.2))]) ?_ ?_
  ·refine Wb (G ?_)
   obtain ⟨g6,H⟩:=ah H
   refine RS 5 rfl ⟨⟨(an g6).1,(an g6).2,rfl⟩,tv⟩ (NS (G (R 2 rfl (NQ (Wd rfl H (fun H=>?_) (fun H=>?_))))))
   ·refine Wg ?_
    obtain ⟨x8,hx8,H⟩:=al H
    refine Cl [4031] (aC 103 4031 rfl _ _ hx8) aD rfl p2 rfl (N (R 3 rfl (NQ (Wb (Wl (ι:= {x:Nat×(Int×Bool×ByteArray) //bx a0 s1 K4 x.1 x.2=some r}) (fun x=>[(3, .ptr 103 0),(8, .d (slT ax a0)),(9, .d (.int .i64 (a0.length:Int))),(10, .d (.int .i64 s1.1)),(18, .d (slT aO (a0.getD s1.1.toNat default))),(19, .d (.int .i64 ((a0.getD s1.1.toNat default).length:Int))),(20, .d (.int .i64 x.1.2.1))]) (fun x=>[(103, .box 58 [.optp x.1.2.2.1 103 0, .own 4031]),(4031, .row 5 1 (bC x.1.2.2.2))]) (fun x=>x.1.1) ⟨(fuel,(0,x8.2.2.addr,x8.2.2.buf)),H⟩ (Lm p7 p2) fun x=>?_)))))
    obtain ⟨⟨k10,s9⟩,H⟩:=x
    rcases k10 with _ | k10
    ·exact aL H
    rw [bx] at H
    refine G (R 1 rfl (NS (Wd rfl H (fun H=>?_) (fun H=>?_))))
    ·refine Wk (Qn (Ws (Wb (G ?_))))
     obtain ⟨g12,H⟩:=ah H
     refine RS 3 rfl ⟨⟨(an g12).1,(an g12).2,rfl⟩,tv⟩ (Wa 107 tk rfl rfl rfl (R 1 rfl (Ef 0 rfl (NS (G (R 2 rfl (NQ (Wd rfl H (fun H=>?_) (fun H=>?_)))))))))
     ·refine Wg ?_
      obtain ⟨x14,hx14,H⟩:=al H
      refine Cl [4031] (aC 103 4031 rfl _ _ hx14) aD rfl p2 rfl (NS (Hp (.one 0 true (.one 1 true (.one 4 true (.one 5 true (.one 2 false (.one 3 true (.one 6 false (.one 7 true (.one 8 false .done))))))))) [103,107] [107] rfl (by kernel_rfl) rfl (by kernel_rfl) rfl rfl (fun _ h=>h) rfl rfl rfl (fun _ _ _ h=>h) fun FK NK wK K=>(Hr 4 tk rfl rfl rfl rfl tv ?_)))
      obtain ⟨x15,hx15,H⟩:=al H
      refine WH.call [] rfl (fT _ hx15) fU rfl rfl tv rfl rfl rfl rfl rfl ?_
      obtain ⟨g16,H⟩:=ah H
      refine Hr 1 tk rfl rfl rfl rfl ⟨(aF g16),tv⟩ ?_
      obtain ⟨x17,hx17,H⟩:=al H
      refine WH.call [] rfl (bt _ hx17) bu rfl rfl tv rfl rfl rfl rfl rfl ?_
      obtain ⟨g18,H⟩:=ah H
      refine Hr 1 tk rfl rfl rfl rfl ⟨(aF g18),tv⟩ ?_
      obtain ⟨x19,hx19,H⟩:=al H
      refine WH.call [4031] rfl (aC 103 4031 rfl _ _ hx19) aD rfl rfl p2 rfl rfl rfl rfl rfl (WH.nil rfl (Qn (G (R 2 rfl ?_))))
      obtain ⟨x20,hx20,H⟩:=al H
      refine Cl [] (aM _ hx20) aN rfl tv rfl (NQ (Wd rfl H (fun H=>?_) (fun H=>?_)))
      ·refine Wg (R 2 rfl ?_)
       obtain ⟨x22,hx22,H⟩:=al H
       refine Cl [] (bt _ hx22) bu rfl tv rfl ?_
       obtain ⟨g23,H⟩:=ah H
       refine RS 1 rfl ⟨(aF g23),tv⟩ ?_
       obtain ⟨x24,hx24,H⟩:=al H
       refine Cl [4031] (aC 103 4031 rfl _ _ hx24) aD rfl p2 rfl (Wn (Qb (Qn ?_)))
       exact Wg (R 2 rfl (NQ (⟨⟨(k10,(IntKind.i64.wrap (s9.1+1),x24.2.2.addr,x24.2.2.buf)),H⟩,Z,Lm p7 p2⟩)))
      refine Wk (Qb (Qn ?_))
      exact Wg (R 2 rfl (NQ (⟨⟨(k10,(IntKind.i64.wrap (s9.1+1),x19.2.2.addr,x19.2.2.buf)),H⟩,Z,Lm p7 p2⟩)))
     refine Wk (Qn (Ws (Hp (.one 0 true (.one 1 true (.one 4 true (.one 5 true (.one 2 false (.one 3 true (.one 6 false (.one 7 true (.one 8 false .done))))))))) [103,107] [107] rfl (by kernel_rfl) rfl (by kernel_rfl) rfl rfl (fun _ h=>h) rfl rfl rfl (fun _ _ _ h=>h) fun FK NK wK K=>(Hr 4 tk rfl rfl rfl rfl tv ?_))))
     obtain ⟨x25,hx25,H⟩:=al H
     refine WH.call [] rfl (fT _ hx25) fU rfl rfl tv rfl rfl rfl rfl rfl ?_
     obtain ⟨g26,H⟩:=ah H
     refine Hr 1 tk rfl rfl rfl rfl ⟨(aF g26),tv⟩ ?_
     obtain ⟨x27,hx27,H⟩:=al H
     refine WH.call [] rfl (bt _ hx27) bu rfl rfl tv rfl rfl rfl rfl rfl ?_
     obtain ⟨g28,H⟩:=ah H
     refine Hr 1 tk rfl rfl rfl rfl ⟨(aF g28),tv⟩ ?_
     obtain ⟨x29,hx29,H⟩:=al H
     refine WH.call [4031] rfl (aC 103 4031 rfl _ _ hx29) aD rfl rfl p2 rfl rfl rfl rfl rfl (WH.nil rfl (Qn (G (R 2 rfl ?_))))
     obtain ⟨x30,hx30,H⟩:=al H
     refine Cl [] (aM _ hx30) aN rfl tv rfl (NQ (Wd rfl H (fun H=>?_) (fun H=>?_)))
     ·refine Wg (R 2 rfl ?_)
      obtain ⟨x32,hx32,H⟩:=al H
      refine Cl [] (bt _ hx32) bu rfl tv rfl ?_
      obtain ⟨g33,H⟩:=ah H
      refine RS 1 rfl ⟨(aF g33),tv⟩ ?_
      obtain ⟨x34,hx34,H⟩:=al H
      refine Cl [4031] (aC 103 4031 rfl _ _ hx34) aD rfl p2 rfl (Wn (Qb (Qn ?_)))
      exact Wg (R 2 rfl (NQ (⟨⟨(k10,(IntKind.i64.wrap (s9.1+1),x34.2.2.addr,x34.2.2.buf)),H⟩,Z,Lm p7 p2⟩)))
     refine Wk (Qb (Qn ?_))
     exact Wg (R 2 rfl (NQ (⟨⟨(k10,(IntKind.i64.wrap (s9.1+1),x29.2.2.addr,x29.2.2.buf)),H⟩,Z,Lm p7 p2⟩)))
    refine WC.exit (Qx (Qx (Qh (Qb (Qn ?_)))))
    exact ⟨(s9.2.1,s9.2.2),H,Lw q4 p2⟩
   refine Wk (Qn (G (R 3 rfl (NQ (Wb (Wl (ι:= {x:Nat×(Int×Bool×ByteArray) //bA a0 s1 K4 x.1 x.2=some r}) (fun x=>[(3, .ptr 103 0),(8, .d (slT ax a0)),(9, .d (.int .i64 (a0.length:Int))),(10, .d (.int .i64 s1.1)),(18, .d (slT aO (a0.getD s1.1.toNat default))),(19, .d (.int .i64 ((a0.getD s1.1.toNat default).length:Int))),(20, .d (.int .i64 x.1.2.1))]) (fun x=>[(103, .box 58 [.optp x.1.2.2.1 103 0, .own 4031]),(4031, .row 5 1 (bC x.1.2.2.2))]) (fun x=>x.1.1) ⟨(fuel,(0,s1.2.1,s1.2.2)),H⟩ (Lm p7 p2) fun x=>?_))))))
   obtain ⟨⟨k36,s35⟩,H⟩:=x
   rcases k36 with _ | k36
   ·exact aL H
   rw [bA] at H
   refine G (R 1 rfl (NS (Wd rfl H (fun H=>?_) (fun H=>?_))))
   ·refine Wk (Qn (Ws (Wb (G ?_))))
    obtain ⟨g38,H⟩:=ah H
    refine RS 3 rfl ⟨⟨(an g38).1,(an g38).2,rfl⟩,tv⟩ (Wa 107 tk rfl rfl rfl (R 1 rfl (Ef 0 rfl (NS (G (R 2 rfl (NQ (Wd rfl H (fun H=>?_) (fun H=>?_)))))))))
    ·refine Wg ?_
     obtain ⟨x40,hx40,H⟩:=al H
     refine Cl [4031] (aC 103 4031 rfl _ _ hx40) aD rfl p2 rfl (NS (Hp (.one 0 true (.one 1 true (.one 4 true (.one 5 true (.one 2 false (.one 3 true (.one 6 false (.one 7 true (.one 8 false .done))))))))) [103,107] [107] rfl (by kernel_rfl) rfl (by kernel_rfl) rfl rfl (fun _ h=>h) rfl rfl rfl (fun _ _ _ h=>h) fun FK NK wK K=>(Hr 4 tk rfl rfl rfl rfl tv ?_)))
     obtain ⟨x41,hx41,H⟩:=al H
     refine WH.call [] rfl (fT _ hx41) fU rfl rfl tv rfl rfl rfl rfl rfl ?_
     obtain ⟨g42,H⟩:=ah H
     refine Hr 1 tk rfl rfl rfl rfl ⟨(aF g42),tv⟩ ?_
     obtain ⟨x43,hx43,H⟩:=al H
     refine WH.call [] rfl (bt _ hx43) bu rfl rfl tv rfl rfl rfl rfl rfl ?_
     obtain ⟨g44,H⟩:=ah H
     refine Hr 1 tk rfl rfl rfl rfl ⟨(aF g44),tv⟩ ?_
     obtain ⟨x45,hx45,H⟩:=al H
     refine WH.call [4031] rfl (aC 103 4031 rfl _ _ hx45) aD rfl rfl p2 rfl rfl rfl rfl rfl (WH.nil rfl (Qn (G (R 2 rfl ?_))))
     obtain ⟨x46,hx46,H⟩:=al H
     refine Cl [] (aM _ hx46) aN rfl tv rfl (NQ (Wd rfl H (fun H=>?_) (fun H=>?_)))
     ·refine Wg (R 2 rfl ?_)
      obtain ⟨x48,hx48,H⟩:=al H
      refine Cl [] (bt _ hx48) bu rfl tv rfl ?_
      obtain ⟨g49,H⟩:=ah H
      refine RS 1 rfl ⟨(aF g49),tv⟩ ?_
      obtain ⟨x50,hx50,H⟩:=al H
      refine Cl [4031] (aC 103 4031 rfl _ _ hx50) aD rfl p2 rfl (Wn (Qb (Qn ?_)))
      exact Wg (R 2 rfl (NQ (⟨⟨(k36,(IntKind.i64.wrap (s35.1+1),x50.2.2.addr,x50.2.2.buf)),H⟩,Z,Lm p7 p2⟩)))
     refine Wk (Qb (Qn ?_))
     exact Wg (R 2 rfl (NQ (⟨⟨(k36,(IntKind.i64.wrap (s35.1+1),x45.2.2.addr,x45.2.2.buf)),H⟩,Z,Lm p7 p2⟩)))
    refine Wk (Qn (Ws (Hp (.one 0 true (.one 1 true (.one 4 true (.one 5 true (.one 2 false (.one 3 true (.one 6 false (.one 7 true (.one 8 false .done))))))))) [103,107] [107] rfl (by kernel_rfl) rfl (by kernel_rfl) rfl rfl (fun _ h=>h) rfl rfl rfl (fun _ _ _ h=>h) fun FK NK wK K=>(Hr 4 tk rfl rfl rfl rfl tv ?_))))
    obtain ⟨x51,hx51,H⟩:=al H
    refine WH.call [] rfl (fT _ hx51) fU rfl rfl tv rfl rfl rfl rfl rfl ?_
    obtain ⟨g52,H⟩:=ah H
    refine Hr 1 tk rfl rfl rfl rfl ⟨(aF g52),tv⟩ ?_
    obtain ⟨x53,hx53,H⟩:=al H
    refine WH.call [] rfl (bt _ hx53) bu rfl rfl tv rfl rfl rfl rfl rfl ?_
    obtain ⟨g54,H⟩:=ah H
    refine Hr 1 tk rfl rfl rfl rfl ⟨(aF g54),tv⟩ ?_
    obtain ⟨x55,hx55,H⟩:=al H
    refine WH.call [4031] rfl (aC 103 4031 rfl _ _ hx55) aD rfl rfl p2 rfl rfl rfl rfl rfl (WH.nil rfl (Qn (G (R 2 rfl ?_))))
    obtain ⟨x56,hx56,H⟩:=al H
    refine Cl [] (aM _ hx56) aN rfl tv rfl (NQ (Wd rfl H (fun H=>?_) (fun H=>?_)))
    ·refine Wg (R 2 rfl ?_)
     obtain ⟨x58,hx58,H⟩:=al H
     refine Cl [] (bt _ hx58) bu rfl tv rfl ?_
     obtain ⟨g59,H⟩:=ah H
     refine RS 1 rfl ⟨(aF g59),tv⟩ ?_
     obtain ⟨x60,hx60,H⟩:=al H
     refine Cl [4031] (aC 103 4031 rfl _ _ hx60) aD rfl p2 rfl (Wn (Qb (Qn ?_)))
     exact Wg (R 2 rfl (NQ (⟨⟨(k36,(IntKind.i64.wrap (s35.1+1),x60.2.2.addr,x60.2.2.buf)),H⟩,Z,Lm p7 p2⟩)))
    refine Wk (Qb (Qn ?_))
    exact Wg (R 2 rfl (NQ (⟨⟨(k36,(IntKind.i64.wrap (s35.1+1),x55.2.2.addr,x55.2.2.buf)),H⟩,Z,Lm p7 p2⟩)))
   refine WC.exit (Qx (Qx (Qh (Qb (Qn ?_)))))
   exact ⟨(s35.2.1,s35.2.2),H,Lw q4 p2⟩
  ·rintro E m ⟨s5,H,hl⟩
   refine WC.lessW hl ?_
   replace H:=(hK4 _).symm.trans H
   try dsimp only at H
   exact Wg (R 2 rfl (NQ (⟨⟨(k2,(IntKind.i64.wrap (s1.1+1),s5.1,s5.2)),H⟩,Z,Lm p4 p2⟩)))
 refine WC.exit (Qx (Qx (Qh (Qn ?_))))
 refine G ?_
 obtain ⟨x61,hx61,H⟩:=al H
 refine Cl [] (dh 103 4031 rfl _ hx61) di rfl p2 rfl (R 1 rfl (NQ (Wt ?_)))
 cases H
 exact Ea rfl rfl rfl tv
theorem lx:aE Tryz.prog 22 Tryz.f22:=⟨Tryz.func22,rfl,by kernel_rfl⟩
theorem my (a0:aq) {r:ByteArray} (H:gK a0=some r):LJ.Spec Tryz.prog 24 [.d (.agg [.int .i64 a0.Op, .int .i64 a0.A, .int .i64 a0.B])] [] (.d (.str r)) []:=by
 refine LJ.Spec.code Tryz.func24 rfl 20 rfl rfl [] rfl fun w0 F0 S0 B0=>?_
 unfold gK at H
 refine G (Ef 101 rfl (R 1 rfl (N (R 4 rfl (Ef 108 rfl (WL.freezeT 108 bq ([a0.A,a0.B]:List Int) rfl rfl rfl rfl (R 1 rfl (NS (Hp (.one 0 true (.one 1 true (.one 3 true (.one 4 true (.one 5 true (.one 2 false (.one 6 false (.one 7 true (.one 8 true (.one 9 false (.one 10 true (.one 11 true .done)))))))))))) [101] [101] rfl (by kernel_rfl) rfl (by kernel_rfl) rfl rfl (fun _ h=>h) rfl rfl rfl (fun _ _ _ h=>h) fun FK NK wK K=>(Hr 5 tk rfl rfl rfl rfl tv ?_))))))))))
 obtain ⟨x1,hx1,H⟩:=al H
 refine WH.call [] rfl (oS _ hx1) oT rfl rfl tv rfl rfl rfl rfl rfl ?_
 obtain ⟨x2,hx2,H⟩:=al H
 refine WH.call [] rfl (gB _ hx2) gC rfl rfl tv rfl rfl rfl rfl rfl (Hr 1 tk rfl rfl rfl rfl tv ?_)
 obtain ⟨g3,H⟩:=ah H
 refine WH.yv rfl (LJ.Y.sliceT bq ([a0.A,a0.B]:List Int) tk rfl (fun _=>rfl) none (some (.tmp 16)) (0:Int) (x2.size:Int) rfl rfl ⟨_,rfl⟩ rfl rfl (kI g3)) rfl rfl rfl ?_
 obtain ⟨x4,hx4,H⟩:=al H
 refine WH.call [] rfl (fR _ hx4) fS rfl rfl tv rfl rfl rfl rfl rfl ?_
 obtain ⟨g5,H⟩:=ah H
 refine Hr 2 tk rfl rfl rfl rfl ⟨(aF g5),tv⟩ (WH.nil rfl (Qn (Wt ?_)))
 cases H
 exact Ea rfl rfl rfl tv
theorem mz:aE Tryz.prog 24 Tryz.f24:=⟨Tryz.func24,rfl,by kernel_rfl⟩
theorem mA (a0:af) {r:ByteArray×Int} (H:dP a0=some r):LJ.Spec Tryz.prog 8 [.d (.agg [slT ai a0.Decls,slT ae a0.Waits,slT ak a0.Funcs])] [] (.tup [.d (.str r.1), .d (.int .i64 r.2)]) []:=by
 refine LJ.Spec.code Tryz.func8 rfl 75 rfl rfl [] rfl fun w0 F0 S0 B0=>?_
 unfold dP at H
 refine G (Ef 101 rfl (R 2 rfl (NS (G (R 1 rfl ?_)))))
 obtain ⟨x1,hx1,H⟩:=al H
 refine Cl [] (jX _ hx1) jY rfl tv rfl (R 1 rfl (N (R 2 rfl (NQ (Wd rfl H (fun H=>?_) (fun H=>?_))))))
 ·refine G (R 3 rfl (NQ (Wt (QT.r ?_))))
  cases H
  exact Ea rfl rfl rfl tv
 refine Wk (Qn (G (Wa 105 tk rfl rfl rfl (WL.nilP 105 0 105 rfl (WL.nilF 105 1 4051 5 1 rfl (WL.row 4051 (bC ByteArray.empty) rfl rfl rfl (NS (G (R 4 rfl (NQ (Wb (Wl (ι:= {x:Nat×(Int×Bool×ByteArray) //dg a0 x.1 x.2=some r}) (fun x=>[(1, .ptr 101 0),(5, .ptr 105 0),(20, .d (slT ai a0.Decls)),(21, .d (.int .i64 (a0.Decls.length:Int))),(22, .d (.int .i64 x.1.2.1))]) (fun x=>[(101, .box 26 [.d (slT ai a0.Decls), .d (slT ae a0.Waits), .d (slT ak a0.Funcs)]),(105, .box 58 [.optp x.1.2.2.1 105 0, .own 4051]),(4051, .row 5 1 (bC x.1.2.2.2))]) (fun x=>x.1.1) ⟨(fuel,(0,false,ByteArray.empty)),H⟩ (Lm p5 p3) fun x=>?_))))))))))))
 obtain ⟨⟨k4,s3⟩,H⟩:=x
 rcases k4 with _ | k4
 ·exact aL H
 rw [dg] at H
 refine G (R 1 rfl (NS (Wd rfl H (fun H=>?_) (fun H=>?_))))
 ·refine Wk (Qn (Ws (Wb (G ?_))))
  obtain ⟨g6,H⟩:=ah H
  refine RS 2 rfl ⟨⟨(an g6).1,(an g6).2,rfl⟩,tv⟩ (Wa 107 tk rfl rfl rfl (Ef 0 rfl (NQ (Wg (R 1 rfl ?_)))))
  obtain ⟨x7,hx7,H⟩:=al H
  refine Cl [] (oU _ hx7) oV rfl tv rfl ?_
  obtain ⟨g8,H⟩:=ah H
  refine RS 1 rfl ⟨(aF g8),tv⟩ ?_
  obtain ⟨x9,hx9,H⟩:=al H
  refine Cl [4051] (aC 105 4051 rfl _ _ hx9) aD rfl p2 rfl (Wn (Qb (Qn ?_)))
  exact Wg (R 2 rfl (NQ (⟨⟨(k4,(IntKind.i64.wrap (s3.1+1),x9.2.2.addr,x9.2.2.buf)),H⟩,Z,Lm p5 p3⟩)))
 refine WC.exit (Qx (Qx (Qh (Qn ?_))))
 refine Ws (G (R 4 rfl (NQ (Wb (Wl (ι:= {x:Nat×(Int×Bool×ByteArray) //cZ a0 x.1 x.2=some r}) (fun x=>[(1, .ptr 101 0),(5, .ptr 105 0),(32, .d (slT ae a0.Waits)),(33, .d (.int .i64 (a0.Waits.length:Int))),(34, .d (.int .i64 x.1.2.1))]) (fun x=>[(101, .box 26 [.d (slT ai a0.Decls), .d (slT ae a0.Waits), .d (slT ak a0.Funcs)]),(105, .box 58 [.optp x.1.2.2.1 105 0, .own 4051]),(4051, .row 5 1 (bC x.1.2.2.2))]) (fun x=>x.1.1) ⟨(fuel,(0,s3.2.1,s3.2.2)),H⟩ (Lm p5 p3) fun x=>?_)))))
 obtain ⟨⟨k11,s10⟩,H⟩:=x
 rcases k11 with _ | k11
 ·exact aL H
 rw [cZ] at H
 refine G (R 1 rfl (NS (Wd rfl H (fun H=>?_) (fun H=>?_))))
 ·refine Wk (Qn (Ws (Wb (G ?_))))
  obtain ⟨g13,H⟩:=ah H
  refine RS 3 rfl ⟨⟨(an g13).1,(an g13).2,rfl⟩,tv⟩ (NQ (Wg (R 1 rfl ?_)))
  obtain ⟨x14,hx14,H⟩:=al H
  refine Cl [] (lv _ hx14) lx rfl tv rfl ?_
  obtain ⟨g15,H⟩:=ah H
  obtain ⟨g16,H⟩:=ah H
  refine RS 2 rfl ⟨(aF g15),(aF g16),tv⟩ ?_
  obtain ⟨x17,hx17,H⟩:=al H
  refine Cl [4051] (aC 105 4051 rfl _ _ hx17) aD rfl p2 rfl (Wn (Qb (Qn ?_)))
  exact Wg (R 2 rfl (NQ (⟨⟨(k11,(IntKind.i64.wrap (s10.1+1),x17.2.2.addr,x17.2.2.buf)),H⟩,Z,Lm p5 p3⟩)))
 refine WC.exit (Qx (Qx (Qh (Qn ?_))))
 refine Ws (G (R 4 rfl (NQ (Wb (Wl (ι:= {x:Nat×(Int×Bool×ByteArray) //cD a0 x.1 x.2=some r}) (fun x=>[(5, .ptr 105 0),(45, .d (slT ak a0.Funcs)),(46, .d (.int .i64 (a0.Funcs.length:Int))),(47, .d (.int .i64 x.1.2.1))]) (fun x=>[(105, .box 58 [.optp x.1.2.2.1 105 0, .own 4051]),(4051, .row 5 1 (bC x.1.2.2.2))]) (fun x=>x.1.1) ⟨(fuel,(0,s10.2.1,s10.2.2)),H⟩ (Lm p4 p2) fun x=>?_)))))
 obtain ⟨⟨k19,s18⟩,H⟩:=x
 rcases k19 with _ | k19
 ·exact aL H
 rw [cD] at H
 refine G (R 1 rfl (NS (Wd rfl H (fun H=>?_) (fun H=>?_))))
 ·refine Wk (Qn ?_)
  obtain ⟨K21,hK21,H⟩:=dc H
  refine WC.cut (fun E m=>∃ s22:Bool×ByteArray,K21 s22=some r∧ga E m [(5, .ptr 105 0),(45, .d (slT ak a0.Funcs)),(46, .d (.int .i64 (a0.Funcs.length:Int))),(47, .d (.int .i64 s18.1))] [(105, .box 58 [.optp s22.1 105 0, .own 4051]),(4051, .row 5 1 (bC s22.2))]) ?_ ?_
  ·refine Wb (G ?_)
   obtain ⟨g23,H⟩:=ah H
   refine RS 2 rfl ⟨⟨(an g23).1,(an g23).2,rfl⟩,tv⟩ (Wa 111 tk rfl rfl rfl (Ef 0 rfl (N (R 4 rfl (Ef 155 rfl (WL.freezeT 155 bq ([(a0.Funcs.getD s18.1.toNat default).Args,(a0.Funcs.getD s18.1.toNat default).Locals]:List Int) rfl rfl rfl rfl ?_))))))
   obtain ⟨x24,hx24,H⟩:=al H
   refine Cl [] (fR _ hx24) fS rfl tv rfl ?_
   obtain ⟨g25,H⟩:=ah H
   obtain ⟨g26,H⟩:=ah H
   refine RS 2 rfl ⟨(aF g25),(aF g26),tv⟩ ?_
   obtain ⟨x27,hx27,H⟩:=al H
   refine Cl [4051] (aC 105 4051 rfl _ _ hx27) aD rfl p2 rfl (N (R 4 rfl (NQ (Wb (Wl (ι:= {x:Nat×(Int×Bool×ByteArray) //cY a0 s18 K21 x.1 x.2=some r}) (fun x=>[(5, .ptr 105 0),(45, .d (slT ak a0.Funcs)),(46, .d (.int .i64 (a0.Funcs.length:Int))),(47, .d (.int .i64 s18.1)),(61, .d (slT aB ((a0.Funcs.getD s18.1.toNat default).Code))),(62, .d (.int .i64 (((a0.Funcs.getD s18.1.toNat default).Code).length:Int))),(63, .d (.int .i64 x.1.2.1))]) (fun x=>[(105, .box 58 [.optp x.1.2.2.1 105 0, .own 4051]),(4051, .row 5 1 (bC x.1.2.2.2))]) (fun x=>x.1.1) ⟨(fuel,(0,x27.2.2.addr,x27.2.2.buf)),H⟩ (Lm p7 p2) fun x=>?_)))))
   obtain ⟨⟨k29,s28⟩,H⟩:=x
   rcases k29 with _ | k29
   ·exact aL H
   rw [cY] at H
   refine G (R 1 rfl (NS (Wd rfl H (fun H=>?_) (fun H=>?_))))
   ·refine Wk (Qn (Ws (Wb (G ?_))))
    obtain ⟨g31,H⟩:=ah H
    refine RS 2 rfl ⟨⟨(an g31).1,(an g31).2,rfl⟩,tv⟩ (Wa 113 tk rfl rfl rfl (Ef 0 rfl (NQ (Wg (R 1 rfl ?_)))))
    obtain ⟨x32,hx32,H⟩:=al H
    refine Cl [] (my _ hx32) mz rfl tv rfl ?_
    obtain ⟨g33,H⟩:=ah H
    obtain ⟨g34,H⟩:=ah H
    refine RS 2 rfl ⟨(aF g33),(aF g34),tv⟩ ?_
    obtain ⟨x35,hx35,H⟩:=al H
    refine Cl [4051] (aC 105 4051 rfl _ _ hx35) aD rfl p2 rfl (Wn (Qb (Qn ?_)))
    exact Wg (R 2 rfl (NQ (⟨⟨(k29,(IntKind.i64.wrap (s28.1+1),x35.2.2.addr,x35.2.2.buf)),H⟩,Z,Lm p7 p2⟩)))
   refine WC.exit (Qx (Qx (Qh (Qb (Qn ?_)))))
   exact ⟨(s28.2.1,s28.2.2),H,Lw q4 p2⟩
  ·rintro E m ⟨s22,H,hl⟩
   refine WC.lessW hl ?_
   replace H:=(hK21 _).symm.trans H
   try dsimp only at H
   exact Wg (R 2 rfl (NQ (⟨⟨(k19,(IntKind.i64.wrap (s18.1+1),s22.1,s22.2)),H⟩,Z,Lm p4 p2⟩)))
 refine WC.exit (Qx (Qx (Qh (Qn ?_))))
 refine G ?_
 obtain ⟨x36,hx36,H⟩:=al H
 refine Cl [] (dh 105 4051 rfl _ hx36) di rfl p2 rfl (R 2 rfl (NQ (Wt ?_)))
 cases H
 exact Ea rfl rfl rfl tv
theorem mB:aE Tryz.prog 8 Tryz.f8:=⟨Tryz.func8,rfl,by kernel_rfl⟩
theorem mC (a0:aq) {r:ByteArray} (H:gL a0=some r):LJ.Spec Tryz.prog 9 [.d (.agg [.int .i64 a0.Op, .int .i64 a0.A, .int .i64 a0.B])] [] (.d (.str r)) []:=by
 refine LJ.Spec.code Tryz.func9 rfl 8 rfl rfl [] rfl fun w0 F0 S0 B0=>?_
 unfold gL at H
 refine G (Ef 101 rfl (R 1 rfl (NS (G (R 1 rfl ?_)))))
 obtain ⟨x1,hx1,H⟩:=al H
 refine Cl [] (lk _ hx1) ll rfl tv rfl (R 1 rfl (NQ (Wd rfl H (fun H=>?_) (fun H=>?_))))
 ·refine G (R 1 rfl (NQ (Wt (QT.r ?_))))
  cases H
  exact Ea rfl rfl rfl tv
 refine Wk (Qn (G (R 1 rfl ?_)))
 obtain ⟨x3,hx3,H⟩:=al H
 refine Cl [] (my _ hx3) mz rfl tv rfl (R 1 rfl (NQ (Wt ?_)))
 cases H
 exact Ea rfl rfl rfl tv
theorem mD:aE Tryz.prog 9 Tryz.f9:=⟨Tryz.func9,rfl,by kernel_rfl⟩
theorem jh {r:List ByteArray} (H:fK=some r):LJ.Spec Tryz.prog 54 [] [] (.d (slT bj r)) []:=by
 refine LJ.Spec.code Tryz.func54 rfl 2 rfl rfl [] rfl fun w0 F0 S0 B0=>?_
 unfold fK at H
 refine G (R 1 rfl (N (Ef 101 rfl (WL.freezeT 101 bj ([(⟨#[112,117,115,104]⟩:ByteArray),(⟨#[108,111,97,100]⟩:ByteArray),(⟨#[115,116,111,114,101]⟩:ByteArray),(⟨#[97,100,100]⟩:ByteArray),(⟨#[115,117,98]⟩:ByteArray),(⟨#[109,117,108]⟩:ByteArray),(⟨#[100,105,118]⟩:ByteArray),(⟨#[109,111,100]⟩:ByteArray),(⟨#[110,101,103]⟩:ByteArray),(⟨#[108,116]⟩:ByteArray),(⟨#[101,113]⟩:ByteArray),(⟨#[97,110,100]⟩:ByteArray),(⟨#[111,114]⟩:ByteArray),(⟨#[120,111,114]⟩:ByteArray),(⟨#[115,104,108]⟩:ByteArray),(⟨#[115,104,114]⟩:ByteArray),(⟨#[100,117,112]⟩:ByteArray),(⟨#[100,114,111,112]⟩:ByteArray),(⟨#[106,117,109,112]⟩:ByteArray),(⟨#[122,101,114,111]⟩:ByteArray),(⟨#[99,97,108,108]⟩:ByteArray),(⟨#[114,101,116]⟩:ByteArray),(⟨#[115,101,108,102]⟩:ByteArray),(⟨#[110,111,119]⟩:ByteArray),(⟨#[111,117,116]⟩:ByteArray),(⟨#[121,105,101,108,100]⟩:ByteArray),(⟨#[119,97,105,116]⟩:ByteArray),(⟨#[119,97,105,116,102,111,114]⟩:ByteArray),(⟨#[115,108,101,101,112]⟩:ByteArray),(⟨#[117,110,108,111,99,107]⟩:ByteArray),(⟨#[112,111,115,116]⟩:ByteArray),(⟨#[103,105,118,101]⟩:ByteArray),(⟨#[99,119,97,105,116]⟩:ByteArray),(⟨#[99,119,97,105,116,102,111,114]⟩:ByteArray),(⟨#[115,105,103,110,97,108]⟩:ByteArray),(⟨#[98,114,111,97,100,99,97,115,116]⟩:ByteArray),(⟨#[101,110,114,111,108]⟩:ByteArray),(⟨#[108,101,97,118,101]⟩:ByteArray),(⟨#[97,114,114,105,118,101]⟩:ByteArray),(⟨#[97,114,114,105,118,101,102,111,114]⟩:ByteArray),(⟨#[115,112,97,119,110]⟩:ByteArray),(⟨#[106,111,105,110]⟩:ByteArray),(⟨#[106,111,105,110,102,111,114]⟩:ByteArray),(⟨#[103,114,97,110,116]⟩:ByteArray),(⟨#[119,97,105,118,101]⟩:ByteArray),(⟨#[114,101,97,100]⟩:ByteArray),(⟨#[119,114,105,116,101]⟩:ByteArray),(⟨#[98,101,103,105,110]⟩:ByteArray),(⟨#[99,111,109,109,105,116]⟩:ByteArray),(⟨#[99,108,97,105,109]⟩:ByteArray),(⟨#[100,101,97,100]⟩:ByteArray),(⟨#[109,101,110,100]⟩:ByteArray)]:List ByteArray) rfl rfl rfl rfl (R 1 rfl (NQ (Wt ?_)))))))
 cases H
 exact Ea rfl rfl rfl tv
theorem ji:aE Tryz.prog 54 Tryz.f54:=⟨Tryz.func54,rfl,by kernel_rfl⟩
theorem dJ:aE Tryz.prog 56 Tryz.f56:=⟨Tryz.func56,rfl,by kernel_rfl⟩
theorem fZ:∀ (k:Nat) (a0:Int) {r:ByteArray} (H:cx k a0=some r),LJ.Spec Tryz.prog 56 [.d (.int .i64 a0)] [] (.d (.str r)) []
 | 0,a0,r,H=>by cases H
 | k+1,a0,r,H=>by
  have ref02_Digits_rk_0:∀ (a0:Int) {r:ByteArray} (H:cx k a0=some r),LJ.Spec Tryz.prog 56 [.d (.int .i64 a0)] [] (.d (.str r)) []:=fun a0 r H=>fZ k a0 H
  refine LJ.Spec.code Tryz.func56 rfl 20 rfl rfl [] rfl fun w0 F0 S0 B0=>?_
  rw [cx] at H
  refine G (R 1 rfl (NS (G (R 2 rfl (NQ (Wd rfl H (fun H=>?_) (fun H=>?_)))))))
  ·refine G (R 3 rfl (Ef 108 rfl ?_))
   obtain ⟨g2,H⟩:=ah H
   refine WL.row 108 (bC (ByteArray.empty.push (UInt8.ofNat (IntKind.u8.wrap (IntKind.i64.wrap ((48:Int)+a0))).toNat))) rfl (iy (s:= .empty) (an g2).1 (an g2).2) rfl (WL.ownStr (ByteArray.empty.push (UInt8.ofNat (IntKind.u8.wrap (IntKind.i64.wrap ((48:Int)+a0))).toNat)) tk rfl rfl rfl rfl (R 1 rfl (NQ (Wt (QT.r ?_)))))
   cases H
   exact Ea rfl rfl rfl tv
  refine Wk (Qn (Ws ?_))
  obtain ⟨x3_2_1,hx3_2_1,H⟩:=al H
  obtain ⟨g3_8_1,H⟩:=ah H
  obtain ⟨g3_9_1,H⟩:=ah H
  refine WC.heldF [(2, .d (.str (x3_2_1++(ByteArray.empty.push (UInt8.ofNat (IntKind.u8.wrap (IntKind.i64.wrap ((48:Int)+(Int.tmod a0 10)))).toNat)))))] [] (sT 0 (sT 1 (sT 3 (sT 4 (sT 5 (sT 6 (fk (sf 2 (sf 7 (sf 8 (sT 9 (sT 10 sd))))) (sf 7 (fk (sf 2 (sf 8 (sT 9 (sT 10 sd)))) (sf 8 (sf 2 (sT 9 (sT 10 sd))))))))))))) [] [] rfl (by kernel_rfl) rfl (by kernel_rfl) rfl rfl (fun _ h=>h) rfl rfl rfl (fun FK NK wK K=>?_) ?_
  ·refine Hr 6 tk rfl rfl rfl rfl tv (WH.fork ?_ ?_)
   ·exact WH.call [] rfl (ref02_Digits_rk_0 _ hx3_2_1) dJ rfl rfl tv rfl rfl rfl rfl rfl (He 117 tk ek rfl rfl rfl rfl tv rfl rfl (WH.row 117 (bC (ByteArray.empty.push (UInt8.ofNat (IntKind.u8.wrap (IntKind.i64.wrap ((48:Int)+(Int.tmod a0 10)))).toNat))) rfl (iy (s:= .empty) (an g3_8_1).1 (an g3_8_1).2) rfl (WH.ownStr (ByteArray.empty.push (UInt8.ofNat (IntKind.u8.wrap (IntKind.i64.wrap ((48:Int)+(Int.tmod a0 10)))).toNat)) tk rfl rfl rfl rfl rfl rfl rfl (Hr 2 tk rfl rfl rfl rfl ⟨(aF g3_9_1),tv⟩ (Hn rfl (Lw q1 tv))))))
   ·refine He 117 tk ek rfl rfl rfl rfl tv rfl rfl (WH.fork ?_ ?_)
    ·exact WH.call [] rfl (ref02_Digits_rk_0 _ hx3_2_1) dJ rfl rfl tv rfl rfl rfl rfl rfl (WH.row 117 (bC (ByteArray.empty.push (UInt8.ofNat (IntKind.u8.wrap (IntKind.i64.wrap ((48:Int)+(Int.tmod a0 10)))).toNat))) rfl (iy (s:= .empty) (an g3_8_1).1 (an g3_8_1).2) rfl (WH.ownStr (ByteArray.empty.push (UInt8.ofNat (IntKind.u8.wrap (IntKind.i64.wrap ((48:Int)+(Int.tmod a0 10)))).toNat)) tk rfl rfl rfl rfl rfl rfl rfl (Hr 2 tk rfl rfl rfl rfl ⟨(aF g3_9_1),tv⟩ (Hn rfl (Lw q1 tv)))))
    ·exact WH.row 117 (bC (ByteArray.empty.push (UInt8.ofNat (IntKind.u8.wrap (IntKind.i64.wrap ((48:Int)+(Int.tmod a0 10)))).toNat))) rfl (iy (s:= .empty) (an g3_8_1).1 (an g3_8_1).2) rfl (WH.ownStr (ByteArray.empty.push (UInt8.ofNat (IntKind.u8.wrap (IntKind.i64.wrap ((48:Int)+(Int.tmod a0 10)))).toNat)) tk rfl rfl rfl rfl rfl rfl rfl (WH.call [] rfl (ref02_Digits_rk_0 _ hx3_2_1) dJ rfl rfl tv rfl rfl rfl rfl rfl (Hr 2 tk rfl rfl rfl rfl ⟨(aF g3_9_1),tv⟩ (Hn rfl (Lw q1 tv)))))
  ·refine Qn (Wt ?_)
   cases H
   exact Ea rfl rfl rfl tv
theorem hH (a0:Int) {r:ByteArray} (H:eR a0=some r):LJ.Spec Tryz.prog 56 [.d (.int .i64 a0)] [] (.d (.str r)) []:=fZ fuel a0 H
theorem hI:aE Tryz.prog 56 Tryz.f56:=⟨Tryz.func56,rfl,by kernel_rfl⟩
theorem bf (a0:Int) {r:ByteArray} (H:bm a0=some r):LJ.Spec Tryz.prog 31 [.d (.int .i64 a0)] [] (.d (.str r)) []:=by
 refine LJ.Spec.code Tryz.func31 rfl 13 rfl rfl [] rfl fun w0 F0 S0 B0=>?_
 unfold bm at H
 refine G (R 1 rfl (NS (G (R 2 rfl (NQ (Wd rfl H (fun H=>?_) (fun H=>?_)))))))
 ·refine G (R 1 rfl (NQ (Wt (QT.r ?_))))
  cases H
  exact Ea rfl rfl rfl tv
 refine Wk (Qn (Ws (G (R 2 rfl (NQ (Wd rfl H (fun H=>?_) (fun H=>?_)))))))
 ·refine G (R 2 rfl ?_)
  obtain ⟨x3,hx3,H⟩:=al H
  refine Cl [] (hH _ hx3) hI rfl tv rfl ?_
  obtain ⟨g4,H⟩:=ah H
  refine RS 2 rfl ⟨(aF g4),tv⟩ (NQ (Wt (QT.r ?_)))
  cases H
  exact Ea rfl rfl rfl tv
 refine Wk (Qn (G (R 1 rfl ?_)))
 obtain ⟨x5,hx5,H⟩:=al H
 refine Cl [] (hH _ hx5) hI rfl tv rfl (R 1 rfl (NQ (Wt ?_)))
 cases H
 exact Ea rfl rfl rfl tv
theorem bg:aE Tryz.prog 31 Tryz.f31:=⟨Tryz.func31,rfl,by kernel_rfl⟩
theorem jZ (a0:aq) {r:ByteArray} (H:eA a0=some r):LJ.Spec Tryz.prog 28 [.d (.agg [.int .i64 a0.Op, .int .i64 a0.A, .int .i64 a0.B])] [] (.d (.str r)) []:=by
 refine LJ.Spec.code Tryz.func28 rfl 33 rfl rfl [] rfl fun w0 F0 S0 B0=>?_
 unfold eA at H
 refine G (Ef 101 rfl (R 1 rfl (NQ (Ws ?_))))
 obtain ⟨x1_0_1,hx1_0_1,H⟩:=al H
 obtain ⟨g1_3_1,H⟩:=ah H
 refine WC.heldF [(1, .ptr 101 0),(3, .d (.str (x1_0_1.getD a0.Op.toNat default))),(4, .d (slT bq ([a0.A,a0.B]:List Int)))] [(101, .box 28 [.d (.int .i64 a0.Op), .d (.int .i64 a0.A), .d (.int .i64 a0.B)])] (sT 1 (sT 2 (sT 5 (sT 6 (sT 7 (sT 8 (fk (sf 0 (fk (sf 3 (fk (sf 4 (sT 10 (sf 9 (sT 11 sd)))) (sf 9 (sf 4 (sT 10 (sT 11 sd)))))) (sf 9 (sf 3 (sf 4 (sT 10 (sT 11 sd))))))) (sf 9 (sf 0 (sf 3 (sf 4 (sT 10 (sT 11 sd))))))))))))) [101] [101] rfl (by kernel_rfl) rfl (by kernel_rfl) rfl rfl (fun _ h=>h) rfl rfl rfl (fun FK NK wK K=>?_) ?_
 ·refine Hr 6 tk rfl rfl rfl rfl tv (WH.fork ?_ ?_)
  ·refine WH.call [] rfl (jh hx1_0_1) ji rfl rfl tv rfl rfl rfl rfl rfl (WH.fork ?_ ?_)
   ·refine WH.val tk rfl rfl rfl rfl rfl ⟨(an g1_3_1).1,(an g1_3_1).2,rfl⟩ rfl rfl (WH.fork ?_ ?_)
    ·exact WH.val tk rfl rfl rfl rfl rfl tv rfl rfl (Hr 1 tk rfl rfl rfl rfl tv (He 115 tk ek rfl rfl rfl rfl tv rfl rfl (WH.freezeT 115 bq ([a0.A,a0.B]:List Int) rfl rfl rfl rfl (WH.mv rfl rfl rfl rfl rfl rfl rfl rfl rfl (Hn rfl (Lw q3 p1))))))
    ·exact He 115 tk ek rfl rfl rfl rfl tv rfl rfl (WH.freezeT 115 bq ([a0.A,a0.B]:List Int) rfl rfl rfl rfl (WH.val tk rfl rfl rfl rfl rfl tv rfl rfl (Hr 1 tk rfl rfl rfl rfl tv (WH.mv rfl rfl rfl rfl rfl rfl rfl rfl rfl (Hn rfl (Lw q3 p1))))))
   ·exact He 115 tk ek rfl rfl rfl rfl tv rfl rfl (WH.freezeT 115 bq ([a0.A,a0.B]:List Int) rfl rfl rfl rfl (WH.val tk rfl rfl rfl rfl rfl ⟨(an g1_3_1).1,(an g1_3_1).2,rfl⟩ rfl rfl (WH.val tk rfl rfl rfl rfl rfl tv rfl rfl (Hr 1 tk rfl rfl rfl rfl tv (WH.mv rfl rfl rfl rfl rfl rfl rfl rfl rfl (Hn rfl (Lw q3 p1)))))))
  ·exact He 115 tk ek rfl rfl rfl rfl tv rfl rfl (WH.freezeT 115 bq ([a0.A,a0.B]:List Int) rfl rfl rfl rfl (WH.call [] rfl (jh hx1_0_1) ji rfl rfl tv rfl rfl rfl rfl rfl (WH.val tk rfl rfl rfl rfl rfl ⟨(an g1_3_1).1,(an g1_3_1).2,rfl⟩ rfl rfl (WH.val tk rfl rfl rfl rfl rfl tv rfl rfl (Hr 1 tk rfl rfl rfl rfl tv (WH.mv rfl rfl rfl rfl rfl rfl rfl rfl rfl (Hn rfl (Lw q3 p1))))))))
 ·refine Qn (Ws (G (R 1 rfl (NQ (Wb (Wl (ι:= {x:Nat×(ByteArray×Int) //bM a0 x.1 x.2=some r}) (fun x=>[(1, .ptr 101 0),(3, .d (.str x.1.2.1)),(4, .d (slT bq ([a0.A,a0.B]:List Int))),(5, .d (.int .i64 x.1.2.2))]) (fun x=>[(101, .box 28 [.d (.int .i64 a0.Op), .d (.int .i64 a0.A), .d (.int .i64 a0.B)])]) (fun x=>x.1.1) ⟨(fuel,((x1_0_1.getD a0.Op.toNat default),0)),H⟩ (Lm p4 p1) fun x=>?_))))))
  obtain ⟨⟨k2,s1⟩,H⟩:=x
  rcases k2 with _ | k2
  ·exact aL H
  rw [bM] at H
  refine Ws (G (R 3 rfl ?_))
  obtain ⟨x3,hx3,H⟩:=al H
  refine Cl [] (gz _ hx3) gA rfl tv rfl (R 2 rfl (NQ (Wd rfl H (fun H=>?_) (fun H=>?_))))
  ·refine Wk (Qn (Ws (Wb (Wg ?_))))
   obtain ⟨g5,H⟩:=ah H
   obtain ⟨g6,H⟩:=ah H
   refine RS 6 rfl ⟨(aF g5),⟨(an g6).1,(an g6).2,rfl⟩,tv⟩ ?_
   obtain ⟨x7,hx7,H⟩:=al H
   refine Cl [] (bf _ hx7) bg rfl tv rfl ?_
   obtain ⟨g8,H⟩:=ah H
   refine RS 2 rfl ⟨(aF g8),tv⟩ (Wn (Qb (Qn ?_)))
   exact Wg (R 3 rfl (NQ (⟨⟨(k2,((s1.1++(⟨#[32]⟩:ByteArray))++x7,IntKind.i64.wrap (s1.2+1))),H⟩,Z,Lm p4 p1⟩)))
  refine WC.exit (Qx (Qx (Qh (Qn ?_))))
  refine G (R 2 rfl (NQ (Wt ?_)))
  cases H
  exact Ea rfl rfl rfl tv
theorem j0:aE Tryz.prog 28 Tryz.f28:=⟨Tryz.func28,rfl,by kernel_rfl⟩
theorem oW (a0:aq) {r:ByteArray} (H:fp a0=some r):LJ.Spec Tryz.prog 10 [.d (.agg [.int .i64 a0.Op, .int .i64 a0.A, .int .i64 a0.B])] [] (.d (.str r)) []:=by
 refine LJ.Spec.code Tryz.func10 rfl 8 rfl rfl [] rfl fun w0 F0 S0 B0=>?_
 unfold fp at H
 refine G (Ef 101 rfl (R 1 rfl (NS (G (R 1 rfl ?_)))))
 obtain ⟨x1,hx1,H⟩:=al H
 refine Cl [] (jd _ hx1) je rfl tv rfl (R 1 rfl (NQ (Wd rfl H (fun H=>?_) (fun H=>?_))))
 ·refine G (R 1 rfl (NQ (Wt (QT.r ?_))))
  cases H
  exact Ea rfl rfl rfl tv
 refine Wk (Qn (G (R 1 rfl ?_)))
 obtain ⟨x3,hx3,H⟩:=al H
 refine Cl [] (jZ _ hx3) j0 rfl tv rfl (R 1 rfl (NQ (Wt ?_)))
 cases H
 exact Ea rfl rfl rfl tv
theorem oX:aE Tryz.prog 10 Tryz.f10:=⟨Tryz.func10,rfl,by kernel_rfl⟩
theorem nJ {r:List ByteArray} (H:dE=some r):LJ.Spec Tryz.prog 55 [] [] (.d (slT bj r)) []:=by
 refine LJ.Spec.code Tryz.func55 rfl 2 rfl rfl [] rfl fun w0 F0 S0 B0=>?_
 unfold dE at H
 refine G (R 1 rfl (N (Ef 101 rfl (WL.freezeT 101 bj ([ByteArray.empty,(⟨#[109,117,116,101,120]⟩:ByteArray),(⟨#[114,119]⟩:ByteArray),(⟨#[115,101,109]⟩:ByteArray),(⟨#[99,111,110,100]⟩:ByteArray),(⟨#[98,97,114]⟩:ByteArray),(⟨#[112,111,111,108]⟩:ByteArray),(⟨#[99,101,108,108]⟩:ByteArray)]:List ByteArray) rfl rfl rfl rfl (R 1 rfl (NQ (Wt ?_)))))))
 cases H
 exact Ea rfl rfl rfl tv
theorem nK:aE Tryz.prog 55 Tryz.f55:=⟨Tryz.func55,rfl,by kernel_rfl⟩
theorem lN (a0:ab) {r:ByteArray} (H:dU a0=some r):LJ.Spec Tryz.prog 29 [.d (.agg [.int .i64 a0.Kind, .int .i64 a0.A, .int .i64 a0.B])] [] (.d (.str r)) []:=by
 refine LJ.Spec.code Tryz.func29 rfl 44 rfl rfl [] rfl fun w0 F0 S0 B0=>?_
 unfold dU at H
 refine G (Ef 101 rfl (R 1 rfl (NS (Hp (.one 1 true (.one 2 true (.one 0 false (.one 3 false (.one 4 false (.one 5 true (.one 6 true .done))))))) [101] [101] rfl (by kernel_rfl) rfl (by kernel_rfl) rfl rfl (fun _ h=>h) rfl rfl rfl (fun _ _ _ h=>h) fun FK NK wK K=>(Hr 2 tk rfl rfl rfl rfl tv ?_)))))
 obtain ⟨x1,hx1,H⟩:=al H
 refine WH.call [] rfl (nJ hx1) nK rfl rfl tv rfl rfl rfl rfl rfl ?_
 obtain ⟨g2,H⟩:=ah H
 refine WH.val tk rfl rfl rfl rfl rfl ⟨(an g2).1,(an g2).2,rfl⟩ rfl rfl (WH.val tk rfl rfl rfl rfl rfl tv rfl rfl ?_)
 obtain ⟨g3,H⟩:=ah H
 refine Hr 2 tk rfl rfl rfl rfl ⟨(aF g3),tv⟩ (WH.nil rfl (Qn (Ws (G (R 4 rfl (Wx 3 3 false tk sg0 rfl rfl (fun _=>tv) (RS 2 rfl ⟨by first | exact id | exact fun h=>by rw [h];rfl | simp_all,tv⟩ (Wx 3 8 false tk sg0 rfl rfl (fun _=>tv) (RS 1 rfl ⟨by first | exact id | exact fun h=>by rw [h];rfl | simp_all,tv⟩ (NQ (Wd rfl H (fun H=>?_) (fun H=>?_))))))))))))
 ·refine Wg ?_
  obtain ⟨g5,H⟩:=ah H
  refine RS 4 rfl ⟨(aF g5),tv⟩ ?_
  obtain ⟨x6,hx6,H⟩:=al H
  refine Cl [] (bf _ hx6) bg rfl tv rfl ?_
  obtain ⟨g7,H⟩:=ah H
  refine RS 2 rfl ⟨(aF g7),tv⟩ (NS (G (R 4 rfl (Wx 3 3 false tk sg0 rfl rfl (fun _=>tv) (RS 1 rfl ⟨by first | exact id | exact fun h=>by rw [h];rfl | simp_all,tv⟩ (NQ (Wd rfl H (fun H=>?_) (fun H=>?_))))))))
  ·refine Wg ?_
   obtain ⟨g9,H⟩:=ah H
   refine RS 4 rfl ⟨(aF g9),tv⟩ ?_
   obtain ⟨x10,hx10,H⟩:=al H
   refine Cl [] (bf _ hx10) bg rfl tv rfl ?_
   obtain ⟨g11,H⟩:=ah H
   refine RS 2 rfl ⟨(aF g11),tv⟩ (N (R 2 rfl (NQ (Wt ?_))))
   cases H
   exact Ea rfl rfl rfl tv
  refine Wk (Qn (G (R 2 rfl (NQ (Wt ?_)))))
  cases H
  exact Ea rfl rfl rfl tv
 refine Wk (Qn (Ws (G (R 4 rfl (Wx 3 3 false tk sg0 rfl rfl (fun _=>tv) (RS 1 rfl ⟨by first | exact id | exact fun h=>by rw [h];rfl | simp_all,tv⟩ (NQ (Wd rfl H (fun H=>?_) (fun H=>?_)))))))))
 ·refine Wg ?_
  obtain ⟨g13,H⟩:=ah H
  refine RS 4 rfl ⟨(aF g13),tv⟩ ?_
  obtain ⟨x14,hx14,H⟩:=al H
  refine Cl [] (bf _ hx14) bg rfl tv rfl ?_
  obtain ⟨g15,H⟩:=ah H
  refine RS 2 rfl ⟨(aF g15),tv⟩ (N (R 2 rfl (NQ (Wt ?_))))
  cases H
  exact Ea rfl rfl rfl tv
 refine Wk (Qn (G (R 2 rfl (NQ (Wt ?_)))))
 cases H
 exact Ea rfl rfl rfl tv
theorem lO:aE Tryz.prog 29 Tryz.f29:=⟨Tryz.func29,rfl,by kernel_rfl⟩
theorem oY (a0:List (List aa)) {r:ByteArray} (H:fq a0=some r):LJ.Spec Tryz.prog 30 [.d (slT ax a0)] [] (.d (.str r)) []:=by
 refine LJ.Spec.code Tryz.func30 rfl 74 rfl rfl [] rfl fun w0 F0 S0 B0=>?_
 unfold fq at H
 refine G (R 1 rfl (N (Ef 109 rfl (WL.freezeT 109 bj ([(⟨#[110,111,110,101]⟩:ByteArray),(⟨#[108,111,99,107]⟩:ByteArray),(⟨#[114,101,97,100]⟩:ByteArray),(⟨#[119,114,105,116,101]⟩:ByteArray),(⟨#[100,111,119,110]⟩:ByteArray),(⟨#[116,97,107,101]⟩:ByteArray)]:List ByteArray) rfl rfl rfl rfl (R 2 rfl (NS (G (R 1 rfl (NQ (Wb (Wl (ι:= {x:Nat×(ByteArray×Int) //bN a0 x.1 x.2=some r}) (fun x=>[(0, .d (slT ax a0)),(3, .d (slT bj ([(⟨#[110,111,110,101]⟩:ByteArray),(⟨#[108,111,99,107]⟩:ByteArray),(⟨#[114,101,97,100]⟩:ByteArray),(⟨#[119,114,105,116,101]⟩:ByteArray),(⟨#[100,111,119,110]⟩:ByteArray),(⟨#[116,97,107,101]⟩:ByteArray)]:List ByteArray))),(4, .d (.str x.1.2.1)),(5, .d (.int .i64 x.1.2.2))]) (fun x=>[]) (fun x=>x.1.1) ⟨(fuel,(ByteArray.empty,0)),H⟩ (Lm p4 tv) fun x=>?_)))))))))))
 obtain ⟨⟨k2,s1⟩,H⟩:=x
 rcases k2 with _ | k2
 ·exact aL H
 rw [bN] at H
 refine Ws (G (R 4 rfl (NQ (Wd rfl H (fun H=>?_) (fun H=>?_)))))
 ·refine Wk (Qn ?_)
  obtain ⟨K4,hK4,H⟩:=dc H
  refine WC.cut (fun E m=>∃ s5:ByteArray,K4 s5=some r∧ga E m [(0, .d (slT ax a0)),(3, .d (slT bj ([(⟨#[110,111,110,101]⟩:ByteArray),(⟨#[108,111,99,107]⟩:ByteArray),(⟨#[114,101,97,100]⟩:ByteArray),(⟨#[119,114,105,116,101]⟩:ByteArray),(⟨#[100,111,119,110]⟩:ByteArray),(⟨#[116,97,107,101]⟩:ByteArray)]:List ByteArray))),(4, .d (.str s5)),(5, .d (.int .i64 s1.2))] []) ?_ ?_
  ·refine Wb (Ws (G (R 2 rfl (NQ (Wd rfl H (fun H=>?_) (fun H=>?_))))))
   ·refine Wg ?_
    obtain ⟨g7,H⟩:=ah H
    refine RS 3 rfl ⟨(aF g7),tv⟩ (N (R 1 rfl (NQ (Wb (Wl (ι:= {x:Nat×(ByteArray×Int) //bk a0 s1 K4 x.1 x.2=some r}) (fun x=>[(0, .d (slT ax a0)),(3, .d (slT bj ([(⟨#[110,111,110,101]⟩:ByteArray),(⟨#[108,111,99,107]⟩:ByteArray),(⟨#[114,101,97,100]⟩:ByteArray),(⟨#[119,114,105,116,101]⟩:ByteArray),(⟨#[100,111,119,110]⟩:ByteArray),(⟨#[116,97,107,101]⟩:ByteArray)]:List ByteArray))),(4, .d (.str x.1.2.1)),(5, .d (.int .i64 s1.2)),(6, .d (.int .i64 x.1.2.2))]) (fun x=>[]) (fun x=>x.1.1) ⟨(fuel,(s1.1++(⟨#[32,124,32]⟩:ByteArray),0)),H⟩ (Lm p5 tv) fun x=>?_)))))
    obtain ⟨⟨k9,s8⟩,H⟩:=x
    rcases k9 with _ | k9
    ·exact aL H
    rw [bk] at H
    refine Ws (G ?_)
    obtain ⟨g10,H⟩:=ah H
    refine RS 7 rfl ⟨⟨(an g10).1,(an g10).2,rfl⟩,tv⟩ (NQ (Wd rfl H (fun H=>?_) (fun H=>?_)))
    ·refine Wk (Qn (Ws (Wb (Ws (Hp (.one 0 true (.one 1 true (.one 2 true (.one 3 true (.one 4 true (.one 5 true (.one 6 true (.one 7 true (.one 8 true (.one 9 true (.one 10 true (.one 11 true (.one 12 true (.one 13 true (.one 14 true (.one 15 false (.one 16 false (.one 17 true .done)))))))))))))))))) [] [] rfl (by kernel_rfl) rfl (by kernel_rfl) rfl rfl (fun _ h=>h) rfl rfl rfl (fun _ _ _ h=>h) fun FK NK wK K=>?_)))))
     obtain ⟨g12,H⟩:=ah H
     obtain ⟨g13,H⟩:=ah H
     obtain ⟨g14,H⟩:=ah H
     obtain ⟨g15,H⟩:=ah H
     refine Hr 15 tk rfl rfl rfl rfl ⟨⟨(an g12).1,(an g12).2,rfl⟩,⟨(an g13).1,(an g13).2,rfl⟩,⟨(an g14).1,(an g14).2,rfl⟩,⟨(an g15).1,(an g15).2,rfl⟩,tv⟩ (WH.alloc 107 tk rfl rfl rfl rfl rfl rfl (He 0 tk ek rfl rfl rfl rfl tv rfl rfl (Hr 1 tk rfl rfl rfl rfl tv (WH.nil rfl (Qn (Ws (G (R 3 rfl (Wx 2 2 false tk sg0 rfl rfl (fun _=>tv) (RS 1 rfl ⟨by first | exact id | exact fun h=>by rw [h];rfl | simp_all,tv⟩ (NQ (Wd rfl H (fun H=>?_) (fun H=>?_)))))))))))))
     ·refine Wg (R 1 rfl (NS (G (R 2 rfl (NQ (Wd rfl H (fun H=>?_) (fun H=>?_)))))))
      ·refine Wg ?_
       obtain ⟨g18,H⟩:=ah H
       refine RS 3 rfl ⟨(aF g18),tv⟩ (NS (Hp (.one 0 true (.one 1 true (.one 2 true (.one 3 true (.one 4 true (.one 5 true (.one 6 true (.one 7 true (.one 8 true (.one 9 false (.one 10 true (.one 11 true .done)))))))))))) [107] [107] rfl (by kernel_rfl) rfl (by kernel_rfl) rfl rfl (fun _ h=>h) rfl rfl rfl (fun _ _ _ h=>h) fun FK NK wK K=>?_))
       obtain ⟨g19,H⟩:=ah H
       obtain ⟨g20,H⟩:=ah H
       obtain ⟨g21,H⟩:=ah H
       refine Hr 9 tk rfl rfl rfl rfl ⟨⟨(an g19).1,(an g19).2,rfl⟩,(aF g20),(aF g21),tv⟩ ?_
       obtain ⟨x22,hx22,H⟩:=al H
       refine WH.call [] rfl (bf _ hx22) bg rfl rfl tv rfl rfl rfl rfl rfl ?_
       obtain ⟨g23,H⟩:=ah H
       refine Hr 2 tk rfl rfl rfl rfl ⟨(aF g23),tv⟩ (WH.nil rfl (Qn (G (R 2 rfl (NQ (Wc rfl (fun h=>absurd h (by decide)) (fun h=>?_)))))))
       refine Wk (Qb (Qn ?_))
       exact Wg (R 3 rfl (NQ (⟨⟨(k9,((((s8.1++(⟨#[32,43,32]⟩:ByteArray))++(([(⟨#[110,111,110,101]⟩:ByteArray),(⟨#[108,111,99,107]⟩:ByteArray),(⟨#[114,101,97,100]⟩:ByteArray),(⟨#[119,114,105,116,101]⟩:ByteArray),(⟨#[100,111,119,110]⟩:ByteArray),(⟨#[116,97,107,101]⟩:ByteArray)]:List ByteArray).getD (0:Int).toNat default))++(⟨#[32]⟩:ByteArray))++x22,IntKind.i64.wrap (s8.2+1))),H⟩,Z,Lm p5 tv⟩)))
      refine Wk (Qn (Ws (Hp (.one 0 true (.one 1 true (.one 2 true (.one 3 true (.one 4 true (.one 5 true (.one 6 true (.one 7 true (.one 8 true (.one 9 false (.one 10 true (.one 11 true .done)))))))))))) [107] [107] rfl (by kernel_rfl) rfl (by kernel_rfl) rfl rfl (fun _ h=>h) rfl rfl rfl (fun _ _ _ h=>h) fun FK NK wK K=>?_)))
      obtain ⟨g24,H⟩:=ah H
      obtain ⟨g25,H⟩:=ah H
      obtain ⟨g26,H⟩:=ah H
      refine Hr 9 tk rfl rfl rfl rfl ⟨⟨(an g24).1,(an g24).2,rfl⟩,(aF g25),(aF g26),tv⟩ ?_
      obtain ⟨x27,hx27,H⟩:=al H
      refine WH.call [] rfl (bf _ hx27) bg rfl rfl tv rfl rfl rfl rfl rfl ?_
      obtain ⟨g28,H⟩:=ah H
      refine Hr 2 tk rfl rfl rfl rfl ⟨(aF g28),tv⟩ (WH.nil rfl (Qn (G (R 2 rfl (NQ (Wc rfl (fun h=>absurd h (by decide)) (fun h=>?_)))))))
      refine Wk (Qb (Qn ?_))
      exact Wg (R 3 rfl (NQ (⟨⟨(k9,(((s8.1++(([(⟨#[110,111,110,101]⟩:ByteArray),(⟨#[108,111,99,107]⟩:ByteArray),(⟨#[114,101,97,100]⟩:ByteArray),(⟨#[119,114,105,116,101]⟩:ByteArray),(⟨#[100,111,119,110]⟩:ByteArray),(⟨#[116,97,107,101]⟩:ByteArray)]:List ByteArray).getD (0:Int).toNat default))++(⟨#[32]⟩:ByteArray))++x27,IntKind.i64.wrap (s8.2+1))),H⟩,Z,Lm p5 tv⟩)))
     refine Wk (Qn (Ws (G (R 2 rfl (NQ (Wd rfl H (fun H=>?_) (fun H=>?_)))))))
     ·refine Wg ?_
      obtain ⟨g30,H⟩:=ah H
      refine RS 3 rfl ⟨(aF g30),tv⟩ (NS (Hp (.one 0 true (.one 1 true (.one 2 true (.one 3 true (.one 4 true (.one 5 true (.one 6 true (.one 7 true (.one 8 true (.one 9 false (.one 10 true (.one 11 true .done)))))))))))) [107] [107] rfl (by kernel_rfl) rfl (by kernel_rfl) rfl rfl (fun _ h=>h) rfl rfl rfl (fun _ _ _ h=>h) fun FK NK wK K=>?_))
      obtain ⟨g31,H⟩:=ah H
      obtain ⟨g32,H⟩:=ah H
      obtain ⟨g33,H⟩:=ah H
      refine Hr 9 tk rfl rfl rfl rfl ⟨⟨(an g31).1,(an g31).2,rfl⟩,(aF g32),(aF g33),tv⟩ ?_
      obtain ⟨x34,hx34,H⟩:=al H
      refine WH.call [] rfl (bf _ hx34) bg rfl rfl tv rfl rfl rfl rfl rfl ?_
      obtain ⟨g35,H⟩:=ah H
      refine Hr 2 tk rfl rfl rfl rfl ⟨(aF g35),tv⟩ (WH.nil rfl (Qn (G (R 2 rfl (NQ (Wd rfl H (fun H=>?_) (fun H=>?_)))))))
      ·refine Wg ?_
       obtain ⟨g37,H⟩:=ah H
       refine RS 4 rfl ⟨(aF g37),tv⟩ ?_
       obtain ⟨x38,hx38,H⟩:=al H
       refine Cl [] (bf _ hx38) bg rfl tv rfl ?_
       obtain ⟨g39,H⟩:=ah H
       refine RS 2 rfl ⟨(aF g39),tv⟩ (Wn (Qb (Qn ?_)))
       exact Wg (R 3 rfl (NQ (⟨⟨(k9,((((((s8.1++(⟨#[32,43,32]⟩:ByteArray))++(([(⟨#[110,111,110,101]⟩:ByteArray),(⟨#[108,111,99,107]⟩:ByteArray),(⟨#[114,101,97,100]⟩:ByteArray),(⟨#[119,114,105,116,101]⟩:ByteArray),(⟨#[100,111,119,110]⟩:ByteArray),(⟨#[116,97,107,101]⟩:ByteArray)]:List ByteArray).getD (((a0.getD s1.2.toNat default).getD s8.2.toNat default).Kind).toNat default))++(⟨#[32]⟩:ByteArray))++x34)++(⟨#[58]⟩:ByteArray))++x38,IntKind.i64.wrap (s8.2+1))),H⟩,Z,Lm p5 tv⟩)))
      refine Wk (Qb (Qn ?_))
      exact Wg (R 3 rfl (NQ (⟨⟨(k9,((((s8.1++(⟨#[32,43,32]⟩:ByteArray))++(([(⟨#[110,111,110,101]⟩:ByteArray),(⟨#[108,111,99,107]⟩:ByteArray),(⟨#[114,101,97,100]⟩:ByteArray),(⟨#[119,114,105,116,101]⟩:ByteArray),(⟨#[100,111,119,110]⟩:ByteArray),(⟨#[116,97,107,101]⟩:ByteArray)]:List ByteArray).getD (((a0.getD s1.2.toNat default).getD s8.2.toNat default).Kind).toNat default))++(⟨#[32]⟩:ByteArray))++x34,IntKind.i64.wrap (s8.2+1))),H⟩,Z,Lm p5 tv⟩)))
     refine Wk (Qn (Ws (Hp (.one 0 true (.one 1 true (.one 2 true (.one 3 true (.one 4 true (.one 5 true (.one 6 true (.one 7 true (.one 8 true (.one 9 false (.one 10 true (.one 11 true .done)))))))))))) [107] [107] rfl (by kernel_rfl) rfl (by kernel_rfl) rfl rfl (fun _ h=>h) rfl rfl rfl (fun _ _ _ h=>h) fun FK NK wK K=>?_)))
     obtain ⟨g40,H⟩:=ah H
     obtain ⟨g41,H⟩:=ah H
     obtain ⟨g42,H⟩:=ah H
     refine Hr 9 tk rfl rfl rfl rfl ⟨⟨(an g40).1,(an g40).2,rfl⟩,(aF g41),(aF g42),tv⟩ ?_
     obtain ⟨x43,hx43,H⟩:=al H
     refine WH.call [] rfl (bf _ hx43) bg rfl rfl tv rfl rfl rfl rfl rfl ?_
     obtain ⟨g44,H⟩:=ah H
     refine Hr 2 tk rfl rfl rfl rfl ⟨(aF g44),tv⟩ (WH.nil rfl (Qn (G (R 2 rfl (NQ (Wd rfl H (fun H=>?_) (fun H=>?_)))))))
     ·refine Wg ?_
      obtain ⟨g46,H⟩:=ah H
      refine RS 4 rfl ⟨(aF g46),tv⟩ ?_
      obtain ⟨x47,hx47,H⟩:=al H
      refine Cl [] (bf _ hx47) bg rfl tv rfl ?_
      obtain ⟨g48,H⟩:=ah H
      refine RS 2 rfl ⟨(aF g48),tv⟩ (Wn (Qb (Qn ?_)))
      exact Wg (R 3 rfl (NQ (⟨⟨(k9,(((((s8.1++(([(⟨#[110,111,110,101]⟩:ByteArray),(⟨#[108,111,99,107]⟩:ByteArray),(⟨#[114,101,97,100]⟩:ByteArray),(⟨#[119,114,105,116,101]⟩:ByteArray),(⟨#[100,111,119,110]⟩:ByteArray),(⟨#[116,97,107,101]⟩:ByteArray)]:List ByteArray).getD (((a0.getD s1.2.toNat default).getD s8.2.toNat default).Kind).toNat default))++(⟨#[32]⟩:ByteArray))++x43)++(⟨#[58]⟩:ByteArray))++x47,IntKind.i64.wrap (s8.2+1))),H⟩,Z,Lm p5 tv⟩)))
     refine Wk (Qb (Qn ?_))
     exact Wg (R 3 rfl (NQ (⟨⟨(k9,(((s8.1++(([(⟨#[110,111,110,101]⟩:ByteArray),(⟨#[108,111,99,107]⟩:ByteArray),(⟨#[114,101,97,100]⟩:ByteArray),(⟨#[119,114,105,116,101]⟩:ByteArray),(⟨#[100,111,119,110]⟩:ByteArray),(⟨#[116,97,107,101]⟩:ByteArray)]:List ByteArray).getD (((a0.getD s1.2.toNat default).getD s8.2.toNat default).Kind).toNat default))++(⟨#[32]⟩:ByteArray))++x43,IntKind.i64.wrap (s8.2+1))),H⟩,Z,Lm p5 tv⟩)))
    refine WC.exit (Qx (Qx (Qh (Qb (Qn ?_)))))
    exact ⟨s8.1,H,Lw q4 tv⟩
   refine Wk (Qn (G (R 1 rfl (NQ (Wb (Wl (ι:= {x:Nat×(ByteArray×Int) //bb a0 s1 K4 x.1 x.2=some r}) (fun x=>[(0, .d (slT ax a0)),(3, .d (slT bj ([(⟨#[110,111,110,101]⟩:ByteArray),(⟨#[108,111,99,107]⟩:ByteArray),(⟨#[114,101,97,100]⟩:ByteArray),(⟨#[119,114,105,116,101]⟩:ByteArray),(⟨#[100,111,119,110]⟩:ByteArray),(⟨#[116,97,107,101]⟩:ByteArray)]:List ByteArray))),(4, .d (.str x.1.2.1)),(5, .d (.int .i64 s1.2)),(6, .d (.int .i64 x.1.2.2))]) (fun x=>[]) (fun x=>x.1.1) ⟨(fuel,(s1.1,0)),H⟩ (Lm p5 tv) fun x=>?_))))))
   obtain ⟨⟨k50,s49⟩,H⟩:=x
   rcases k50 with _ | k50
   ·exact aL H
   rw [bb] at H
   refine Ws (G ?_)
   obtain ⟨g51,H⟩:=ah H
   refine RS 7 rfl ⟨⟨(an g51).1,(an g51).2,rfl⟩,tv⟩ (NQ (Wd rfl H (fun H=>?_) (fun H=>?_)))
   ·refine Wk (Qn (Ws (Wb (Ws (Hp (.one 0 true (.one 1 true (.one 2 true (.one 3 true (.one 4 true (.one 5 true (.one 6 true (.one 7 true (.one 8 true (.one 9 true (.one 10 true (.one 11 true (.one 12 true (.one 13 true (.one 14 true (.one 15 false (.one 16 false (.one 17 true .done)))))))))))))))))) [] [] rfl (by kernel_rfl) rfl (by kernel_rfl) rfl rfl (fun _ h=>h) rfl rfl rfl (fun _ _ _ h=>h) fun FK NK wK K=>?_)))))
    obtain ⟨g53,H⟩:=ah H
    obtain ⟨g54,H⟩:=ah H
    obtain ⟨g55,H⟩:=ah H
    obtain ⟨g56,H⟩:=ah H
    refine Hr 15 tk rfl rfl rfl rfl ⟨⟨(an g53).1,(an g53).2,rfl⟩,⟨(an g54).1,(an g54).2,rfl⟩,⟨(an g55).1,(an g55).2,rfl⟩,⟨(an g56).1,(an g56).2,rfl⟩,tv⟩ (WH.alloc 107 tk rfl rfl rfl rfl rfl rfl (He 0 tk ek rfl rfl rfl rfl tv rfl rfl (Hr 1 tk rfl rfl rfl rfl tv (WH.nil rfl (Qn (Ws (G (R 3 rfl (Wx 2 2 false tk sg0 rfl rfl (fun _=>tv) (RS 1 rfl ⟨by first | exact id | exact fun h=>by rw [h];rfl | simp_all,tv⟩ (NQ (Wd rfl H (fun H=>?_) (fun H=>?_)))))))))))))
    ·refine Wg (R 1 rfl (NS (G (R 2 rfl (NQ (Wd rfl H (fun H=>?_) (fun H=>?_)))))))
     ·refine Wg ?_
      obtain ⟨g59,H⟩:=ah H
      refine RS 3 rfl ⟨(aF g59),tv⟩ (NS (Hp (.one 0 true (.one 1 true (.one 2 true (.one 3 true (.one 4 true (.one 5 true (.one 6 true (.one 7 true (.one 8 true (.one 9 false (.one 10 true (.one 11 true .done)))))))))))) [107] [107] rfl (by kernel_rfl) rfl (by kernel_rfl) rfl rfl (fun _ h=>h) rfl rfl rfl (fun _ _ _ h=>h) fun FK NK wK K=>?_))
      obtain ⟨g60,H⟩:=ah H
      obtain ⟨g61,H⟩:=ah H
      obtain ⟨g62,H⟩:=ah H
      refine Hr 9 tk rfl rfl rfl rfl ⟨⟨(an g60).1,(an g60).2,rfl⟩,(aF g61),(aF g62),tv⟩ ?_
      obtain ⟨x63,hx63,H⟩:=al H
      refine WH.call [] rfl (bf _ hx63) bg rfl rfl tv rfl rfl rfl rfl rfl ?_
      obtain ⟨g64,H⟩:=ah H
      refine Hr 2 tk rfl rfl rfl rfl ⟨(aF g64),tv⟩ (WH.nil rfl (Qn (G (R 2 rfl (NQ (Wc rfl (fun h=>absurd h (by decide)) (fun h=>?_)))))))
      refine Wk (Qb (Qn ?_))
      exact Wg (R 3 rfl (NQ (⟨⟨(k50,((((s49.1++(⟨#[32,43,32]⟩:ByteArray))++(([(⟨#[110,111,110,101]⟩:ByteArray),(⟨#[108,111,99,107]⟩:ByteArray),(⟨#[114,101,97,100]⟩:ByteArray),(⟨#[119,114,105,116,101]⟩:ByteArray),(⟨#[100,111,119,110]⟩:ByteArray),(⟨#[116,97,107,101]⟩:ByteArray)]:List ByteArray).getD (0:Int).toNat default))++(⟨#[32]⟩:ByteArray))++x63,IntKind.i64.wrap (s49.2+1))),H⟩,Z,Lm p5 tv⟩)))
     refine Wk (Qn (Ws (Hp (.one 0 true (.one 1 true (.one 2 true (.one 3 true (.one 4 true (.one 5 true (.one 6 true (.one 7 true (.one 8 true (.one 9 false (.one 10 true (.one 11 true .done)))))))))))) [107] [107] rfl (by kernel_rfl) rfl (by kernel_rfl) rfl rfl (fun _ h=>h) rfl rfl rfl (fun _ _ _ h=>h) fun FK NK wK K=>?_)))
     obtain ⟨g65,H⟩:=ah H
     obtain ⟨g66,H⟩:=ah H
     obtain ⟨g67,H⟩:=ah H
     refine Hr 9 tk rfl rfl rfl rfl ⟨⟨(an g65).1,(an g65).2,rfl⟩,(aF g66),(aF g67),tv⟩ ?_
     obtain ⟨x68,hx68,H⟩:=al H
     refine WH.call [] rfl (bf _ hx68) bg rfl rfl tv rfl rfl rfl rfl rfl ?_
     obtain ⟨g69,H⟩:=ah H
     refine Hr 2 tk rfl rfl rfl rfl ⟨(aF g69),tv⟩ (WH.nil rfl (Qn (G (R 2 rfl (NQ (Wc rfl (fun h=>absurd h (by decide)) (fun h=>?_)))))))
     refine Wk (Qb (Qn ?_))
     exact Wg (R 3 rfl (NQ (⟨⟨(k50,(((s49.1++(([(⟨#[110,111,110,101]⟩:ByteArray),(⟨#[108,111,99,107]⟩:ByteArray),(⟨#[114,101,97,100]⟩:ByteArray),(⟨#[119,114,105,116,101]⟩:ByteArray),(⟨#[100,111,119,110]⟩:ByteArray),(⟨#[116,97,107,101]⟩:ByteArray)]:List ByteArray).getD (0:Int).toNat default))++(⟨#[32]⟩:ByteArray))++x68,IntKind.i64.wrap (s49.2+1))),H⟩,Z,Lm p5 tv⟩)))
    refine Wk (Qn (Ws (G (R 2 rfl (NQ (Wd rfl H (fun H=>?_) (fun H=>?_)))))))
    ·refine Wg ?_
     obtain ⟨g71,H⟩:=ah H
     refine RS 3 rfl ⟨(aF g71),tv⟩ (NS (Hp (.one 0 true (.one 1 true (.one 2 true (.one 3 true (.one 4 true (.one 5 true (.one 6 true (.one 7 true (.one 8 true (.one 9 false (.one 10 true (.one 11 true .done)))))))))))) [107] [107] rfl (by kernel_rfl) rfl (by kernel_rfl) rfl rfl (fun _ h=>h) rfl rfl rfl (fun _ _ _ h=>h) fun FK NK wK K=>?_))
     obtain ⟨g72,H⟩:=ah H
     obtain ⟨g73,H⟩:=ah H
     obtain ⟨g74,H⟩:=ah H
     refine Hr 9 tk rfl rfl rfl rfl ⟨⟨(an g72).1,(an g72).2,rfl⟩,(aF g73),(aF g74),tv⟩ ?_
     obtain ⟨x75,hx75,H⟩:=al H
     refine WH.call [] rfl (bf _ hx75) bg rfl rfl tv rfl rfl rfl rfl rfl ?_
     obtain ⟨g76,H⟩:=ah H
     refine Hr 2 tk rfl rfl rfl rfl ⟨(aF g76),tv⟩ (WH.nil rfl (Qn (G (R 2 rfl (NQ (Wd rfl H (fun H=>?_) (fun H=>?_)))))))
     ·refine Wg ?_
      obtain ⟨g78,H⟩:=ah H
      refine RS 4 rfl ⟨(aF g78),tv⟩ ?_
      obtain ⟨x79,hx79,H⟩:=al H
      refine Cl [] (bf _ hx79) bg rfl tv rfl ?_
      obtain ⟨g80,H⟩:=ah H
      refine RS 2 rfl ⟨(aF g80),tv⟩ (Wn (Qb (Qn ?_)))
      exact Wg (R 3 rfl (NQ (⟨⟨(k50,((((((s49.1++(⟨#[32,43,32]⟩:ByteArray))++(([(⟨#[110,111,110,101]⟩:ByteArray),(⟨#[108,111,99,107]⟩:ByteArray),(⟨#[114,101,97,100]⟩:ByteArray),(⟨#[119,114,105,116,101]⟩:ByteArray),(⟨#[100,111,119,110]⟩:ByteArray),(⟨#[116,97,107,101]⟩:ByteArray)]:List ByteArray).getD (((a0.getD s1.2.toNat default).getD s49.2.toNat default).Kind).toNat default))++(⟨#[32]⟩:ByteArray))++x75)++(⟨#[58]⟩:ByteArray))++x79,IntKind.i64.wrap (s49.2+1))),H⟩,Z,Lm p5 tv⟩)))
     refine Wk (Qb (Qn ?_))
     exact Wg (R 3 rfl (NQ (⟨⟨(k50,((((s49.1++(⟨#[32,43,32]⟩:ByteArray))++(([(⟨#[110,111,110,101]⟩:ByteArray),(⟨#[108,111,99,107]⟩:ByteArray),(⟨#[114,101,97,100]⟩:ByteArray),(⟨#[119,114,105,116,101]⟩:ByteArray),(⟨#[100,111,119,110]⟩:ByteArray),(⟨#[116,97,107,101]⟩:ByteArray)]:List ByteArray).getD (((a0.getD s1.2.toNat default).getD s49.2.toNat default).Kind).toNat default))++(⟨#[32]⟩:ByteArray))++x75,IntKind.i64.wrap (s49.2+1))),H⟩,Z,Lm p5 tv⟩)))
    refine Wk (Qn (Ws (Hp (.one 0 true (.one 1 true (.one 2 true (.one 3 true (.one 4 true (.one 5 true (.one 6 true (.one 7 true (.one 8 true (.one 9 false (.one 10 true (.one 11 true .done)))))))))))) [107] [107] rfl (by kernel_rfl) rfl (by kernel_rfl) rfl rfl (fun _ h=>h) rfl rfl rfl (fun _ _ _ h=>h) fun FK NK wK K=>?_)))
    obtain ⟨g81,H⟩:=ah H
    obtain ⟨g82,H⟩:=ah H
    obtain ⟨g83,H⟩:=ah H
    refine Hr 9 tk rfl rfl rfl rfl ⟨⟨(an g81).1,(an g81).2,rfl⟩,(aF g82),(aF g83),tv⟩ ?_
    obtain ⟨x84,hx84,H⟩:=al H
    refine WH.call [] rfl (bf _ hx84) bg rfl rfl tv rfl rfl rfl rfl rfl ?_
    obtain ⟨g85,H⟩:=ah H
    refine Hr 2 tk rfl rfl rfl rfl ⟨(aF g85),tv⟩ (WH.nil rfl (Qn (G (R 2 rfl (NQ (Wd rfl H (fun H=>?_) (fun H=>?_)))))))
    ·refine Wg ?_
     obtain ⟨g87,H⟩:=ah H
     refine RS 4 rfl ⟨(aF g87),tv⟩ ?_
     obtain ⟨x88,hx88,H⟩:=al H
     refine Cl [] (bf _ hx88) bg rfl tv rfl ?_
     obtain ⟨g89,H⟩:=ah H
     refine RS 2 rfl ⟨(aF g89),tv⟩ (Wn (Qb (Qn ?_)))
     exact Wg (R 3 rfl (NQ (⟨⟨(k50,(((((s49.1++(([(⟨#[110,111,110,101]⟩:ByteArray),(⟨#[108,111,99,107]⟩:ByteArray),(⟨#[114,101,97,100]⟩:ByteArray),(⟨#[119,114,105,116,101]⟩:ByteArray),(⟨#[100,111,119,110]⟩:ByteArray),(⟨#[116,97,107,101]⟩:ByteArray)]:List ByteArray).getD (((a0.getD s1.2.toNat default).getD s49.2.toNat default).Kind).toNat default))++(⟨#[32]⟩:ByteArray))++x84)++(⟨#[58]⟩:ByteArray))++x88,IntKind.i64.wrap (s49.2+1))),H⟩,Z,Lm p5 tv⟩)))
    refine Wk (Qb (Qn ?_))
    exact Wg (R 3 rfl (NQ (⟨⟨(k50,(((s49.1++(([(⟨#[110,111,110,101]⟩:ByteArray),(⟨#[108,111,99,107]⟩:ByteArray),(⟨#[114,101,97,100]⟩:ByteArray),(⟨#[119,114,105,116,101]⟩:ByteArray),(⟨#[100,111,119,110]⟩:ByteArray),(⟨#[116,97,107,101]⟩:ByteArray)]:List ByteArray).getD (((a0.getD s1.2.toNat default).getD s49.2.toNat default).Kind).toNat default))++(⟨#[32]⟩:ByteArray))++x84,IntKind.i64.wrap (s49.2+1))),H⟩,Z,Lm p5 tv⟩)))
   refine WC.exit (Qx (Qx (Qh (Qb (Qn ?_)))))
   exact ⟨s49.1,H,Lw q4 tv⟩
  ·rintro E m ⟨s5,H,hl⟩
   refine WC.lessW hl ?_
   replace H:=(hK4 _).symm.trans H
   try dsimp only at H
   exact Wg (R 3 rfl (NQ (⟨⟨(k2,(s5,IntKind.i64.wrap (s1.2+1))),H⟩,Z,Lm p4 tv⟩)))
 refine WC.exit (Qx (Qx (Qh (Qn ?_))))
 refine G (R 2 rfl (NQ (Wt ?_)))
 cases H
 exact Ea rfl rfl rfl tv
theorem oZ:aE Tryz.prog 30 Tryz.f30:=⟨Tryz.func30,rfl,by kernel_rfl⟩
theorem o0 (a0:af) {r:ByteArray} (H:fr a0=some r):LJ.Spec Tryz.prog 11 [.d (.agg [slT ai a0.Decls,slT ae a0.Waits,slT ak a0.Funcs])] [] (.d (.str r)) []:=by
 refine LJ.Spec.code Tryz.func11 rfl 84 rfl rfl [] rfl fun w0 F0 S0 B0=>?_
 unfold fr at H
 refine G (Ef 101 rfl (R 1 rfl (N (R 1 rfl (NS (G (R 1 rfl (NQ (Wb (Wl (ι:= {x:Nat×(ByteArray×Int) //cJ a0 x.1 x.2=some r}) (fun x=>[(1, .ptr 101 0),(3, .d (.str x.1.2.1)),(4, .d (.int .i64 x.1.2.2))]) (fun x=>[(101, .box 26 [.d (slT ai a0.Decls), .d (slT ae a0.Waits), .d (slT ak a0.Funcs)])]) (fun x=>x.1.1) ⟨(fuel,(ByteArray.empty,0)),H⟩ (Lm p3 p1) fun x=>?_))))))))))
 obtain ⟨⟨k2,s1⟩,H⟩:=x
 rcases k2 with _ | k2
 ·exact aL H
 rw [cJ] at H
 refine Ws (G (R 5 rfl (NQ (Wd rfl H (fun H=>?_) (fun H=>?_)))))
 ·refine Wk (Qn (Ws (Wb (Wg ?_))))
  obtain ⟨g4,H⟩:=ah H
  refine RS 6 rfl ⟨⟨(an g4).1,(an g4).2,rfl⟩,tv⟩ ?_
  obtain ⟨x5,hx5,H⟩:=al H
  refine Cl [] (lN _ hx5) lO rfl tv rfl ?_
  obtain ⟨g6,H⟩:=ah H
  obtain ⟨g7,H⟩:=ah H
  refine RS 3 rfl ⟨(aF g6),(aF g7),tv⟩ (Wn (Qb (Qn ?_)))
  exact Wg (R 3 rfl (NQ (⟨⟨(k2,((s1.1++x5)++(⟨#[10]⟩:ByteArray),IntKind.i64.wrap (s1.2+1))),H⟩,Z,Lm p3 p1⟩)))
 refine WC.exit (Qx (Qx (Qh (Qn ?_))))
 refine Ws (G (R 1 rfl (NQ (Wb (Wl (ι:= {x:Nat×(ByteArray×Int) //cI a0 x.1 x.2=some r}) (fun x=>[(1, .ptr 101 0),(3, .d (.str x.1.2.1)),(5, .d (.int .i64 x.1.2.2))]) (fun x=>[(101, .box 26 [.d (slT ai a0.Decls), .d (slT ae a0.Waits), .d (slT ak a0.Funcs)])]) (fun x=>x.1.1) ⟨(fuel,(s1.1,0)),H⟩ (Lm p3 p1) fun x=>?_)))))
 obtain ⟨⟨k9,s8⟩,H⟩:=x
 rcases k9 with _ | k9
 ·exact aL H
 rw [cI] at H
 refine Ws (G (R 5 rfl (NQ (Wd rfl H (fun H=>?_) (fun H=>?_)))))
 ·refine Wk (Qn (Ws (Wb (Wg ?_))))
  obtain ⟨g11,H⟩:=ah H
  obtain ⟨g12,H⟩:=ah H
  refine RS 7 rfl ⟨(aF g11),⟨(an g12).1,(an g12).2,rfl⟩,tv⟩ ?_
  obtain ⟨x13,hx13,H⟩:=al H
  refine Cl [] (oY _ hx13) oZ rfl tv rfl ?_
  obtain ⟨g14,H⟩:=ah H
  obtain ⟨g15,H⟩:=ah H
  refine RS 3 rfl ⟨(aF g14),(aF g15),tv⟩ (Wn (Qb (Qn ?_)))
  exact Wg (R 3 rfl (NQ (⟨⟨(k9,(((s8.1++(⟨#[119,97,105,116,32]⟩:ByteArray))++x13)++(⟨#[10]⟩:ByteArray),IntKind.i64.wrap (s8.2+1))),H⟩,Z,Lm p3 p1⟩)))
 refine WC.exit (Qx (Qx (Qh (Qn ?_))))
 refine Ws (G (R 1 rfl (NQ (Wb (Wl (ι:= {x:Nat×(ByteArray×Int) //bS a0 x.1 x.2=some r}) (fun x=>[(1, .ptr 101 0),(3, .d (.str x.1.2.1)),(6, .d (.int .i64 x.1.2.2))]) (fun x=>[(101, .box 26 [.d (slT ai a0.Decls), .d (slT ae a0.Waits), .d (slT ak a0.Funcs)])]) (fun x=>x.1.1) ⟨(fuel,(s8.1,0)),H⟩ (Lm p3 p1) fun x=>?_)))))
 obtain ⟨⟨k17,s16⟩,H⟩:=x
 rcases k17 with _ | k17
 ·exact aL H
 rw [bS] at H
 refine Ws (G (R 5 rfl (NQ (Wd rfl H (fun H=>?_) (fun H=>?_)))))
 ·refine Wk (Qn ?_)
  obtain ⟨K19,hK19,H⟩:=dc H
  refine WC.cut (fun E m=>∃ s20:ByteArray,K19 s20=some r∧ga E m [(1, .ptr 101 0),(3, .d (.str s20)),(6, .d (.int .i64 s16.2))] [(101, .box 26 [.d (slT ai a0.Decls), .d (slT ae a0.Waits), .d (slT ak a0.Funcs)])]) ?_ ?_
  ·refine Wb (G ?_)
   obtain ⟨g21,H⟩:=ah H
   refine RS 5 rfl ⟨⟨(an g21).1,(an g21).2,rfl⟩,tv⟩ (Wa 107 tk rfl rfl rfl (Ef 0 rfl (NS (Hp (.one 0 true (.one 1 true (.one 2 true (.one 3 true (.one 7 true (.one 8 true (.one 4 false (.one 5 true (.one 6 true (.one 9 false (.one 10 true (.one 11 true (.one 12 true .done))))))))))))) [101,107] [101,107] rfl (by kernel_rfl) rfl (by kernel_rfl) rfl rfl (fun _ h=>h) rfl rfl rfl (fun _ _ _ h=>h) fun FK NK wK K=>?_))))
   obtain ⟨g22,H⟩:=ah H
   refine Hr 6 tk rfl rfl rfl rfl ⟨(aF g22),tv⟩ ?_
   obtain ⟨x23,hx23,H⟩:=al H
   refine WH.call [] rfl (bf _ hx23) bg rfl rfl tv rfl rfl rfl rfl rfl ?_
   obtain ⟨g24,H⟩:=ah H
   obtain ⟨g25,H⟩:=ah H
   refine Hr 2 tk rfl rfl rfl rfl ⟨(aF g24),(aF g25),tv⟩ ?_
   obtain ⟨x26,hx26,H⟩:=al H
   refine WH.call [] rfl (bf _ hx26) bg rfl rfl tv rfl rfl rfl rfl rfl ?_
   obtain ⟨g27,H⟩:=ah H
   obtain ⟨g28,H⟩:=ah H
   refine Hr 3 tk rfl rfl rfl rfl ⟨(aF g27),(aF g28),tv⟩ (WH.nil rfl (Qn (G (R 1 rfl (NQ (Wb (Wl (ι:= {x:Nat×(ByteArray×Int) //cy a0 s16 K19 x.1 x.2=some r}) (fun x=>[(1, .ptr 101 0),(3, .d (.str x.1.2.1)),(6, .d (.int .i64 s16.2)),(7, .ptr 107 0),(8, .d (.int .i64 x.1.2.2))]) (fun x=>[(101, .box 26 [.d (slT ai a0.Decls), .d (slT ae a0.Waits), .d (slT ak a0.Funcs)]),(107, .box 49 [.d (.int .i64 ((a0.Funcs.getD s16.2.toNat default).Args)), .d (.int .i64 ((a0.Funcs.getD s16.2.toNat default).Locals)), .d (slT aB ((a0.Funcs.getD s16.2.toNat default).Code))])]) (fun x=>x.1.1) ⟨(fuel,(((((s16.1++(⟨#[102,117,110,99,32]⟩:ByteArray))++x23)++(⟨#[32]⟩:ByteArray))++x26)++(⟨#[10]⟩:ByteArray),0)),H⟩ (Lm p5 p2) fun x=>?_)))))))
   obtain ⟨⟨k30,s29⟩,H⟩:=x
   rcases k30 with _ | k30
   ·exact aL H
   rw [cy] at H
   refine Ws (G (R 5 rfl (NQ (Wd rfl H (fun H=>?_) (fun H=>?_)))))
   ·refine Wk (Qn (Ws (Wb (Wg ?_))))
    obtain ⟨g32,H⟩:=ah H
    obtain ⟨g33,H⟩:=ah H
    refine RS 7 rfl ⟨(aF g32),⟨(an g33).1,(an g33).2,rfl⟩,tv⟩ ?_
    obtain ⟨x34,hx34,H⟩:=al H
    refine Cl [] (jZ _ hx34) j0 rfl tv rfl ?_
    obtain ⟨g35,H⟩:=ah H
    obtain ⟨g36,H⟩:=ah H
    refine RS 3 rfl ⟨(aF g35),(aF g36),tv⟩ (Wn (Qb (Qn ?_)))
    exact Wg (R 3 rfl (NQ (⟨⟨(k30,(((s29.1++(⟨#[32,32]⟩:ByteArray))++x34)++(⟨#[10]⟩:ByteArray),IntKind.i64.wrap (s29.2+1))),H⟩,Z,Lm p5 p2⟩)))
   refine WC.exit (Qx (Qx (Qh (Qb (Qn ?_)))))
   exact ⟨s29.1,H,Lw q3 p1⟩
  ·rintro E m ⟨s20,H,hl⟩
   refine WC.lessW hl ?_
   replace H:=(hK19 _).symm.trans H
   try dsimp only at H
   exact Wg (R 3 rfl (NQ (⟨⟨(k17,(s20,IntKind.i64.wrap (s16.2+1))),H⟩,Z,Lm p3 p1⟩)))
 refine WC.exit (Qx (Qx (Qh (Qn ?_))))
 refine G (R 2 rfl (NQ (Wt ?_)))
 cases H
 exact Ea rfl rfl rfl tv
theorem o3:aE Tryz.prog 11 Tryz.f11:=⟨Tryz.func11,rfl,by kernel_rfl⟩
def ρx:Go.Shelf.Ren:=⟨fun n=>cond (Nat.beq n 314) 106 (cond (Nat.beq n 267) 91 (cond (Nat.beq n 266) 105 (cond (Nat.beq n 225) 89 (cond (Nat.beq n 224) 90 (cond (Nat.beq n 219) 73 (cond (Nat.beq n 217) 88 (0))))))),fun n=>cond (Nat.beq n 146) 143 (cond (Nat.beq n 51) 140 (cond (Nat.beq n 46) 127 (cond (Nat.beq n 9) 9 (cond (Nat.beq n 5) 5 (cond (Nat.beq n 4) 4 (cond (Nat.beq n 3) 3 (0))))))),fun n=>cond (Nat.beq n 1) 1 (0)⟩
set_option maxRecDepth 100000 in
theorem va:Go.Proofs.Lays.n219 Tryz.prog ρx:=by
 constructor <;> first | kernel_rfl | (intro w;kernel_rfl) | (intro w;rfl)
theorem eh (a0 a1:ByteArray) {r:Int} (H:cR a0 a1=some r):LJ.Spec Tryz.prog 73 [.d (.str a0), .d (.str a1)] [] (.d (.int .i64 r)) []:=by
 unfold cR at H
 obtain ⟨g1,H⟩:=ah H
 cases H
 exact Spec.indexL va (by kernel_rfl) g1
theorem en:aE Tryz.prog 73 Tryz.f73:=⟨Tryz.func73,rfl,by kernel_rfl⟩
theorem jj (a0:ByteArray) (a1:ByteArray) {r:ByteArray×ByteArray×Bool} (H:ec a0 a1=some r):LJ.Spec Tryz.prog 57 [.d (.str a0), .d (.str a1)] [] (.tup [.d (.str r.1), .d (.str r.2.1), .d (.bool r.2.2)]) []:=by
 refine LJ.Spec.code Tryz.func57 rfl 23 rfl rfl [] rfl fun w0 F0 S0 B0=>?_
 unfold ec at H
 refine G (R 3 rfl (NS (G (R 2 rfl ?_))))
 obtain ⟨x1,hx1,H⟩:=al H
 refine Cl [] (eh _ _ hx1) en rfl tv rfl (R 1 rfl (N (R 2 rfl (NQ (Wd rfl H (fun H=>?_) (fun H=>?_))))))
 ·refine Ws (Hp (.one 0 true (.one 1 true (.one 2 true (.one 3 true (.one 4 true (.one 5 true (.one 6 true (.one 7 true (.one 8 true (.one 9 true (.one 10 true (.one 11 true .done)))))))))))) [] [] rfl (by kernel_rfl) rfl (by kernel_rfl) rfl rfl (fun _ h=>h) rfl rfl rfl (fun _ _ _ h=>h) fun FK NK wK K=>?_)
  obtain ⟨g3,H⟩:=ah H
  obtain ⟨g4,H⟩:=ah H
  refine Hr 12 tk rfl rfl rfl rfl ⟨(kH g3),(kH g4),tv⟩ (WH.nil rfl (Qn (Wt (QT.r ?_))))
  cases H
  exact Ea rfl rfl rfl tv
 refine Wk (Qn (G (R 4 rfl (NQ (Wt ?_)))))
 cases H
 exact Ea rfl rfl rfl tv
theorem jk:aE Tryz.prog 57 Tryz.f57:=⟨Tryz.func57,rfl,by kernel_rfl⟩
theorem er (a0:ByteArray) (a1:ByteArray) {r:ByteArray×ByteArray×Bool} (H:dF a0 a1=some r):LJ.Spec Tryz.prog 32 [.d (.str a0), .d (.str a1)] [] (.tup [.d (.str r.1), .d (.str r.2.1), .d (.bool r.2.2)]) []:=by
 refine LJ.Spec.code Tryz.func32 rfl 13 rfl rfl [] rfl fun w0 F0 S0 B0=>?_
 unfold dF at H
 refine G (R 3 rfl (N (R 2 rfl ?_)))
 obtain ⟨x1,hx1,H⟩:=al H
 refine Cl [] (jj _ _ hx1) jk rfl tv rfl (R 6 rfl (NQ (Wt ?_)))
 cases H
 exact Ea rfl rfl rfl tv
theorem eu:aE Tryz.prog 32 Tryz.f32:=⟨Tryz.func32,rfl,by kernel_rfl⟩
theorem dj (a0:ByteArray) (a1:ByteArray) {r:Bool} (H:bZ a0 a1=some r):LJ.Spec Tryz.prog 92 [.d (.str a0), .d (.str a1)] [] (.d (.bool r)) []:=by
 refine LJ.Spec.code Tryz.func92 rfl 18 rfl rfl [] rfl fun w0 F0 S0 B0=>?_
 unfold bZ at H
 refine G (R 1 rfl (N (R 6 rfl ?_)))
 obtain ⟨g1,H⟩:=dM H
 refine Wx 6 5 true tk sg0 rfl rfl (fun hb=>⟨(kH (g1 hb)),tv⟩) (RS 2 rfl ⟨by first | exact id | exact fun h=>by rw [h];rfl | simp_all,tv⟩ (NQ (Wt ?_)))
 cases H
 exact Ea rfl rfl rfl tv
theorem dk:aE Tryz.prog 92 Tryz.f92:=⟨Tryz.func92,rfl,by kernel_rfl⟩
theorem fz (a0:ByteArray) (a1:ByteArray) {r:ByteArray×Bool} (H:cN a0 a1=some r):LJ.Spec Tryz.prog 74 [.d (.str a0), .d (.str a1)] [] (.tup [.d (.str r.1), .d (.bool r.2)]) []:=by
 refine LJ.Spec.code Tryz.func74 rfl 15 rfl rfl [] rfl fun w0 F0 S0 B0=>?_
 unfold cN at H
 refine G (R 2 rfl (NS (G (R 2 rfl ?_))))
 obtain ⟨x1,hx1,H⟩:=al H
 refine Cl [] (dj _ _ hx1) dk rfl tv rfl (R 1 rfl (NQ (Wd rfl H (fun H=>?_) (fun H=>?_))))
 ·refine G (R 3 rfl (NQ (Wt (QT.r ?_))))
  cases H
  exact Ea rfl rfl rfl tv
 refine Wk (Qn (G ?_))
 obtain ⟨g3,H⟩:=ah H
 refine RS 6 rfl ⟨(kH g3),tv⟩ (NQ (Wt ?_))
 cases H
 exact Ea rfl rfl rfl tv
theorem fA:aE Tryz.prog 74 Tryz.f74:=⟨Tryz.func74,rfl,by kernel_rfl⟩
theorem ik (a0:ByteArray) (a1:ByteArray) {r:ByteArray×Bool} (H:dG a0 a1=some r):LJ.Spec Tryz.prog 58 [.d (.str a0), .d (.str a1)] [] (.tup [.d (.str r.1), .d (.bool r.2)]) []:=by
 refine LJ.Spec.code Tryz.func58 rfl 11 rfl rfl [] rfl fun w0 F0 S0 B0=>?_
 unfold dG at H
 refine G (R 2 rfl (N (R 2 rfl ?_)))
 obtain ⟨x1,hx1,H⟩:=al H
 refine Cl [] (fz _ _ hx1) fA rfl tv rfl (R 4 rfl (NQ (Wt ?_)))
 cases H
 exact Ea rfl rfl rfl tv
theorem il:aE Tryz.prog 58 Tryz.f58:=⟨Tryz.func58,rfl,by kernel_rfl⟩
theorem ly (a0:ByteArray) (a1:ByteArray) {r:Int} (H:fL a0 a1=some r):LJ.Spec Tryz.prog 95 [.d (.str a0), .d (.str a1)] [] (.d (.int .i64 r)) []:=by
 refine LJ.Spec.code Tryz.func95 rfl 8 rfl rfl [] rfl fun w0 F0 S0 B0=>?_
 unfold fL at H
 refine G (R 1 rfl (N (R 2 rfl ?_)))
 obtain ⟨x1,hx1,H⟩:=al H
 refine Cl [] (eh _ _ hx1) en rfl tv rfl (R 1 rfl (NQ (Wt ?_)))
 cases H
 exact Ea rfl rfl rfl tv
theorem lz:aE Tryz.prog 95 Tryz.f95:=⟨Tryz.func95,rfl,by kernel_rfl⟩
def ρs:Go.Shelf.Ren:=⟨fun n=>cond (Nat.beq n 314) 106 (cond (Nat.beq n 268) 93 (cond (Nat.beq n 267) 91 (cond (Nat.beq n 266) 105 (cond (Nat.beq n 260) 120 (cond (Nat.beq n 225) 89 (cond (Nat.beq n 224) 90 (cond (Nat.beq n 221) 76 (cond (Nat.beq n 219) 73 (cond (Nat.beq n 218) 109 (cond (Nat.beq n 217) 88 (cond (Nat.beq n 197) 108 (cond (Nat.beq n 195) 107 (cond (Nat.beq n 146) 60 (cond (Nat.beq n 143) 95 (cond (Nat.beq n 138) 94 (0)))))))))))))))),fun n=>cond (Nat.beq n 146) 143 (cond (Nat.beq n 139) 174 (cond (Nat.beq n 138) 173 (cond (Nat.beq n 119) 123 (cond (Nat.beq n 105) 145 (cond (Nat.beq n 51) 140 (cond (Nat.beq n 46) 127 (cond (Nat.beq n 31) 92 (cond (Nat.beq n 21) 21 (cond (Nat.beq n 9) 9 (cond (Nat.beq n 5) 5 (cond (Nat.beq n 4) 4 (cond (Nat.beq n 3) 3 (cond (Nat.beq n 0) 0 (0)))))))))))))),fun n=>cond (Nat.beq n 4) 5 (cond (Nat.beq n 3) 4 (cond (Nat.beq n 1) 1 (0)))⟩
set_option maxRecDepth 100000 in
theorem vb:Go.Proofs.Lays.n146 Tryz.prog ρs:=by
 constructor <;> first | kernel_rfl | (intro w;kernel_rfl) | (intro w;rfl)
theorem dw (a0 a1:ByteArray) {r:List ByteArray} (H:strings_Split a0 a1=some r):LJ.Spec Tryz.prog 60 [.d (.str a0), .d (.str a1)] [] (.d (slT bj r)) []:=by
 unfold strings_Split at H
 obtain ⟨g1,H⟩:=ah H
 cases H
 exact Spec.split vb (by kernel_rfl) (by kernel_rfl) rfl g1
theorem dx:aE Tryz.prog 60 Tryz.f60:=⟨Tryz.func60,rfl,by kernel_rfl⟩
theorem vc (a0:ByteArray) {r:Int×Bool} (H:uK a0=some r):LJ.Spec Tryz.prog 75 [.d (.str a0)] [] (.tup [.d (.int .i64 r.1), .d (.bool r.2)]) []:=by
 refine LJ.Spec.code Tryz.func75 rfl 18 rfl rfl [] rfl fun w0 F0 S0 B0=>?_
 unfold uK at H
 refine G (R 2 rfl (NS (G ?_)))
 obtain ⟨x1,hx1,H⟩:=al H
 refine Cl [] (ed _ hx1) ee rfl tv rfl (R 2 rfl (NQ (Wb (Wl (ι:= {x:Nat×Int //kq a0 x1 x.1 x.2=some r}) (fun x=>[(0, .d (.str a0)),(6, .d (slT bj x1)),(7, .d (.int .i64 (x1.length:Int))),(8, .d (.int .i64 x.1.2))]) (fun x=>[]) (fun x=>x.1.1) ⟨(fuel,0),H⟩ (Lm p4 tv) fun x=>?_))))
 obtain ⟨⟨k3,s2⟩,H⟩:=x
 rcases k3 with _ | k3
 ·exact aL H
 rw [kq] at H
 refine G (R 1 rfl (NS (Wd rfl H (fun H=>?_) (fun H=>?_))))
 ·refine Wk (Qn (Ws (Wb (G ?_))))
  obtain ⟨g5,H⟩:=ah H
  refine RS 5 rfl ⟨⟨(an g5).1,(an g5).2,rfl⟩,tv⟩ (N (R 3 rfl (NQ (Wd rfl H (fun H=>?_) (fun H=>?_)))))
  ·refine G (R 3 rfl (NQ (Wt (QB.r (QT.r (QT.r (QB.r (QT.r ?_))))))))
   cases H
   exact Ea rfl rfl rfl tv
  refine Wk (Qb (Qn ?_))
  exact Wg (R 2 rfl (NQ (⟨⟨(k3,IntKind.i64.wrap (s2+1)),H⟩,Z,Lm p4 tv⟩)))
 refine WC.exit (Qx (Qx (Qh (Qn ?_))))
 refine G (R 2 rfl (NQ (Wt ?_)))
 cases H
 exact Ea rfl rfl rfl tv
theorem vd:aE Tryz.prog 75 Tryz.f75:=⟨Tryz.func75,rfl,by kernel_rfl⟩
def ρa:Go.Shelf.Ren:=⟨fun n=>cond (Nat.beq n 338) 127 (cond (Nat.beq n 337) 126 (cond (Nat.beq n 322) 132 (cond (Nat.beq n 321) 131 (cond (Nat.beq n 320) 117 (cond (Nat.beq n 319) 116 (cond (Nat.beq n 318) 115 (cond (Nat.beq n 317) 113 (cond (Nat.beq n 316) 129 (cond (Nat.beq n 287) 128 (cond (Nat.beq n 286) 103 (cond (Nat.beq n 285) 102 (cond (Nat.beq n 284) 101 (cond (Nat.beq n 283) 100 (cond (Nat.beq n 282) 125 (cond (Nat.beq n 281) 124 (cond (Nat.beq n 280) 123 (cond (Nat.beq n 279) 122 (cond (Nat.beq n 247) 121 (cond (Nat.beq n 246) 85 (cond (Nat.beq n 245) 111 (cond (Nat.beq n 244) 110 (cond (Nat.beq n 243) 68 (cond (Nat.beq n 205) 130 (cond (Nat.beq n 172) 96 (cond (Nat.beq n 171) 44 (cond (Nat.beq n 129) 114 (0))))))))))))))))))))))))))),fun n=>cond (Nat.beq n 233) 182 (cond (Nat.beq n 232) 181 (cond (Nat.beq n 213) 150 (cond (Nat.beq n 212) 149 (cond (Nat.beq n 210) 179 (cond (Nat.beq n 175) 175 (cond (Nat.beq n 173) 135 (cond (Nat.beq n 171) 133 (cond (Nat.beq n 168) 166 (cond (Nat.beq n 167) 163 (cond (Nat.beq n 145) 186 (cond (Nat.beq n 143) 184 (cond (Nat.beq n 127) 88 (cond (Nat.beq n 85) 164 (cond (Nat.beq n 80) 66 (cond (Nat.beq n 76) 61 (cond (Nat.beq n 75) 60 (cond (Nat.beq n 53) 117 (cond (Nat.beq n 51) 140 (cond (Nat.beq n 46) 127 (cond (Nat.beq n 37) 56 (cond (Nat.beq n 21) 21 (cond (Nat.beq n 20) 20 (cond (Nat.beq n 9) 9 (cond (Nat.beq n 5) 5 (cond (Nat.beq n 4) 4 (cond (Nat.beq n 3) 3 (cond (Nat.beq n 2) 2 (cond (Nat.beq n 0) 0 (0))))))))))))))))))))))))))))),fun n=>cond (Nat.beq n 19) 9 (cond (Nat.beq n 18) 8 (cond (Nat.beq n 17) 3 (cond (Nat.beq n 16) 7 (cond (Nat.beq n 15) 6 (0)))))⟩
set_option maxRecDepth 100000 in
theorem tF:Go.Proofs.Lays.n172 Tryz.prog ρa:=by
 constructor <;> first | kernel_rfl | (intro w;kernel_rfl) | (intro w;rfl)
set_option maxRecDepth 100000 in
theorem tG:Go.Proofs.LaysM.n172 Tryz.prog ρa:=by
 apply Go.Proofs.LaysM.n172.mk tF <;> first | kernel_rfl | (intro w;kernel_rfl) | (intro w;rfl)
set_option maxRecDepth 100000 in
theorem ve:Go.Proofs.LaysC.n172 Tryz.prog ρa:=by
 apply Go.Proofs.LaysC.n172.mk tG <;> first | kernel_rfl | (intro w;kernel_rfl) | (intro w;rfl)
theorem lP (a0:ByteArray) {r:Int×Bool} (H:gq a0=some r):LJ.Spec Tryz.prog 96 [.d (.str a0)] [] (.tup [.d (.int .i64 r.1), .d (erD 166 r.2)]) []:=by
 unfold gq at H
 obtain ⟨g1,H⟩:=ah H
 cases H
 exact Spec.atoi ve (by kernel_rfl) (by kernel_rfl) g1
theorem lQ:aE Tryz.prog 96 Tryz.f96:=⟨Tryz.func96,rfl,by kernel_rfl⟩
theorem e7 (a0:ByteArray) (a1:ByteArray) {r:ByteArray} (H:cK a0 a1=some r):LJ.Spec Tryz.prog 112 [.d (.str a0), .d (.str a1)] [] (.d (.str r)) []:=by
 refine LJ.Spec.code Tryz.func112 rfl 13 rfl rfl [] rfl fun w0 F0 S0 B0=>?_
 unfold cK at H
 refine G (R 1 rfl (NS (G (R 2 rfl ?_))))
 obtain ⟨x1,hx1,H⟩:=al H
 refine Cl [] (dj _ _ hx1) dk rfl tv rfl (NQ (Wd rfl H (fun H=>?_) (fun H=>?_)))
 ·refine G ?_
  obtain ⟨g3,H⟩:=ah H
  refine RS 5 rfl ⟨(kH g3),tv⟩ (NQ (Wt (QT.r ?_)))
  cases H
  exact Ea rfl rfl rfl tv
 refine Wk (Qn (G (R 2 rfl (NQ (Wt ?_)))))
 cases H
 exact Ea rfl rfl rfl tv
theorem e8:aE Tryz.prog 112 Tryz.f112:=⟨Tryz.func112,rfl,by kernel_rfl⟩
theorem gR (a0:ByteArray) (a1:ByteArray) {r:ByteArray} (H:du a0 a1=some r):LJ.Spec Tryz.prog 97 [.d (.str a0), .d (.str a1)] [] (.d (.str r)) []:=by
 refine LJ.Spec.code Tryz.func97 rfl 8 rfl rfl [] rfl fun w0 F0 S0 B0=>?_
 unfold du at H
 refine G (R 1 rfl (N (R 2 rfl ?_)))
 obtain ⟨x1,hx1,H⟩:=al H
 refine Cl [] (e7 _ _ hx1) e8 rfl tv rfl (R 1 rfl (NQ (Wt ?_)))
 cases H
 exact Ea rfl rfl rfl tv
theorem gS:aE Tryz.prog 97 Tryz.f97:=⟨Tryz.func97,rfl,by kernel_rfl⟩
theorem gD (a0:ByteArray) {r:Int×Bool} (H:ft a0=some r):LJ.Spec Tryz.prog 77 [.d (.str a0)] [] (.tup [.d (.int .i64 r.1), .d (.bool r.2)]) []:=by
 refine LJ.Spec.code Tryz.func77 rfl 26 rfl rfl [] rfl fun w0 F0 S0 B0=>?_
 unfold ft at H
 refine G (R 2 rfl (N (R 1 rfl ?_)))
 obtain ⟨x1,hx1,H⟩:=al H
 refine Cl [] (lP _ hx1) lQ rfl tv rfl (R 5 rfl (NS (G (R 1 rfl (WL.yv (LJ.Y.erNe rfl rfl (by kernel_rfl)) rfl rfl rfl (R 1 rfl ?_))))))
 obtain ⟨x2,hx2,H⟩:=al H
 refine Wx 4 2 false tk [PSig.at' gS ((!x1.2)=true) rfl (fun hb=>gR _ _ (of_t hx2 hb))] rfl rfl (fun hb=>⟨⟨hb,rfl⟩,tv⟩) (RS 2 rfl ⟨by first | exact id | exact fun h=>by rw [h];rfl | simp_all,tv⟩ ?_)
 obtain ⟨x3,hx3,H⟩:=al H
 refine Wx 4 8 false tk [PSig.at' bu ((!(x1.2||(iLt 10 (x2.size:Int))))=true) rfl (fun hb=>bt _ (of_t hx3 hb))] rfl rfl (fun hb=>⟨⟨hb,rfl⟩,tv⟩) (RS 1 rfl ⟨by first | exact id | exact fun h=>by rw [h];rfl | simp_all,tv⟩ (NQ (Wd rfl H (fun H=>?_) (fun H=>?_))))
 ·refine G (R 2 rfl (NQ (Wt (QT.r ?_))))
  cases H
  exact Ea rfl rfl rfl tv
 refine Wk (Qn (G (R 3 rfl (NQ (Wt ?_)))))
 cases H
 exact Ea rfl rfl rfl tv
theorem gG:aE Tryz.prog 77 Tryz.f77:=⟨Tryz.func77,rfl,by kernel_rfl⟩
theorem eL (a0:List ByteArray) (a1:Int) {r:(List Int)×Bool} (H:kN a0 a1=some r):LJ.Spec Tryz.prog 62 [.d (slT bj a0), .d (.int .i64 a1)] [] (.tup [.d (.agg [.int .i64 (r.1.getD 0 default), .int .i64 (r.1.getD 1 default)]), .d (.bool r.2)]) []:=by
 refine LJ.Spec.code Tryz.func62 rfl 36 rfl rfl [] rfl fun w0 F0 S0 B0=>?_
 unfold kN at H
 refine G (WL.allocZ 104 [.int .i64 0, .int .i64 0] rfl (by kernel_rfl) rfl rfl rfl rfl (R 1 rfl (N (WL.allocZ 106 [.int .i64 0, .int .i64 0] rfl (by kernel_rfl) rfl rfl rfl rfl (NS (G (R 4 rfl (NQ (Wd rfl H (fun H=>?_) (fun H=>?_))))))))))
 ·refine G (R 1 rfl (Ef 0 rfl (R 1 rfl (NQ (Wt (QT.r ?_))))))
  cases H
  exact Ends.autoA 2 (by kernel_rfl) rfl rfl rfl rfl rfl rfl tv
 refine Wk (Qn (Ws (G (R 3 rfl (NQ (Wb (Wl (ι:= {x:Nat×(Int×(List Int)) //gM a0 x.1 x.2=some r}) (fun x=>[(4, .ptr 104 0),(6, .ptr 106 0),(16, .d (slT bj a0)),(17, .d (.int .i64 (a0.length:Int))),(18, .d (.int .i64 x.1.2.1))]) (fun x=>[(104, .box 89 [.d (.int .i64 0), .d (.int .i64 0)]),(106, .box 89 [.d (.int .i64 (x.1.2.2.getD 0 default)), .d (.int .i64 (x.1.2.2.getD 1 default))])]) (fun x=>x.1.1) ⟨(fuel,(0,([0,0]:List Int))),H⟩ (Lm p5 p2) fun x=>?_)))))))
 obtain ⟨⟨k3,s2⟩,H⟩:=x
 rcases k3 with _ | k3
 ·exact aL H
 rw [gM] at H
 refine G (R 1 rfl (NS (Wd rfl H (fun H=>?_) (fun H=>?_))))
 ·refine Wk (Qn (Ws (Wb (G ?_))))
  obtain ⟨g5,H⟩:=ah H
  refine RS 5 rfl ⟨⟨(an g5).1,(an g5).2,rfl⟩,tv⟩ (N (R 1 rfl ?_))
  obtain ⟨x6,hx6,H⟩:=al H
  refine Cl [] (gD _ hx6) gG rfl tv rfl (R 5 rfl (NS (G (R 2 rfl (NQ (Wd rfl H (fun H=>?_) (fun H=>?_)))))))
  ·refine G (R 1 rfl (Ef 0 rfl (R 1 rfl (NQ (Wt (QT.r (QB.r (QT.r (QT.r (QB.r (QT.r ?_)))))))))))
   cases H
   exact Ends.autoA 2 (by kernel_rfl) rfl rfl rfl rfl rfl rfl tv
  refine Wk (Qn (Wg (R 2 rfl ?_)))
  obtain ⟨g8,H⟩:=ah H
  refine WL.yv (LJ.Y.idxPtrA 2 s2.1 (by kernel_rfl) rfl rfl rfl (an g8)) rfl rfl rfl (WL.wo (WO.storePtrA 2 0 (fun x:Int=>DV.int .i64 x) s2.2 x6.1 s2.1 (cs':=[.d (.int .i64 ((aset 2 s2.2 s2.1.toNat x6.1).getD 0 default)), .d (.int .i64 ((aset 2 s2.2 s2.1.toNat x6.1).getD 1 default))]) rfl rfl rfl rfl rfl (by kernel_rfl) rfl rfl (an g8) rfl rfl rfl) rfl (Wn (Qb (Qn ?_))))
  exact Wg (R 2 rfl (NQ (⟨⟨(k3,(IntKind.i64.wrap (s2.1+1),(aset 2 s2.2 s2.1.toNat x6.1))),H⟩,Z,Lm p5 p2⟩)))
 refine WC.exit (Qx (Qx (Qh (Qn ?_))))
 refine G (R 1 rfl (Ef 0 rfl (R 1 rfl (NQ (Wt ?_)))))
 cases H
 exact Ends.autoA 2 (by kernel_rfl) rfl rfl rfl rfl rfl rfl tv
theorem eN:aE Tryz.prog 62 Tryz.f62:=⟨Tryz.func62,rfl,by kernel_rfl⟩
theorem fB (a0:aW) (a1:ByteArray) {r:Bool×aW} (H:b8 a0 a1=some r):LJ.Spec Tryz.prog 59 [.ptr 0 0, .d (.str a1)] [(0, .box 72 [.own 1, .own 2, .own 3]),(1, .row 44 3 (a0.p.Decls.map ai)),(2, .row 45 1 (a0.p.Waits.map ae)),(3, .rowl 49 3 2 (some 4) (a0.p.Funcs.map ak)),(4, .row 28 3 ((bK a0.p.Funcs).map aB))] (.d (.bool r.1)) [(1, .row 44 3 (r.2.p.Decls.map ai)),(2, .row 45 1 (r.2.p.Waits.map ae)),(3, .rowl 49 3 2 (some 4) (r.2.p.Funcs.map ak)),(4, .row 28 3 ((bK r.2.p.Funcs).map aB)),(0, .box 72 [.own 1, .own 2, .own 3])]:=by
 refine LJ.Spec.code Tryz.func59 rfl 68 rfl rfl [0] rfl fun w0 F0 S0 B0=>?_
 unfold b8 at H
 refine G (R 1 rfl (N (R 1 rfl ?_)))
 obtain ⟨x1,hx1,H⟩:=al H
 refine Cl [] (dw _ _ hx1) dx rfl tv rfl (R 1 rfl (NS (Wg ?_)))
 obtain ⟨g2,H⟩:=ah H
 refine RS 3 rfl ⟨⟨(an g2).1,(an g2).2,rfl⟩,tv⟩ ?_
 obtain ⟨x3,hx3,H⟩:=al H
 refine Cl [] (vc _ hx3) vd rfl tv rfl (R 5 rfl (NS (G (R 3 rfl (Wx 7 2 false tk sg0 rfl rfl (fun _=>tv) (RS 1 rfl ⟨by first | exact id | exact fun h=>by rw [h];rfl | simp_all,tv⟩ (NQ (Wd rfl H (fun H=>?_) (fun H=>?_)))))))))
 ·refine G (R 1 rfl (NQ (Wt (QT.r ?_))))
  cases H
  exact Ea rfl rfl rfl p5
 refine Wk (Qn (Ws ?_))
 obtain ⟨g5_1_1,H⟩:=ah H
 obtain ⟨x5_3_1,hx5_3_1,H⟩:=al H
 obtain ⟨x5_5_1,hx5_5_1,H⟩:=al H
 refine WC.heldF [(0, .ptr 0 0),(6, .d (.int .i64 x3.1)),(7, .d (.bool x5_5_1.2)),(8, .ptr 108 0)] [(0, .box 72 [.own 1, .own 2, .own 3]),(1, .row 44 3 (a0.p.Decls.map ai)),(2, .row 45 1 (a0.p.Waits.map ae)),(3, .rowl 49 3 2 (some 4) (a0.p.Funcs.map ak)),(4, .row 28 3 ((bK a0.p.Funcs).map aB)),(108, .box 89 [.d (.int .i64 (x5_5_1.1.getD 0 default)), .d (.int .i64 (x5_5_1.1.getD 1 default))])] (sT 0 (sT 1 (sT 2 (fk (sf 3 (sT 4 (fk (sf 5 (sT 6 (fk (sf 7 (fk (sf 8 (sf 9 (sf 10 (sT 11 sd)))) (sf 9 (fk (sf 8 (sf 10 (sT 11 sd))) (sf 10 (sf 8 (sT 11 sd))))))) (fk (sf 8 (fk (sf 7 (sf 9 (sf 10 (sT 11 sd)))) (sf 9 (sf 7 (sf 10 (sT 11 sd)))))) (sf 9 (fk (sf 7 (fk (sf 8 (sf 10 (sT 11 sd))) (sf 10 (sf 8 (sT 11 sd))))) (sf 8 (sf 7 (sf 10 (sT 11 sd)))))))))) (sf 9 (sf 5 (sT 6 (fk (sf 7 (fk (sf 8 (sf 10 (sT 11 sd))) (sf 10 (sf 8 (sT 11 sd))))) (sf 8 (sf 7 (sf 10 (sT 11 sd))))))))))) (sf 9 (sf 3 (sT 4 (sf 5 (sT 6 (fk (sf 7 (fk (sf 8 (sf 10 (sT 11 sd))) (sf 10 (sf 8 (sT 11 sd))))) (sf 8 (sf 7 (sf 10 (sT 11 sd)))))))))))))) [0] [0] rfl (by kernel_rfl) rfl (by kernel_rfl) rfl rfl (fun _ h=>h) rfl rfl rfl (fun FK NK wK K=>?_) ?_
 ·refine Hr 1 tk rfl rfl rfl rfl tv (WH.yv rfl (LJ.Y.sliceT bj x1 tk rfl (fun _=>rfl) (some (.const (.int .i64 1))) none (1:Int) (x1.length:Int) rfl ⟨_,rfl⟩ rfl rfl rfl (kI g5_1_1)) rfl rfl rfl (Hr 1 tk rfl rfl rfl rfl tv (WH.fork ?_ ?_)))
  ·refine WH.call [] rfl (gB _ hx5_3_1) gC rfl rfl tv rfl rfl rfl rfl rfl (Hr 1 tk rfl rfl rfl rfl tv (WH.fork ?_ ?_))
   ·refine WH.call [] rfl (eL _ _ hx5_5_1) eN rfl rfl tv rfl rfl rfl rfl rfl (WH.mv rfl rfl rfl rfl rfl rfl rfl rfl rfl (WH.fork ?_ (WH.fork ?_ ?_)))
    ·refine WH.val tk rfl rfl rfl rfl rfl tv rfl rfl (WH.fork ?_ ?_)
     ·exact WH.val tk rfl rfl rfl rfl rfl tv rfl rfl (WH.allocZ 108 [.int .i64 0, .int .i64 0] rfl rfl (by kernel_rfl) rfl rfl rfl rfl rfl rfl (He 0 tk ek rfl rfl rfl rfl tv rfl rfl (Hr 1 tk rfl rfl rfl rfl tv (Hn rfl (Lw q4 p6)))))
     ·refine WH.allocZ 108 [.int .i64 0, .int .i64 0] rfl rfl (by kernel_rfl) rfl rfl rfl rfl rfl rfl (WH.fork ?_ ?_)
      ·exact WH.val tk rfl rfl rfl rfl rfl tv rfl rfl (He 0 tk ek rfl rfl rfl rfl tv rfl rfl (Hr 1 tk rfl rfl rfl rfl tv (Hn rfl (Lw q4 p6))))
      ·exact He 0 tk ek rfl rfl rfl rfl tv rfl rfl (WH.val tk rfl rfl rfl rfl rfl tv rfl rfl (Hr 1 tk rfl rfl rfl rfl tv (Hn rfl (Lw q4 p6))))
    ·refine WH.val tk rfl rfl rfl rfl rfl tv rfl rfl (WH.fork ?_ ?_)
     ·exact WH.val tk rfl rfl rfl rfl rfl tv rfl rfl (WH.allocZ 108 [.int .i64 0, .int .i64 0] rfl rfl (by kernel_rfl) rfl rfl rfl rfl rfl rfl (He 0 tk ek rfl rfl rfl rfl tv rfl rfl (Hr 1 tk rfl rfl rfl rfl tv (Hn rfl (Lw q4 p6)))))
     ·exact WH.allocZ 108 [.int .i64 0, .int .i64 0] rfl rfl (by kernel_rfl) rfl rfl rfl rfl rfl rfl (WH.val tk rfl rfl rfl rfl rfl tv rfl rfl (He 0 tk ek rfl rfl rfl rfl tv rfl rfl (Hr 1 tk rfl rfl rfl rfl tv (Hn rfl (Lw q4 p6)))))
    ·refine WH.allocZ 108 [.int .i64 0, .int .i64 0] rfl rfl (by kernel_rfl) rfl rfl rfl rfl rfl rfl (WH.fork ?_ ?_)
     ·refine WH.val tk rfl rfl rfl rfl rfl tv rfl rfl (WH.fork ?_ ?_)
      ·exact WH.val tk rfl rfl rfl rfl rfl tv rfl rfl (He 0 tk ek rfl rfl rfl rfl tv rfl rfl (Hr 1 tk rfl rfl rfl rfl tv (Hn rfl (Lw q4 p6))))
      ·exact He 0 tk ek rfl rfl rfl rfl tv rfl rfl (WH.val tk rfl rfl rfl rfl rfl tv rfl rfl (Hr 1 tk rfl rfl rfl rfl tv (Hn rfl (Lw q4 p6))))
     ·exact WH.val tk rfl rfl rfl rfl rfl tv rfl rfl (WH.val tk rfl rfl rfl rfl rfl tv rfl rfl (He 0 tk ek rfl rfl rfl rfl tv rfl rfl (Hr 1 tk rfl rfl rfl rfl tv (Hn rfl (Lw q4 p6)))))
   ·refine WH.allocZ 108 [.int .i64 0, .int .i64 0] rfl rfl (by kernel_rfl) rfl rfl rfl rfl rfl rfl (WH.call [] rfl (eL _ _ hx5_5_1) eN rfl rfl tv rfl rfl rfl rfl rfl (WH.mv rfl rfl rfl rfl rfl rfl rfl rfl rfl (WH.fork ?_ ?_)))
    ·refine WH.val tk rfl rfl rfl rfl rfl tv rfl rfl (WH.fork ?_ ?_)
     ·exact WH.val tk rfl rfl rfl rfl rfl tv rfl rfl (He 0 tk ek rfl rfl rfl rfl tv rfl rfl (Hr 1 tk rfl rfl rfl rfl tv (Hn rfl (Lw q4 p6))))
     ·exact He 0 tk ek rfl rfl rfl rfl tv rfl rfl (WH.val tk rfl rfl rfl rfl rfl tv rfl rfl (Hr 1 tk rfl rfl rfl rfl tv (Hn rfl (Lw q4 p6))))
    ·exact WH.val tk rfl rfl rfl rfl rfl tv rfl rfl (WH.val tk rfl rfl rfl rfl rfl tv rfl rfl (He 0 tk ek rfl rfl rfl rfl tv rfl rfl (Hr 1 tk rfl rfl rfl rfl tv (Hn rfl (Lw q4 p6)))))
  ·refine WH.allocZ 108 [.int .i64 0, .int .i64 0] rfl rfl (by kernel_rfl) rfl rfl rfl rfl rfl rfl (WH.call [] rfl (gB _ hx5_3_1) gC rfl rfl tv rfl rfl rfl rfl rfl (Hr 1 tk rfl rfl rfl rfl tv (WH.call [] rfl (eL _ _ hx5_5_1) eN rfl rfl tv rfl rfl rfl rfl rfl (WH.mv rfl rfl rfl rfl rfl rfl rfl rfl rfl (WH.fork ?_ ?_)))))
   ·refine WH.val tk rfl rfl rfl rfl rfl tv rfl rfl (WH.fork ?_ ?_)
    ·exact WH.val tk rfl rfl rfl rfl rfl tv rfl rfl (He 0 tk ek rfl rfl rfl rfl tv rfl rfl (Hr 1 tk rfl rfl rfl rfl tv (Hn rfl (Lw q4 p6))))
    ·exact He 0 tk ek rfl rfl rfl rfl tv rfl rfl (WH.val tk rfl rfl rfl rfl rfl tv rfl rfl (Hr 1 tk rfl rfl rfl rfl tv (Hn rfl (Lw q4 p6))))
   ·exact WH.val tk rfl rfl rfl rfl rfl tv rfl rfl (WH.val tk rfl rfl rfl rfl rfl tv rfl rfl (He 0 tk ek rfl rfl rfl rfl tv rfl rfl (Hr 1 tk rfl rfl rfl rfl tv (Hn rfl (Lw q4 p6)))))
 ·refine Qn (Ws ?_)
  obtain ⟨g6_12_1,H⟩:=ah H
  refine WC.heldF [(6, .d (.int .i64 x3.1)),(7, .d (.bool x5_5_1.2)),(8, .ptr 108 0),(9, .rel 3 ((IntKind.i64.wrap (((a0.p.Funcs.map ak).length:Int) - 1)).toNat*3))] [(0, .box 72 [.own 1, .own 2, .own 3]),(1, .row 44 3 (a0.p.Decls.map ai)),(2, .row 45 1 (a0.p.Waits.map ae)),(3, .rowl 49 3 2 (some 4) (a0.p.Funcs.map ak)),(4, .row 28 3 ((bK a0.p.Funcs).map aB)),(108, .box 89 [.d (.int .i64 (x5_5_1.1.getD 0 default)), .d (.int .i64 (x5_5_1.1.getD 1 default))])] (sT 0 (sT 1 (sT 2 (sT 3 (sT 5 (sT 6 (sT 7 (sT 8 (fk (sf 4 (sf 9 (sf 10 (sT 11 (sf 12 (sT 13 sd)))))) (sf 9 (fk (sf 4 (sf 10 (sT 11 (sf 12 (sT 13 sd))))) (sf 10 (sT 11 (sf 4 (sf 12 (sT 13 sd)))))))))))))))) [0,108] [0,108] rfl (by kernel_rfl) rfl (by kernel_rfl) rfl rfl (fun _ h=>h) rfl rfl rfl (fun FK NK wK K=>?_) ?_
  ·refine Hr 8 tk rfl rfl rfl rfl tv (WH.fork ?_ ?_)
   ·exact WH.val tk rfl rfl rfl rfl rfl tv rfl rfl (WH.val tk rfl rfl rfl rfl rfl tv rfl rfl (WH.val tk rfl rfl rfl rfl rfl tv rfl rfl (Hr 1 tk rfl rfl rfl rfl tv (WH.yvs rfl (LJ.Y.idxL ak a0.p.Funcs (IntKind.i64.wrap (((a0.p.Funcs.map ak).length:Int) - 1)) tk rfl rfl rfl rfl rfl (m7 g6_12_1)) rfl rfl rfl rfl rfl (WH.mv rfl rfl rfl rfl rfl rfl rfl rfl rfl (Hn rfl (Lw q4 p6)))))))
   ·refine WH.val tk rfl rfl rfl rfl rfl tv rfl rfl (WH.fork ?_ ?_)
    ·exact WH.val tk rfl rfl rfl rfl rfl tv rfl rfl (WH.val tk rfl rfl rfl rfl rfl tv rfl rfl (Hr 1 tk rfl rfl rfl rfl tv (WH.yvs rfl (LJ.Y.idxL ak a0.p.Funcs (IntKind.i64.wrap (((a0.p.Funcs.map ak).length:Int) - 1)) tk rfl rfl rfl rfl rfl (m7 g6_12_1)) rfl rfl rfl rfl rfl (WH.mv rfl rfl rfl rfl rfl rfl rfl rfl rfl (Hn rfl (Lw q4 p6))))))
    ·exact WH.val tk rfl rfl rfl rfl rfl tv rfl rfl (Hr 1 tk rfl rfl rfl rfl tv (WH.val tk rfl rfl rfl rfl rfl tv rfl rfl (WH.yvs rfl (LJ.Y.idxL ak a0.p.Funcs (IntKind.i64.wrap (((a0.p.Funcs.map ak).length:Int) - 1)) tk rfl rfl rfl rfl rfl (m7 g6_12_1)) rfl rfl rfl rfl rfl (WH.mv rfl rfl rfl rfl rfl rfl rfl rfl rfl (Hn rfl (Lw q4 p6))))))
  ·refine Qn (Ws ?_)
   obtain ⟨g7_6_1,H⟩:=ah H
   obtain ⟨g7_8_1,H⟩:=ah H
   obtain ⟨g7_12_1,H⟩:=ah H
   refine WC.heldF [(7, .d (.bool x5_5_1.2))] [(0, .box 72 [.own 1, .own 2, .own 3]),(1, .row 44 3 (a0.p.Decls.map ai)),(2, .row 45 1 (a0.p.Waits.map ae)),(3, .rowl 49 3 2 (some 4) ((a0.p.Funcs.set (a0.p.Funcs.length - 1) (⟨(a0.p.Funcs.getD (a0.p.Funcs.length - 1) default).Args,(a0.p.Funcs.getD (a0.p.Funcs.length - 1) default).Locals,(bK a0.p.Funcs)++([(⟨x3.1,(x5_5_1.1.getD (0:Int).toNat default),(x5_5_1.1.getD (1:Int).toNat default)⟩:aq)]:List aq)⟩:au)).map ak)),(4, .row 28 3 ((bK (a0.p.Funcs.set (a0.p.Funcs.length - 1) (⟨(a0.p.Funcs.getD (a0.p.Funcs.length - 1) default).Args,(a0.p.Funcs.getD (a0.p.Funcs.length - 1) default).Locals,(bK a0.p.Funcs)++([(⟨x3.1,(x5_5_1.1.getD (0:Int).toNat default),(x5_5_1.1.getD (1:Int).toNat default)⟩:aq)]:List aq)⟩:au))).map aB))] (sT 0 (sT 1 (sT 5 (sT 6 (sT 7 (sT 8 (sT 9 (sT 10 (fk (sf 2 (fk (sf 3 (fk (sf 4 (sf 11 (sf 12 (sf 13 (sf 14 (sf 15 sd)))))) (sf 11 (sf 4 (sf 12 (sf 13 (sf 14 (sf 15 sd)))))))) (sf 11 (sf 3 (sf 4 (sf 12 (sf 13 (sf 14 (sf 15 sd))))))))) (sf 11 (sf 2 (sf 3 (sf 4 (sf 12 (sf 13 (sf 14 (sf 15 sd))))))))))))))))) [0,108] [0,108] rfl (by kernel_rfl) rfl (by kernel_rfl) rfl rfl (fun _ h=>h) rfl rfl rfl (fun FK NK wK K=>?_) ?_
   ·refine WH.mv rfl rfl rfl rfl rfl rfl rfl rfl rfl (WH.mv rfl rfl rfl rfl rfl rfl rfl rfl rfl (Hr 1 tk rfl rfl rfl rfl tv (WH.yv rfl (LJ.Y.idxPtrA 2 (0:Int) (by kernel_rfl) rfl rfl rfl (an g7_6_1)) rfl rfl rfl (WH.yv rfl (LJ.Y.loadPtrA 2 0 (fun k=> .int .i64 (x5_5_1.1.getD k default)) (0:Int) rfl rfl rfl (by kernel_rfl) rfl (an g7_6_1)) rfl rfl rfl (WH.yv rfl (LJ.Y.idxPtrA 2 (1:Int) (by kernel_rfl) rfl rfl rfl (an g7_8_1)) rfl rfl rfl (WH.yv rfl (LJ.Y.loadPtrA 2 0 (fun k=> .int .i64 (x5_5_1.1.getD k default)) (1:Int) rfl rfl rfl (by kernel_rfl) rfl (an g7_8_1)) rfl rfl rfl (Hr 1 tk rfl rfl rfl rfl tv (WH.fork ?_ ?_))))))))
    ·refine WH.val tk rfl rfl rfl rfl rfl tv rfl rfl (WH.fork ?_ ?_)
     ·refine WH.yvs rfl (LJ.Y.fieldRel (fo:=2) rfl rfl (by kernel_rfl)) rfl rfl rfl rfl rfl (WH.fork ?_ ?_)
      ·refine WH.yvs rfl (LJ.Y.loadL rfl rfl (ql g6_12_1) (m8 g6_12_1) rfl (by kernel_rfl)) rfl rfl rfl rfl rfl ?_
       refine He 163 tk ek rfl rfl rfl rfl tv rfl rfl (WH.freezeT 163 aB ([(⟨x3.1,(x5_5_1.1.getD (0:Int).toNat default),(x5_5_1.1.getD (1:Int).toNat default)⟩:aq)]:List aq) rfl rfl rfl rfl (WH.appT aB (bK a0.p.Funcs) ([(⟨x3.1,(x5_5_1.1.getD (0:Int).toNat default),(x5_5_1.1.getD (1:Int).toNat default)⟩:aq)]:List aq) tk ek rfl rfl (fun _=>rfl) (fun _=>rfl) rfl rfl rfl rfl rfl (bL g7_12_1) rfl rfl rfl rfl rfl rfl rfl ?_))
       refine WH.val tk rfl rfl rfl rfl rfl tv rfl rfl (WH.yvs rfl (LJ.Y.fieldRel (fo:=2) rfl rfl (by kernel_rfl)) rfl rfl rfl rfl rfl (WH.storeL ak a0.p.Funcs (⟨(a0.p.Funcs.getD (a0.p.Funcs.length - 1) default).Args,(a0.p.Funcs.getD (a0.p.Funcs.length - 1) default).Locals,(bK a0.p.Funcs)++([(⟨x3.1,(x5_5_1.1.getD (0:Int).toNat default),(x5_5_1.1.getD (1:Int).toNat default)⟩:aq)]:List aq)⟩:au) (IntKind.i64.wrap (((a0.p.Funcs.map ak).length:Int) - 1)) rfl rfl rfl rfl rfl (eS g6_12_1) (fun _=>rfl) rfl (by kernel_rfl) rfl rfl rfl rfl rfl rfl rfl ?_))
       exact WH.row 4 ((bK (a0.p.Funcs.set (a0.p.Funcs.length - 1) (⟨(a0.p.Funcs.getD (a0.p.Funcs.length - 1) default).Args,(a0.p.Funcs.getD (a0.p.Funcs.length - 1) default).Locals,(bK a0.p.Funcs)++([(⟨x3.1,(x5_5_1.1.getD (0:Int).toNat default),(x5_5_1.1.getD (1:Int).toNat default)⟩:aq)]:List aq)⟩:au))).map aB) rfl (congrArg (List.map aB) (iV (L:=a0.p.Funcs) (x:=(⟨(a0.p.Funcs.getD (a0.p.Funcs.length - 1) default).Args,(a0.p.Funcs.getD (a0.p.Funcs.length - 1) default).Locals,(bK a0.p.Funcs)++([(⟨x3.1,(x5_5_1.1.getD (0:Int).toNat default),(x5_5_1.1.getD (1:Int).toNat default)⟩:aq)]:List aq)⟩:au)) g6_12_1).symm) rfl (Hn rfl (Lw q1 p5))
      ·refine He 163 tk ek rfl rfl rfl rfl tv rfl rfl (WH.freezeT 163 aB ([(⟨x3.1,(x5_5_1.1.getD (0:Int).toNat default),(x5_5_1.1.getD (1:Int).toNat default)⟩:aq)]:List aq) rfl rfl rfl rfl (WH.yvs rfl (LJ.Y.loadL rfl rfl (ql g6_12_1) (m8 g6_12_1) rfl (by kernel_rfl)) rfl rfl rfl rfl rfl ?_))
       refine WH.appT aB (bK a0.p.Funcs) ([(⟨x3.1,(x5_5_1.1.getD (0:Int).toNat default),(x5_5_1.1.getD (1:Int).toNat default)⟩:aq)]:List aq) tk ek rfl rfl (fun _=>rfl) (fun _=>rfl) rfl rfl rfl rfl rfl (bL g7_12_1) rfl rfl rfl rfl rfl rfl rfl ?_
       refine WH.val tk rfl rfl rfl rfl rfl tv rfl rfl (WH.yvs rfl (LJ.Y.fieldRel (fo:=2) rfl rfl (by kernel_rfl)) rfl rfl rfl rfl rfl (WH.storeL ak a0.p.Funcs (⟨(a0.p.Funcs.getD (a0.p.Funcs.length - 1) default).Args,(a0.p.Funcs.getD (a0.p.Funcs.length - 1) default).Locals,(bK a0.p.Funcs)++([(⟨x3.1,(x5_5_1.1.getD (0:Int).toNat default),(x5_5_1.1.getD (1:Int).toNat default)⟩:aq)]:List aq)⟩:au) (IntKind.i64.wrap (((a0.p.Funcs.map ak).length:Int) - 1)) rfl rfl rfl rfl rfl (eS g6_12_1) (fun _=>rfl) rfl (by kernel_rfl) rfl rfl rfl rfl rfl rfl rfl ?_))
       exact WH.row 4 ((bK (a0.p.Funcs.set (a0.p.Funcs.length - 1) (⟨(a0.p.Funcs.getD (a0.p.Funcs.length - 1) default).Args,(a0.p.Funcs.getD (a0.p.Funcs.length - 1) default).Locals,(bK a0.p.Funcs)++([(⟨x3.1,(x5_5_1.1.getD (0:Int).toNat default),(x5_5_1.1.getD (1:Int).toNat default)⟩:aq)]:List aq)⟩:au))).map aB) rfl (congrArg (List.map aB) (iV (L:=a0.p.Funcs) (x:=(⟨(a0.p.Funcs.getD (a0.p.Funcs.length - 1) default).Args,(a0.p.Funcs.getD (a0.p.Funcs.length - 1) default).Locals,(bK a0.p.Funcs)++([(⟨x3.1,(x5_5_1.1.getD (0:Int).toNat default),(x5_5_1.1.getD (1:Int).toNat default)⟩:aq)]:List aq)⟩:au)) g6_12_1).symm) rfl (Hn rfl (Lw q1 p5))
     ·refine He 163 tk ek rfl rfl rfl rfl tv rfl rfl (WH.freezeT 163 aB ([(⟨x3.1,(x5_5_1.1.getD (0:Int).toNat default),(x5_5_1.1.getD (1:Int).toNat default)⟩:aq)]:List aq) rfl rfl rfl rfl (WH.yvs rfl (LJ.Y.fieldRel (fo:=2) rfl rfl (by kernel_rfl)) rfl rfl rfl rfl rfl (WH.yvs rfl (LJ.Y.loadL rfl rfl (ql g6_12_1) (m8 g6_12_1) rfl (by kernel_rfl)) rfl rfl rfl rfl rfl ?_)))
      refine WH.appT aB (bK a0.p.Funcs) ([(⟨x3.1,(x5_5_1.1.getD (0:Int).toNat default),(x5_5_1.1.getD (1:Int).toNat default)⟩:aq)]:List aq) tk ek rfl rfl (fun _=>rfl) (fun _=>rfl) rfl rfl rfl rfl rfl (bL g7_12_1) rfl rfl rfl rfl rfl rfl rfl ?_
      refine WH.val tk rfl rfl rfl rfl rfl tv rfl rfl (WH.yvs rfl (LJ.Y.fieldRel (fo:=2) rfl rfl (by kernel_rfl)) rfl rfl rfl rfl rfl (WH.storeL ak a0.p.Funcs (⟨(a0.p.Funcs.getD (a0.p.Funcs.length - 1) default).Args,(a0.p.Funcs.getD (a0.p.Funcs.length - 1) default).Locals,(bK a0.p.Funcs)++([(⟨x3.1,(x5_5_1.1.getD (0:Int).toNat default),(x5_5_1.1.getD (1:Int).toNat default)⟩:aq)]:List aq)⟩:au) (IntKind.i64.wrap (((a0.p.Funcs.map ak).length:Int) - 1)) rfl rfl rfl rfl rfl (eS g6_12_1) (fun _=>rfl) rfl (by kernel_rfl) rfl rfl rfl rfl rfl rfl rfl ?_))
      exact WH.row 4 ((bK (a0.p.Funcs.set (a0.p.Funcs.length - 1) (⟨(a0.p.Funcs.getD (a0.p.Funcs.length - 1) default).Args,(a0.p.Funcs.getD (a0.p.Funcs.length - 1) default).Locals,(bK a0.p.Funcs)++([(⟨x3.1,(x5_5_1.1.getD (0:Int).toNat default),(x5_5_1.1.getD (1:Int).toNat default)⟩:aq)]:List aq)⟩:au))).map aB) rfl (congrArg (List.map aB) (iV (L:=a0.p.Funcs) (x:=(⟨(a0.p.Funcs.getD (a0.p.Funcs.length - 1) default).Args,(a0.p.Funcs.getD (a0.p.Funcs.length - 1) default).Locals,(bK a0.p.Funcs)++([(⟨x3.1,(x5_5_1.1.getD (0:Int).toNat default),(x5_5_1.1.getD (1:Int).toNat default)⟩:aq)]:List aq)⟩:au)) g6_12_1).symm) rfl (Hn rfl (Lw q1 p5))
    ·refine He 163 tk ek rfl rfl rfl rfl tv rfl rfl (WH.freezeT 163 aB ([(⟨x3.1,(x5_5_1.1.getD (0:Int).toNat default),(x5_5_1.1.getD (1:Int).toNat default)⟩:aq)]:List aq) rfl rfl rfl rfl (WH.val tk rfl rfl rfl rfl rfl tv rfl rfl (WH.yvs rfl (LJ.Y.fieldRel (fo:=2) rfl rfl (by kernel_rfl)) rfl rfl rfl rfl rfl (WH.yvs rfl (LJ.Y.loadL rfl rfl (ql g6_12_1) (m8 g6_12_1) rfl (by kernel_rfl)) rfl rfl rfl rfl rfl ?_))))
     refine WH.appT aB (bK a0.p.Funcs) ([(⟨x3.1,(x5_5_1.1.getD (0:Int).toNat default),(x5_5_1.1.getD (1:Int).toNat default)⟩:aq)]:List aq) tk ek rfl rfl (fun _=>rfl) (fun _=>rfl) rfl rfl rfl rfl rfl (bL g7_12_1) rfl rfl rfl rfl rfl rfl rfl ?_
     refine WH.val tk rfl rfl rfl rfl rfl tv rfl rfl (WH.yvs rfl (LJ.Y.fieldRel (fo:=2) rfl rfl (by kernel_rfl)) rfl rfl rfl rfl rfl (WH.storeL ak a0.p.Funcs (⟨(a0.p.Funcs.getD (a0.p.Funcs.length - 1) default).Args,(a0.p.Funcs.getD (a0.p.Funcs.length - 1) default).Locals,(bK a0.p.Funcs)++([(⟨x3.1,(x5_5_1.1.getD (0:Int).toNat default),(x5_5_1.1.getD (1:Int).toNat default)⟩:aq)]:List aq)⟩:au) (IntKind.i64.wrap (((a0.p.Funcs.map ak).length:Int) - 1)) rfl rfl rfl rfl rfl (eS g6_12_1) (fun _=>rfl) rfl (by kernel_rfl) rfl rfl rfl rfl rfl rfl rfl ?_))
     exact WH.row 4 ((bK (a0.p.Funcs.set (a0.p.Funcs.length - 1) (⟨(a0.p.Funcs.getD (a0.p.Funcs.length - 1) default).Args,(a0.p.Funcs.getD (a0.p.Funcs.length - 1) default).Locals,(bK a0.p.Funcs)++([(⟨x3.1,(x5_5_1.1.getD (0:Int).toNat default),(x5_5_1.1.getD (1:Int).toNat default)⟩:aq)]:List aq)⟩:au))).map aB) rfl (congrArg (List.map aB) (iV (L:=a0.p.Funcs) (x:=(⟨(a0.p.Funcs.getD (a0.p.Funcs.length - 1) default).Args,(a0.p.Funcs.getD (a0.p.Funcs.length - 1) default).Locals,(bK a0.p.Funcs)++([(⟨x3.1,(x5_5_1.1.getD (0:Int).toNat default),(x5_5_1.1.getD (1:Int).toNat default)⟩:aq)]:List aq)⟩:au)) g6_12_1).symm) rfl (Hn rfl (Lw q1 p5))
   ·refine Qn (G (R 2 rfl (NQ (Wt ?_))))
    cases H
    exact Ea rfl rfl rfl p5
theorem fC (n0 n1 n2 n3 n4:Nat) (hn:gU [n0,n1,n2,n3,n4]=true) (a0:aW) (a1:ByteArray) {r:Bool×aW} (H:b8 a0 a1=some r):LJ.Spec Tryz.prog 59 [.ptr n0 0, .d (.str a1)] [(n0, .box 72 [.own n1, .own n2, .own n3]),(n1, .row 44 3 (a0.p.Decls.map ai)),(n2, .row 45 1 (a0.p.Waits.map ae)),(n3, .rowl 49 3 2 (some n4) (a0.p.Funcs.map ak)),(n4, .row 28 3 ((bK a0.p.Funcs).map aB))] (.d (.bool r.1)) [(n1, .row 44 3 (r.2.p.Decls.map ai)),(n2, .row 45 1 (r.2.p.Waits.map ae)),(n3, .rowl 49 3 2 (some n4) (r.2.p.Funcs.map ak)),(n4, .row 28 3 ((bK r.2.p.Funcs).map aB)),(n0, .box 72 [.own n1, .own n2, .own n3])]:=
 Spec.names [n0,n1,n2,n3,n4] hn rfl rfl (fB a0 a1 H)
theorem fD:aE Tryz.prog 59 Tryz.f59:=⟨Tryz.func59,rfl,by kernel_rfl⟩
theorem qX (a0:ByteArray) {r:Int} (H:m9 a0=some r):LJ.Spec Tryz.prog 61 [.d (.str a0)] [] (.d (.int .i64 r)) []:=by
 refine LJ.Spec.code Tryz.func61 rfl 13 rfl rfl [] rfl fun w0 F0 S0 B0=>?_
 unfold m9 at H
 refine G (R 1 rfl (NS (G (R 1 rfl (NQ (Wb (Wl (ι:= {x:Nat×Int //fM a0 x.1 x.2=some r}) (fun x=>[(0, .d (.str a0)),(3, .d (.int .i64 x.1.2))]) (fun x=>[]) (fun x=>x.1.1) ⟨(fuel,1),H⟩ (Lm p2 tv) fun x=>?_)))))))
 obtain ⟨⟨k2,s1⟩,H⟩:=x
 rcases k2 with _ | k2
 ·exact aL H
 rw [fM] at H
 refine Ws (G (R 2 rfl (NQ (Wd rfl H (fun H=>?_) (fun H=>?_)))))
 ·refine Wk (Qn (Ws (Wb (G (R 1 rfl ?_)))))
  obtain ⟨x4,hx4,H⟩:=al H
  refine Cl [] (lr _ hx4) lu rfl tv rfl (R 2 rfl (NQ (Wd rfl H (fun H=>?_) (fun H=>?_))))
  ·refine G (R 2 rfl (NQ (Wt (QB.r (QT.r (QT.r (QB.r (QT.r ?_))))))))
   cases H
   exact Ea rfl rfl rfl tv
  refine Wk (Qb (Qn ?_))
  exact Wg (R 3 rfl (NQ (⟨⟨(k2,IntKind.i64.wrap (s1+1)),H⟩,Z,Lm p2 tv⟩)))
 refine WC.exit (Qx (Qx (Qh (Qn ?_))))
 refine G (R 1 rfl (NQ (Wt ?_)))
 cases H
 exact Ea rfl rfl rfl tv
theorem qY:aE Tryz.prog 61 Tryz.f61:=⟨Tryz.func61,rfl,by kernel_rfl⟩
theorem sG (a0:ByteArray) {r:aa×Bool} (H:pq a0=some r):LJ.Spec Tryz.prog 78 [.d (.str a0)] [] (.tup [.d (.agg [.int .i64 r.1.Kind, .int .i64 r.1.Obj, .int .i64 r.1.N]), .d (.bool r.2)]) []:=by
 refine LJ.Spec.code Tryz.func78 rfl 75 rfl rfl [] rfl fun w0 F0 S0 B0=>?_
 unfold pq at H
 refine G (Wa 102 tk rfl rfl rfl (R 1 rfl (N (R 1 rfl ?_))))
 obtain ⟨x1,hx1,H⟩:=al H
 refine Cl [] (er _ _ hx1) eu rfl tv rfl (R 7 rfl (N (R 1 rfl (Wa 107 tk rfl rfl rfl (Ef 0 rfl (NS (G (R 1 rfl (NQ (Wb (Wl (ι:= {x:Nat×(Int×Int) //fu x1 x.1 x.2=some r}) (fun x=>[(2, .ptr 102 0),(4, .d (.str x1.1)),(5, .d (.str x1.2.1)),(6, .d (.bool x1.2.2)),(7, .ptr 107 0),(8, .d (.int .i64 x.1.2.1))]) (fun x=>[(102, .box 80 [.d (.int .i64 0), .d (.int .i64 0), .d (.int .i64 0)]),(107, .box 80 [.d (.int .i64 x.1.2.2), .d (.int .i64 0), .d (.int .i64 0)])]) (fun x=>x.1.1) ⟨(fuel,(1,0)),H⟩ (Lm p6 p2) fun x=>?_)))))))))))
 obtain ⟨⟨k3,s2⟩,H⟩:=x
 rcases k3 with _ | k3
 ·exact aL H
 rw [fu] at H
 refine Ws (G (R 2 rfl (NQ (Wd rfl H (fun H=>?_) (fun H=>?_)))))
 ·refine Wk (Qn (Ws (Wb (G (R 2 rfl (Ef 126 rfl (WL.freezeT 126 aO ([(⟨s2.1,0,0⟩:aa)]:List aa) rfl rfl rfl rfl (Ef 127 rfl (WL.freezeT 127 ax ([([(⟨s2.1,0,0⟩:aa)]:List aa)]:List (List aa)) rfl rfl rfl rfl ?_)))))))))
  obtain ⟨x5,hx5,H⟩:=al H
  refine Cl [] (lv _ hx5) lx rfl tv rfl (R 1 rfl (N (R 2 rfl ?_)))
  obtain ⟨x6,hx6,H⟩:=al H
  refine Cl [] (ly _ _ hx6) lz rfl tv rfl ?_
  obtain ⟨g7,H⟩:=ah H
  refine RS 3 rfl ⟨(kH g7),tv⟩ (NQ (Wd rfl H (fun H=>?_) (fun H=>?_)))
  ·refine Wg (R 2 rfl (Ef 0 rfl (Wn (Qb (Qn ?_)))))
   exact Wg (R 3 rfl (NQ (⟨⟨(k3,(IntKind.i64.wrap (s2.1+1),s2.1)),H⟩,Z,Lm p6 p2⟩)))
  refine Wk (Qb (Qn ?_))
  exact Wg (R 3 rfl (NQ (⟨⟨(k3,(IntKind.i64.wrap (s2.1+1),s2.2)),H⟩,Z,Lm p6 p2⟩)))
 refine WC.exit (Qx (Qx (Qh (Qn ?_))))
 refine Ws (G (R 4 rfl (Wx 2 3 false tk sg0 rfl rfl (fun _=>tv) (RS 1 rfl ⟨by first | exact id | exact fun h=>by rw [h];rfl | simp_all,tv⟩ (NQ (Wd rfl H (fun H=>?_) (fun H=>?_)))))))
 ·refine G (R 1 rfl (Ef 0 rfl (R 1 rfl (NQ (Wt (QT.r ?_))))))
  cases H
  exact Ends.autoC tk rfl rfl rfl tv
 refine Wk (Qn (G (R 1 rfl ?_)))
 obtain ⟨x10,hx10,H⟩:=al H
 refine Cl [] (er _ _ hx10) eu rfl tv rfl (R 7 rfl (NS (G (R 5 rfl (NQ (Wd rfl H (fun H=>?_) (fun H=>?_)))))))
 ·refine G (R 1 rfl (Ef 0 rfl (R 1 rfl (NQ (Wt (QT.r ?_))))))
  cases H
  exact Ends.autoC tk rfl rfl rfl tv
 refine Wk (Qn (Ws (G (R 1 rfl ?_))))
 obtain ⟨x12,hx12,H⟩:=al H
 refine Cl [] (gD _ hx12) gG rfl tv rfl (R 4 rfl (Ef 0 rfl (R 1 rfl (N (R 2 rfl (Wx 1 1 true tk sg0 rfl rfl (fun _=>tv) (RS 1 rfl ⟨by first | exact id | exact fun h=>by rw [h];rfl | simp_all,tv⟩ (NQ (Wd rfl H (fun H=>?_) (fun H=>?_))))))))))
 ·refine Wg (R 1 rfl ?_)
  obtain ⟨x14,hx14,H⟩:=al H
  refine Cl [] (gD _ hx14) gG rfl tv rfl (R 4 rfl (Ef 0 rfl (R 1 rfl (N (R 2 rfl (Ef 0 rfl (R 1 rfl (NQ (Wt ?_)))))))))
  cases H
  exact Ends.autoC tk rfl rfl rfl tv
 refine Wk (Qn (G (R 2 rfl (Ef 0 rfl (R 1 rfl (NQ (Wt ?_)))))))
 cases H
 exact Ends.autoC tk rfl rfl rfl tv
theorem sH:aE Tryz.prog 78 Tryz.f78:=⟨Tryz.func78,rfl,by kernel_rfl⟩
theorem qZ (a0:ByteArray) {r:(List (List aa))×Bool} (H:na a0=some r):LJ.Spec Tryz.prog 63 [.d (.str a0)] [] (.tup [.d (slT ax r.1), .d (.bool r.2)]) []:=by
 refine LJ.Spec.code Tryz.func63 rfl 44 rfl rfl [] rfl fun w0 F0 S0 B0=>?_
 unfold na at H
 refine G (R 2 rfl (N (R 1 rfl (NS (G (R 1 rfl ?_))))))
 obtain ⟨x1,hx1,H⟩:=al H
 refine Cl [] (dw _ _ hx1) dx rfl tv rfl (R 2 rfl (NQ (Wb (WC.nilrow (t:=4) 1038 76 1 rfl rfl rfl (Wl (ι:= {x:Nat×(Int×(List (List aa))) //fN x1 x.1 x.2=some r}) (fun x=>[(4, .own 1038),(13, .d (slT bj x1)),(14, .d (.int .i64 (x1.length:Int))),(15, .d (.int .i64 x.1.2.1))]) (fun x=>[(1038, .row 76 1 (x.1.2.2.map ax))]) (fun x=>x.1.1) ⟨(fuel,(0,([]:List (List aa)))),H⟩ (Lm p4 p1) fun x=>?_)))))
 obtain ⟨⟨k4,s3⟩,H⟩:=x
 rcases k4 with _ | k4
 ·exact aL H
 rw [fN] at H
 refine G (R 1 rfl (NS (Wd rfl H (fun H=>?_) (fun H=>?_))))
 ·refine Wk (Qn ?_)
  obtain ⟨K6,hK6,H⟩:=dc H
  refine WC.cut (fun E m=>∃ s7:List (List aa),K6 s7=some r∧ga E m [(4, .own 1038),(13, .d (slT bj x1)),(14, .d (.int .i64 (x1.length:Int))),(15, .d (.int .i64 s3.1))] [(1038, .row 76 1 (s7.map ax))]) ?_ ?_
  ·refine Wb (G ?_)
   obtain ⟨g8,H⟩:=ah H
   refine RS 3 rfl ⟨⟨(an g8).1,(an g8).2,rfl⟩,tv⟩ (N (R 1 rfl (NS (G (R 1 rfl ?_)))))
   obtain ⟨x9,hx9,H⟩:=al H
   refine Cl [] (dw _ _ hx9) dx rfl tv rfl (R 2 rfl (NQ (Wb (WC.nilrow (t:=7) 1033 80 3 rfl rfl rfl (Wl (ι:= {x:Nat×(Int×(List aa)) //eT s3 K6 x9 x.1 x.2=some r}) (fun x=>[(4, .own 1038),(7, .own 1033),(13, .d (slT bj x1)),(14, .d (.int .i64 (x1.length:Int))),(15, .d (.int .i64 s3.1)),(20, .d (slT bj x9)),(21, .d (.int .i64 (x9.length:Int))),(22, .d (.int .i64 x.1.2.1))]) (fun x=>[(1033, .row 80 3 (x.1.2.2.map aO)),(1038, .row 76 1 (s3.2.map ax))]) (fun x=>x.1.1) ⟨(fuel,(0,([]:List aa))),H⟩ (Lm p8 p2) fun x=>?_)))))
   obtain ⟨⟨k12,s11⟩,H⟩:=x
   rcases k12 with _ | k12
   ·exact aL H
   rw [eT] at H
   refine G (R 1 rfl (NS (Wd rfl H (fun H=>?_) (fun H=>?_))))
   ·refine Wk (Qn (Ws (Wb (G ?_))))
    obtain ⟨g14,H⟩:=ah H
    refine RS 3 rfl ⟨⟨(an g14).1,(an g14).2,rfl⟩,tv⟩ (N (R 1 rfl ?_))
    obtain ⟨x15,hx15,H⟩:=al H
    refine Cl [] (sG _ hx15) sH rfl tv rfl (R 3 rfl (Wa 110 tk rfl rfl rfl (Ef 0 rfl (R 1 rfl (NS (G (R 2 rfl (NQ (Wd rfl H (fun H=>?_) (fun H=>?_))))))))))
    ·refine G (R 2 rfl (NQ (WC.nilT 2 ax rfl (Wt (QT.r (QB.r (QT.r (QT.r (QB.r (QT.r (QB.r (QT.r (QT.r (QB.r (QT.r ?_)))))))))))))))
     cases H
     exact Ea rfl rfl rfl tv
    refine Wk (Qn (Wg (R 2 rfl (Ef 135 rfl (WL.freezeT 135 aO ([x15.1]:List aa) rfl rfl rfl rfl ?_)))))
    obtain ⟨g17,H⟩:=ah H
    refine WL.appT aO s11.2 ([x15.1]:List aa) tk ek rfl rfl (fun _=>rfl) (fun _=>rfl) rfl rfl rfl rfl (bL g17) rfl rfl rfl rfl rfl ?_
    refine R 1 rfl (Wn (Qb (Qn ?_)))
    exact Wg (R 2 rfl (NQ (⟨⟨(k12,(IntKind.i64.wrap (s11.1+1),s11.2++([x15.1]:List aa))),H⟩,Z,Lm p8 p2⟩)))
   refine WC.exit (Qx (Qx (Qh (Qn ?_))))
   refine Wg (R 2 rfl (WL.freezeT 1033 aO s11.2 rfl rfl rfl rfl (Ef 140 rfl (WL.freezeT 140 ax ([s11.2]:List (List aa)) rfl rfl rfl rfl ?_))))
   obtain ⟨g18,H⟩:=ah H
   refine WL.appT ax s3.2 ([s11.2]:List (List aa)) tk ek rfl rfl (fun _=>rfl) (fun _=>rfl) rfl rfl rfl rfl (bL g18) rfl rfl rfl rfl rfl ?_
   refine R 1 rfl (Wn (Qb (Qn ?_)))
   exact ⟨s3.2++([s11.2]:List (List aa)),H,Lw q4 p1⟩
  ·rintro E m ⟨s7,H,hl⟩
   refine WC.lessW hl ?_
   replace H:=(hK6 _).symm.trans H
   try dsimp only at H
   exact Wg (R 2 rfl (NQ (⟨⟨(k4,(IntKind.i64.wrap (s3.1+1),s7)),H⟩,Z,Lm p4 p1⟩)))
 refine WC.exit (Qx (Qx (Qh (Qn ?_))))
 refine G (R 3 rfl (NQ (WC.freezeT 1038 ax s3.2 rfl rfl rfl rfl (Wt ?_))))
 cases H
 exact Ea rfl rfl rfl tv
theorem ra:aE Tryz.prog 63 Tryz.f63:=⟨Tryz.func63,rfl,by kernel_rfl⟩
theorem jD (a0:aW) (a1:ByteArray) {r:Bool×aW} (H:dv a0 a1=some r):LJ.Spec Tryz.prog 33 [.ptr 0 0, .d (.str a1)] [(0, .box 72 [.own 1, .own 2, .own 3]),(1, .row 44 3 (a0.p.Decls.map ai)),(2, .row 45 1 (a0.p.Waits.map ae)),(3, .rowl 49 3 2 (some 4) (a0.p.Funcs.map ak)),(4, .row 28 3 ((bK a0.p.Funcs).map aB))] (.d (.bool r.1)) [(1, .row 44 3 (r.2.p.Decls.map ai)),(2, .row 45 1 (r.2.p.Waits.map ae)),(3, .rowl 49 3 2 (some 4) (r.2.p.Funcs.map ak)),(4, .row 28 3 ((bK r.2.p.Funcs).map aB)),(0, .box 72 [.own 1, .own 2, .own 3])]:=by
 refine LJ.Spec.code Tryz.func33 rfl 145 rfl rfl [0] rfl fun w0 F0 S0 B0=>?_
 unfold dv at H
 refine G (R 1 rfl (NS (G (R 1 rfl ?_))))
 obtain ⟨x1,hx1,H⟩:=al H
 refine Cl [] (ik _ _ hx1) il rfl tv rfl (R 5 rfl (N (R 1 rfl (NQ (Wd rfl H (fun H=>?_) (fun H=>?_))))))
 ·refine G (R 2 rfl ?_)
  obtain ⟨x3,hx3,H⟩:=al H
  refine Cl [1,2,3,4] (fC 0 1 2 3 4 rfl _ _ hx3) fD rfl p5 rfl (R 1 rfl (NQ (Wt (QT.r ?_))))
  cases H
  exact Ea rfl rfl rfl p5
 refine Wk (Qn (G (R 1 rfl ?_)))
 obtain ⟨x4,hx4,H⟩:=al H
 refine Cl [] (er _ _ hx4) eu rfl tv rfl (R 7 rfl (N (R 1 rfl ?_)))
 obtain ⟨x5,hx5,H⟩:=al H
 refine Cl [] (dw _ _ hx5) dx rfl tv rfl (R 1 rfl (NS (G (R 1 rfl (NQ (Wb (G (R 2 rfl (NQ (Wd rfl H (fun H=>?_) (fun H=>?_)))))))))))
 ·refine G ?_
  obtain ⟨g7,H⟩:=ah H
  refine RS 3 rfl ⟨⟨(an g7).1,(an g7).2,rfl⟩,tv⟩ ?_
  obtain ⟨x8,hx8,H⟩:=al H
  refine Cl [] (qX _ hx8) qY rfl tv rfl (R 1 rfl (Wa 111 tk rfl rfl rfl (Ef 0 rfl (NQ (Ws ?_)))))
  obtain ⟨g9_1_1,H⟩:=ah H
  obtain ⟨x9_4_1,hx9_4_1,H⟩:=al H
  obtain ⟨x9_5_1,hx9_5_1,H⟩:=al H
  refine WC.heldF [(0, .ptr 0 0),(11, .ptr 111 0),(12, .ptr 112 0),(13, .d (.bool x9_5_1.2))] [(0, .box 72 [.own 1, .own 2, .own 3]),(1, .row 44 3 (a0.p.Decls.map ai)),(2, .row 45 1 (a0.p.Waits.map ae)),(3, .rowl 49 3 2 (some 4) (a0.p.Funcs.map ak)),(4, .row 28 3 ((bK a0.p.Funcs).map aB)),(111, .box 44 [.d (.int .i64 x8), .d (.int .i64 0), .d (.int .i64 0)]),(112, .box 89 [.d (.int .i64 (x9_5_1.1.getD 0 default)), .d (.int .i64 (x9_5_1.1.getD 1 default))])] (sT 0 (sT 1 (sT 2 (sT 3 (fk (sf 4 (fk (sf 5 (sT 6 (fk (sf 7 (fk (sf 8 (sf 9 (sf 10 (sT 11 sd)))) (sf 9 (fk (sf 8 (sf 10 (sT 11 sd))) (sf 10 (sf 8 (sT 11 sd))))))) (fk (sf 8 (fk (sf 7 (sf 9 (sf 10 (sT 11 sd)))) (sf 9 (sf 7 (sf 10 (sT 11 sd)))))) (sf 9 (fk (sf 7 (fk (sf 8 (sf 10 (sT 11 sd))) (sf 10 (sf 8 (sT 11 sd))))) (sf 8 (sf 7 (sf 10 (sT 11 sd)))))))))) (sf 9 (sf 5 (sT 6 (fk (sf 7 (fk (sf 8 (sf 10 (sT 11 sd))) (sf 10 (sf 8 (sT 11 sd))))) (sf 8 (sf 7 (sf 10 (sT 11 sd)))))))))) (sf 9 (sf 4 (sf 5 (sT 6 (fk (sf 7 (fk (sf 8 (sf 10 (sT 11 sd))) (sf 10 (sf 8 (sT 11 sd))))) (sf 8 (sf 7 (sf 10 (sT 11 sd)))))))))))))) [0,1,2,3,111,1000001,1000002,1000003] [0,111,1,2,3] rfl (by kernel_rfl) rfl (by kernel_rfl) rfl rfl (fun _ h=>h) rfl rfl rfl (fun FK NK wK K=>?_) ?_
  ·refine Hr 1 tk rfl rfl rfl rfl tv (WH.yv rfl (LJ.Y.sliceT bj x5 tk rfl (fun _=>rfl) (some (.const (.int .i64 1))) none (1:Int) (x5.length:Int) rfl ⟨_,rfl⟩ rfl rfl rfl (kI g9_1_1)) rfl rfl rfl (Hr 2 tk rfl rfl rfl rfl tv (WH.fork ?_ ?_)))
   ·refine WH.call [] rfl (ig _ hx9_4_1) ij rfl rfl tv rfl rfl rfl rfl rfl (WH.fork ?_ ?_)
    ·refine WH.call [] rfl (eL _ _ hx9_5_1) eN rfl rfl tv rfl rfl rfl rfl rfl (WH.mv rfl rfl rfl rfl rfl rfl rfl rfl rfl (WH.fork ?_ (WH.fork ?_ ?_)))
     ·refine WH.val tk rfl rfl rfl rfl rfl tv rfl rfl (WH.fork ?_ ?_)
      ·exact WH.val tk rfl rfl rfl rfl rfl tv rfl rfl (WH.allocZ 112 [.int .i64 0, .int .i64 0] rfl rfl (by kernel_rfl) rfl rfl rfl rfl rfl rfl (He 0 tk ek rfl rfl rfl rfl tv rfl rfl (Hr 1 tk rfl rfl rfl rfl tv (Hn rfl (Lw q4 p7)))))
      ·refine WH.allocZ 112 [.int .i64 0, .int .i64 0] rfl rfl (by kernel_rfl) rfl rfl rfl rfl rfl rfl (WH.fork ?_ ?_)
       ·exact WH.val tk rfl rfl rfl rfl rfl tv rfl rfl (He 0 tk ek rfl rfl rfl rfl tv rfl rfl (Hr 1 tk rfl rfl rfl rfl tv (Hn rfl (Lw q4 p7))))
       ·exact He 0 tk ek rfl rfl rfl rfl tv rfl rfl (WH.val tk rfl rfl rfl rfl rfl tv rfl rfl (Hr 1 tk rfl rfl rfl rfl tv (Hn rfl (Lw q4 p7))))
     ·refine WH.val tk rfl rfl rfl rfl rfl tv rfl rfl (WH.fork ?_ ?_)
      ·exact WH.val tk rfl rfl rfl rfl rfl tv rfl rfl (WH.allocZ 112 [.int .i64 0, .int .i64 0] rfl rfl (by kernel_rfl) rfl rfl rfl rfl rfl rfl (He 0 tk ek rfl rfl rfl rfl tv rfl rfl (Hr 1 tk rfl rfl rfl rfl tv (Hn rfl (Lw q4 p7)))))
      ·exact WH.allocZ 112 [.int .i64 0, .int .i64 0] rfl rfl (by kernel_rfl) rfl rfl rfl rfl rfl rfl (WH.val tk rfl rfl rfl rfl rfl tv rfl rfl (He 0 tk ek rfl rfl rfl rfl tv rfl rfl (Hr 1 tk rfl rfl rfl rfl tv (Hn rfl (Lw q4 p7)))))
     ·refine WH.allocZ 112 [.int .i64 0, .int .i64 0] rfl rfl (by kernel_rfl) rfl rfl rfl rfl rfl rfl (WH.fork ?_ ?_)
      ·refine WH.val tk rfl rfl rfl rfl rfl tv rfl rfl (WH.fork ?_ ?_)
       ·exact WH.val tk rfl rfl rfl rfl rfl tv rfl rfl (He 0 tk ek rfl rfl rfl rfl tv rfl rfl (Hr 1 tk rfl rfl rfl rfl tv (Hn rfl (Lw q4 p7))))
       ·exact He 0 tk ek rfl rfl rfl rfl tv rfl rfl (WH.val tk rfl rfl rfl rfl rfl tv rfl rfl (Hr 1 tk rfl rfl rfl rfl tv (Hn rfl (Lw q4 p7))))
      ·exact WH.val tk rfl rfl rfl rfl rfl tv rfl rfl (WH.val tk rfl rfl rfl rfl rfl tv rfl rfl (He 0 tk ek rfl rfl rfl rfl tv rfl rfl (Hr 1 tk rfl rfl rfl rfl tv (Hn rfl (Lw q4 p7)))))
    ·refine WH.allocZ 112 [.int .i64 0, .int .i64 0] rfl rfl (by kernel_rfl) rfl rfl rfl rfl rfl rfl (WH.call [] rfl (eL _ _ hx9_5_1) eN rfl rfl tv rfl rfl rfl rfl rfl (WH.mv rfl rfl rfl rfl rfl rfl rfl rfl rfl (WH.fork ?_ ?_)))
     ·refine WH.val tk rfl rfl rfl rfl rfl tv rfl rfl (WH.fork ?_ ?_)
      ·exact WH.val tk rfl rfl rfl rfl rfl tv rfl rfl (He 0 tk ek rfl rfl rfl rfl tv rfl rfl (Hr 1 tk rfl rfl rfl rfl tv (Hn rfl (Lw q4 p7))))
      ·exact He 0 tk ek rfl rfl rfl rfl tv rfl rfl (WH.val tk rfl rfl rfl rfl rfl tv rfl rfl (Hr 1 tk rfl rfl rfl rfl tv (Hn rfl (Lw q4 p7))))
     ·exact WH.val tk rfl rfl rfl rfl rfl tv rfl rfl (WH.val tk rfl rfl rfl rfl rfl tv rfl rfl (He 0 tk ek rfl rfl rfl rfl tv rfl rfl (Hr 1 tk rfl rfl rfl rfl tv (Hn rfl (Lw q4 p7)))))
   ·refine WH.allocZ 112 [.int .i64 0, .int .i64 0] rfl rfl (by kernel_rfl) rfl rfl rfl rfl rfl rfl (WH.call [] rfl (ig _ hx9_4_1) ij rfl rfl tv rfl rfl rfl rfl rfl (WH.call [] rfl (eL _ _ hx9_5_1) eN rfl rfl tv rfl rfl rfl rfl rfl (WH.mv rfl rfl rfl rfl rfl rfl rfl rfl rfl (WH.fork ?_ ?_))))
    ·refine WH.val tk rfl rfl rfl rfl rfl tv rfl rfl (WH.fork ?_ ?_)
     ·exact WH.val tk rfl rfl rfl rfl rfl tv rfl rfl (He 0 tk ek rfl rfl rfl rfl tv rfl rfl (Hr 1 tk rfl rfl rfl rfl tv (Hn rfl (Lw q4 p7))))
     ·exact He 0 tk ek rfl rfl rfl rfl tv rfl rfl (WH.val tk rfl rfl rfl rfl rfl tv rfl rfl (Hr 1 tk rfl rfl rfl rfl tv (Hn rfl (Lw q4 p7))))
    ·exact WH.val tk rfl rfl rfl rfl rfl tv rfl rfl (WH.val tk rfl rfl rfl rfl rfl tv rfl rfl (He 0 tk ek rfl rfl rfl rfl tv rfl rfl (Hr 1 tk rfl rfl rfl rfl tv (Hn rfl (Lw q4 p7)))))
  ·refine Qn (Ws (Hp (.one 0 true (.one 1 true (.one 2 true (.one 3 true (.one 4 true (.one 5 false (.one 6 true (.one 7 false .done)))))))) [0,1,2,3,111,112,1000001,1000002,1000003] [0,112,1,2,3] rfl (by kernel_rfl) rfl (by kernel_rfl) rfl rfl (fun _ h=>h) rfl rfl rfl (fun _ _ _ h=>h) fun FK NK wK K=>?_))
   obtain ⟨g9,H⟩:=ah H
   refine WH.yv rfl (LJ.Y.idxPtrA 2 (0:Int) (by kernel_rfl) rfl rfl rfl (an g9)) rfl rfl rfl (WH.yv rfl (LJ.Y.loadPtrA 2 0 (fun k=> .int .i64 (x9_5_1.1.getD k default)) (0:Int) rfl rfl rfl (by kernel_rfl) rfl (an g9)) rfl rfl rfl ?_)
   obtain ⟨g10,H⟩:=ah H
   refine WH.yv rfl (LJ.Y.idxPtrA 2 (1:Int) (by kernel_rfl) rfl rfl rfl (an g10)) rfl rfl rfl (WH.yv rfl (LJ.Y.loadPtrA 2 0 (fun k=> .int .i64 (x9_5_1.1.getD k default)) (1:Int) rfl rfl rfl (by kernel_rfl) rfl (an g10)) rfl rfl rfl (Hr 1 tk rfl rfl rfl rfl tv (He 0 tk ek rfl rfl rfl rfl tv rfl rfl (Hr 1 tk rfl rfl rfl rfl tv (He 0 tk ek rfl rfl rfl rfl tv rfl rfl (WH.nil rfl (Qn (Ws ?_))))))))
   obtain ⟨g11_8_1,H⟩:=ah H
   refine WC.heldF [(0, .ptr 0 0),(11, .ptr 111 0),(13, .d (.bool x9_5_1.2))] [(0, .box 72 [.own 1, .own 2, .own 3]),(1, .row 44 3 ((a0.p.Decls++([(⟨x8,(x9_5_1.1.getD (0:Int).toNat default),(x9_5_1.1.getD (1:Int).toNat default)⟩:ab)]:List ab)).map ai)),(2, .row 45 1 (a0.p.Waits.map ae)),(3, .rowl 49 3 2 (some 4) (a0.p.Funcs.map ak)),(4, .row 28 3 ((bK a0.p.Funcs).map aB)),(111, .box 44 [.d (.int .i64 x8), .d (.int .i64 (x9_5_1.1.getD (0:Int).toNat default)), .d (.int .i64 (x9_5_1.1.getD (1:Int).toNat default))])] (sT 0 (sT 1 (sT 2 (sT 3 (sT 4 (sT 6 (fk (sf 5 (sf 7 (sf 8 (sT 9 (sT 10 (sT 11 (sf 12 sd))))))) (sf 7 (sf 5 (sf 8 (sT 9 (sT 10 (sT 11 (sf 12 sd)))))))))))))) [0,2,3,111,112,1000002,1000003] [111,112,2,3] rfl (by kernel_rfl) rfl (by kernel_rfl) rfl rfl (fun _ h=>h) rfl rfl rfl (fun FK NK wK K=>?_) ?_
   ·refine Hr 6 tk rfl rfl rfl rfl tv (WH.fork ?_ ?_)
    ·refine WH.val tk rfl rfl rfl rfl rfl tv rfl rfl (He 165 tk ek rfl rfl rfl rfl tv rfl rfl (WH.freezeT 165 ai ([(⟨x8,(x9_5_1.1.getD (0:Int).toNat default),(x9_5_1.1.getD (1:Int).toNat default)⟩:ab)]:List ab) rfl rfl rfl rfl (WH.appT ai a0.p.Decls ([(⟨x8,(x9_5_1.1.getD (0:Int).toNat default),(x9_5_1.1.getD (1:Int).toNat default)⟩:ab)]:List ab) tk ek rfl rfl (fun _=>rfl) (fun _=>rfl) rfl rfl rfl rfl rfl (bL g11_8_1) rfl rfl rfl rfl rfl rfl rfl ?_)))
     exact Hr 3 tk rfl rfl rfl rfl tv (He 0 tk ek rfl rfl rfl rfl tv rfl rfl (Hn rfl (Lw q3 p6)))
    ·refine He 165 tk ek rfl rfl rfl rfl tv rfl rfl (WH.freezeT 165 ai ([(⟨x8,(x9_5_1.1.getD (0:Int).toNat default),(x9_5_1.1.getD (1:Int).toNat default)⟩:ab)]:List ab) rfl rfl rfl rfl (WH.val tk rfl rfl rfl rfl rfl tv rfl rfl (WH.appT ai a0.p.Decls ([(⟨x8,(x9_5_1.1.getD (0:Int).toNat default),(x9_5_1.1.getD (1:Int).toNat default)⟩:ab)]:List ab) tk ek rfl rfl (fun _=>rfl) (fun _=>rfl) rfl rfl rfl rfl rfl (bL g11_8_1) rfl rfl rfl rfl rfl rfl rfl ?_)))
     exact Hr 3 tk rfl rfl rfl rfl tv (He 0 tk ek rfl rfl rfl rfl tv rfl rfl (Hn rfl (Lw q3 p6)))
   ·refine Qn (Ws (Hp (.one 0 true (.one 1 true (.one 2 true (.one 3 true (.one 4 true (.one 5 true (.one 6 true (.one 7 true (.one 8 true (.one 9 true (.one 10 true (.one 11 true (.one 12 true (.one 13 true (.one 14 true (.one 15 true (.one 16 true (.one 17 true (.one 18 true (.one 19 true (.one 20 true (.one 21 true (.one 22 true .done))))))))))))))))))))))) [0,1,2,3,111,1000001,1000002,1000003] [0,111,1,2,3] rfl (by kernel_rfl) rfl (by kernel_rfl) rfl rfl (fun _ h=>h) rfl rfl rfl (fun _ _ _ h=>h) fun FK NK wK K=>(Hr 2 tk rfl rfl rfl rfl tv (WH.sect 3 1 true tk rfl rfl rfl rfl (fun _=>tv) (Hr 2 tk rfl rfl rfl rfl ⟨by first | exact id | exact fun h=>by rw [h];rfl | simp_all,tv⟩ (WH.sect 14 6 true tk rfl rfl rfl rfl (fun _=>tv) (Hr 2 tk rfl rfl rfl rfl ⟨by first | exact id | exact fun h=>by rw [h];rfl | simp_all,tv⟩ (WH.nil rfl (Qn (Wt (QB.r (QT.r ?_))))))))))))
    cases H
    exact Ea rfl rfl rfl p5
 refine G (R 2 rfl (NQ (Wd rfl H (fun H=>?_) (fun H=>?_))))
 ·refine G (R 1 rfl ?_)
  obtain ⟨x12,hx12,H⟩:=al H
  refine Cl [] (qZ _ hx12) ra rfl tv rfl (R 5 rfl (N (R 7 rfl (Ef 206 rfl (WL.freezeT 206 ae ([x12.1]:List (List (List aa))) rfl rfl rfl rfl ?_)))))
  obtain ⟨g13,H⟩:=ah H
  refine WL.appT ae a0.p.Waits ([x12.1]:List (List (List aa))) tk ek rfl rfl (fun _=>rfl) (fun _=>rfl) rfl rfl rfl rfl (bL g13) rfl rfl rfl rfl rfl ?_
  refine R 3 rfl (Ef 0 rfl (N (R 2 rfl (Wx 7 1 true tk sg0 rfl rfl (fun _=>tv) (RS 2 rfl ⟨by first | exact id | exact fun h=>by rw [h];rfl | simp_all,tv⟩ (NQ (Wt (QB.r (QT.r ?_)))))))))
  cases H
  exact Ea rfl rfl rfl p5
 refine G (R 2 rfl (NQ (Wd rfl H (fun H=>?_) (fun H=>?_))))
 ·refine G (R 1 rfl ?_)
  obtain ⟨x15,hx15,H⟩:=al H
  refine Cl [] (eL _ _ hx15) eN rfl tv rfl (R 3 rfl (WL.allocZ 116 [.int .i64 0, .int .i64 0] rfl (by kernel_rfl) rfl rfl rfl rfl (Ef 0 rfl (R 1 rfl (NQ (Ws ?_))))))
  obtain ⟨g19_6_1,H⟩:=ah H
  obtain ⟨g19_8_1,H⟩:=ah H
  obtain ⟨g19_12_1,H⟩:=ah H
  refine WC.heldF [(17, .d (.bool x15.2))] [(0, .box 72 [.own 1, .own 2, .own 3]),(1, .row 44 3 (a0.p.Decls.map ai)),(2, .row 45 1 (a0.p.Waits.map ae)),(3, .rowl 49 3 2 (some 4) ((a0.p.Funcs++[(⟨(x15.1.getD (0:Int).toNat default),(x15.1.getD (1:Int).toNat default),[]⟩:au)]).map ak)),(4, .row 28 3 ((bK (a0.p.Funcs++[(⟨(x15.1.getD (0:Int).toNat default),(x15.1.getD (1:Int).toNat default),[]⟩:au)])).map aB))] (sT 0 (sT 1 (sT 2 (sT 3 (sT 4 (sT 6 (sT 7 (sT 8 (sT 9 (sT 10 (fk (sf 5 (sf 11 (sf 12 (sT 13 (sT 14 (sT 15 (sf 16 sd))))))) (sf 11 (sf 5 (sf 12 (sT 13 (sT 14 (sT 15 (sf 16 sd)))))))))))))))))) [0,1,2,116,1000001,1000002] [116,1,2] rfl (by kernel_rfl) rfl (by kernel_rfl) rfl rfl (fun _ h=>h) rfl rfl rfl (fun FK NK wK K=>?_) ?_
  ·refine Hr 5 tk rfl rfl rfl rfl tv (WH.yv rfl (LJ.Y.idxPtrA 2 (0:Int) (by kernel_rfl) rfl rfl rfl (an g19_6_1)) rfl rfl rfl (WH.yv rfl (LJ.Y.loadPtrA 2 0 (fun k=> .int .i64 (x15.1.getD k default)) (0:Int) rfl rfl rfl (by kernel_rfl) rfl (an g19_6_1)) rfl rfl rfl (WH.yv rfl (LJ.Y.idxPtrA 2 (1:Int) (by kernel_rfl) rfl rfl rfl (an g19_8_1)) rfl rfl rfl (WH.yv rfl (LJ.Y.loadPtrA 2 0 (fun k=> .int .i64 (x15.1.getD k default)) (1:Int) rfl rfl rfl (by kernel_rfl) rfl (an g19_8_1)) rfl rfl rfl (Hr 1 tk rfl rfl rfl rfl tv (WH.fork ?_ ?_))))))
   ·refine WH.val tk rfl rfl rfl rfl rfl tv rfl rfl (He 239 tk ek rfl rfl rfl rfl tv rfl rfl (WH.freezeL 3 4 ak a0.p.Funcs aB (bK a0.p.Funcs) rfl rfl rfl rfl (fun _=>rfl) rfl (fun _=>rfl) rfl rfl rfl ?_))
    refine He 0 tk ek rfl rfl rfl rfl (l8 rfl rfl (bL g19_12_1)) rfl rfl (Hr 3 tk rfl rfl rfl rfl tv (He 0 tk ek rfl rfl rfl rfl tv rfl rfl (WH.toRowl ak a0.p.Funcs (⟨(x15.1.getD (0:Int).toNat default),(x15.1.getD (1:Int).toNat default),[]⟩:au) [.int .i64 (x15.1.getD (0:Int).toNat default), .int .i64 (x15.1.getD (1:Int).toNat default), .nils] 3 4 (k:=2) (ei:=28) (szi:=3) rfl rfl (fun _=>rfl) rfl rfl rfl rfl rfl rfl rfl ?_)))
    exact WH.row 4 ((bK (a0.p.Funcs++[(⟨(x15.1.getD (0:Int).toNat default),(x15.1.getD (1:Int).toNat default),[]⟩:au)])).map aB) rfl (congrArg (List.map aB) (oq (L:=a0.p.Funcs) (x:=(⟨(x15.1.getD (0:Int).toNat default),(x15.1.getD (1:Int).toNat default),[]⟩:au))).symm) rfl (Hn rfl (Lw q1 p5))
   ·refine He 239 tk ek rfl rfl rfl rfl tv rfl rfl (WH.val tk rfl rfl rfl rfl rfl tv rfl rfl (WH.freezeL 3 4 ak a0.p.Funcs aB (bK a0.p.Funcs) rfl rfl rfl rfl (fun _=>rfl) rfl (fun _=>rfl) rfl rfl rfl ?_))
    refine He 0 tk ek rfl rfl rfl rfl (l8 rfl rfl (bL g19_12_1)) rfl rfl (Hr 3 tk rfl rfl rfl rfl tv (He 0 tk ek rfl rfl rfl rfl tv rfl rfl (WH.toRowl ak a0.p.Funcs (⟨(x15.1.getD (0:Int).toNat default),(x15.1.getD (1:Int).toNat default),[]⟩:au) [.int .i64 (x15.1.getD (0:Int).toNat default), .int .i64 (x15.1.getD (1:Int).toNat default), .nils] 3 4 (k:=2) (ei:=28) (szi:=3) rfl rfl (fun _=>rfl) rfl rfl rfl rfl rfl rfl rfl ?_)))
    exact WH.row 4 ((bK (a0.p.Funcs++[(⟨(x15.1.getD (0:Int).toNat default),(x15.1.getD (1:Int).toNat default),[]⟩:au)])).map aB) rfl (congrArg (List.map aB) (oq (L:=a0.p.Funcs) (x:=(⟨(x15.1.getD (0:Int).toNat default),(x15.1.getD (1:Int).toNat default),[]⟩:au))).symm) rfl (Hn rfl (Lw q1 p5))
  ·refine Qn (G (R 2 rfl (NQ (Wt (QB.r (QT.r ?_))))))
   cases H
   exact Ea rfl rfl rfl p5
 refine Wk (Qb (Qn ?_))
 refine G (R 1 rfl (NQ (Wt ?_)))
 cases H
 exact Ea rfl rfl rfl p5
theorem jE (n0 n1 n2 n3 n4:Nat) (hn:gU [n0,n1,n2,n3,n4]=true) (a0:aW) (a1:ByteArray) {r:Bool×aW} (H:dv a0 a1=some r):LJ.Spec Tryz.prog 33 [.ptr n0 0, .d (.str a1)] [(n0, .box 72 [.own n1, .own n2, .own n3]),(n1, .row 44 3 (a0.p.Decls.map ai)),(n2, .row 45 1 (a0.p.Waits.map ae)),(n3, .rowl 49 3 2 (some n4) (a0.p.Funcs.map ak)),(n4, .row 28 3 ((bK a0.p.Funcs).map aB))] (.d (.bool r.1)) [(n1, .row 44 3 (r.2.p.Decls.map ai)),(n2, .row 45 1 (r.2.p.Waits.map ae)),(n3, .rowl 49 3 2 (some n4) (r.2.p.Funcs.map ak)),(n4, .row 28 3 ((bK r.2.p.Funcs).map aB)),(n0, .box 72 [.own n1, .own n2, .own n3])]:=
 Spec.names [n0,n1,n2,n3,n4] hn rfl rfl (jD a0 a1 H)
theorem jF:aE Tryz.prog 33 Tryz.f33:=⟨Tryz.func33,rfl,by kernel_rfl⟩
theorem lA (a0:ByteArray) {r:af×Int×Int} (H:fv a0=some r):LJ.Spec Tryz.prog 13 [.d (.str a0)] [] (.tup [.d (.agg [slT ai r.1.Decls,slT ae r.1.Waits,slT ak r.1.Funcs]), .d (.int .i64 r.2.1), .d (.int .i64 r.2.2)]) []:=by
 refine LJ.Spec.code Tryz.func13 rfl 51 rfl rfl [] rfl fun w0 F0 S0 B0=>?_
 unfold fv at H
 refine G (Wa 102 tk rfl rfl rfl (R 2 rfl (NS (G (R 3 rfl (NQ (Wd rfl H (fun H=>?_) (fun H=>?_))))))))
 ·refine G (R 1 rfl (Ef 0 rfl (R 2 rfl (NQ (WC.nilF 102 0 6020 44 3 rfl (WC.row 6020 (([]:List ab).map ai) rfl rfl rfl (WC.nilF 102 1 6021 45 1 rfl (WC.row 6021 (([]:List (List (List aa))).map ae) rfl rfl rfl (WC.nilF 102 2 6022 49 3 rfl (WC.row 6022 (([]:List au).map ak) rfl rfl rfl (WC.freezeT 6020 ai ([]:List ab) rfl rfl rfl rfl (WC.freezeT 6021 ae ([]:List (List (List aa))) rfl rfl rfl rfl (WC.freezeT 6022 ak ([]:List au) rfl rfl rfl rfl (Wt (QT.r ?_)))))))))))))))
  cases H
  exact Ends.autoC tk rfl rfl rfl tv
 refine Wk (Qn (G (R 1 rfl (Ef 116 rfl (WL.nilF 116 0 4160 44 3 rfl (WL.row 4160 (([]:List ab).map ai) rfl rfl rfl (WL.nilF 116 1 4161 45 1 rfl (WL.row 4161 (([]:List (List (List aa))).map ae) rfl rfl rfl (WL.nilF 116 2 4162 49 3 rfl (WL.toRowl0 ak 4162 7162 (k:=2) (ei:=28) (szi:=3) rfl rfl rfl rfl rfl rfl rfl rfl ?_))))))))))
 refine WL.row 7162 ((bK ([]:List au)).map aB) rfl rfl rfl (R 2 rfl (NQ ?_))
 obtain ⟨K2,hK2,H⟩:=dc H
 refine WC.cut (fun E m=>∃ s3:(List ab)×(List (List (List aa)))×(List au),K2 s3=some r∧ga E m [(2, .ptr 102 0),(5, .ptr 116 0)] [(102, .box 26 [.d (.nils), .d (.nils), .d (.nils)]),(116, .box 72 [.own 4160, .own 4161, .own 4162]),(4160, .row 44 3 (s3.1.map ai)),(4161, .row 45 1 (s3.2.1.map ae)),(4162, .rowl 49 3 2 (some 7162) (s3.2.2.map ak)),(7162, .row 28 3 ((bK s3.2.2).map aB))]) ?_ ?_
 ·refine Wb (Wl (ι:= {x:Nat×(ByteArray×Int×(List ab)×(List (List (List aa)))×(List au)) //eU K2 x.1 x.2=some r}) (fun x=>[(0, .d (.str x.1.2.1)),(2, .ptr 102 0),(5, .ptr 116 0),(6, .d (.int .i64 x.1.2.2.1))]) (fun x=>[(102, .box 26 [.d (.nils), .d (.nils), .d (.nils)]),(116, .box 72 [.own 4160, .own 4161, .own 4162]),(4160, .row 44 3 (x.1.2.2.2.1.map ai)),(4161, .row 45 1 (x.1.2.2.2.2.1.map ae)),(4162, .rowl 49 3 2 (some 7162) (x.1.2.2.2.2.2.map ak)),(7162, .row 28 3 ((bK x.1.2.2.2.2.2).map aB))]) (fun x=>x.1.1) ⟨(fuel,(a0,0,([]:List ab),([]:List (List (List aa))),([]:List au))),H⟩ (Lm p4 p6) fun x=>?_)
  obtain ⟨⟨k5,s4⟩,H⟩:=x
  rcases k5 with _ | k5
  ·exact aL H
  rw [eU] at H
  refine Ws (G (R 2 rfl (NQ (Wd rfl H (fun H=>?_) (fun H=>?_)))))
  ·refine Wk (Qn (Wb (G (R 1 rfl ?_))))
   obtain ⟨x7,hx7,H⟩:=al H
   refine Cl [] (er _ _ hx7) eu rfl tv rfl (R 7 rfl (N (R 3 rfl (NS (G (R 3 rfl (WL.split (g:=29) rfl (fun h8=>?_) (fun h8=>?_))))))))
   ·replace H:=of_t H h8
    refine WL.gskips 4 2 false 29 rfl rfl rfl rfl (WL.pickT rfl rfl rfl rfl rfl rfl (NQ (Wc rfl (fun h=>?_) (fun h=>absurd h (by decide)))))
    refine G (R 2 rfl (Ef 0 rfl (R 2 rfl (NQ (WC.nilF 102 0 6020 44 3 rfl (WC.row 6020 (([]:List ab).map ai) rfl rfl rfl (WC.nilF 102 1 6021 45 1 rfl (WC.row 6021 (([]:List (List (List aa))).map ae) rfl rfl rfl (WC.nilF 102 2 6022 49 3 rfl (WC.row 6022 (([]:List au).map ak) rfl rfl rfl (WC.freezeT 6020 ai ([]:List ab) rfl rfl rfl rfl (WC.freezeT 6021 ae ([]:List (List (List aa))) rfl rfl rfl rfl (WC.freezeT 6022 ak ([]:List au) rfl rfl rfl rfl (Wt (QT.r (QB.r (QT.r (QB.r (QT.r ?_)))))))))))))))))))
    cases H
    exact Ends.autoC tk rfl rfl rfl tv
   ·replace H:=of_f H h8
    refine WL.grun 2 2 false 29 tk sg0 rfl rfl rfl rfl tv ?_
    obtain ⟨x9,hx9,H⟩:=al H
    refine WL.gcall [4160,4161,4162,7162] (jE 116 4160 4161 4162 7162 rfl _ _ hx9) jF rfl rfl p5 rfl rfl rfl rfl rfl rfl (WL.grun 1 2 false 29 tk sg0 rfl rfl rfl rfl tv (WL.pickF rfl rfl rfl rfl rfl rfl (NQ (Wd rfl H (fun H=>?_) (fun H=>?_)))))
    ·refine G (R 2 rfl (Ef 0 rfl (R 2 rfl (NQ (WC.nilF 102 0 6020 44 3 rfl (WC.row 6020 (([]:List ab).map ai) rfl rfl rfl (WC.nilF 102 1 6021 45 1 rfl (WC.row 6021 (([]:List (List (List aa))).map ae) rfl rfl rfl (WC.nilF 102 2 6022 49 3 rfl (WC.row 6022 (([]:List au).map ak) rfl rfl rfl (WC.freezeT 6020 ai ([]:List ab) rfl rfl rfl rfl (WC.freezeT 6021 ae ([]:List (List (List aa))) rfl rfl rfl rfl (WC.freezeT 6022 ak ([]:List au) rfl rfl rfl rfl (Wt (QT.r (QB.r (QT.r (QB.r (QT.r ?_)))))))))))))))))))
     cases H
     exact Ends.autoC tk rfl rfl rfl tv
    refine Wk (Qn (Wg (R 2 rfl (Wn (Qb (Qn ?_))))))
    exact ⟨⟨(k5,(x7.2.1,IntKind.i64.wrap (s4.2.1+1),x9.2.p.Decls,x9.2.p.Waits,x9.2.p.Funcs)),H⟩,Z,Lm p4 p6⟩
  refine WC.exit (Qx (Qx (Qh (Qn ?_))))
  exact ⟨(s4.2.2.1,s4.2.2.2.1,s4.2.2.2.2),H,Lw q2 p6⟩
 ·rintro E m ⟨s3,H,hl⟩
  refine WC.lessW hl ?_
  replace H:=(hK2 _).symm.trans H
  try dsimp only at H
  refine Ws (G (R 3 rfl (WL.freezeT 4160 ai s3.1 rfl rfl rfl rfl (WL.freezeT 4161 ae s3.2.1 rfl rfl rfl rfl (WL.freezeL 4162 7162 ak s3.2.2 aB (bK s3.2.2) rfl rfl rfl rfl (fun _=>rfl) rfl (fun _=>rfl) rfl rfl rfl ?_)))))
  refine WL.freezeT 4162 ak s3.2.2 rfl rfl rfl rfl (R 1 rfl ?_)
  obtain ⟨x11,hx11,H⟩:=al H
  refine Cl [] (jX _ hx11) jY rfl tv rfl (R 1 rfl (N (R 2 rfl (NQ (Wd rfl H (fun H=>?_) (fun H=>?_))))))
  ·refine G (R 2 rfl (Ef 0 rfl (R 2 rfl (NQ (WC.nilF 102 0 6020 44 3 rfl (WC.row 6020 (([]:List ab).map ai) rfl rfl rfl (WC.nilF 102 1 6021 45 1 rfl (WC.row 6021 (([]:List (List (List aa))).map ae) rfl rfl rfl (WC.nilF 102 2 6022 49 3 rfl (WC.row 6022 (([]:List au).map ak) rfl rfl rfl (WC.freezeT 6020 ai ([]:List ab) rfl rfl rfl rfl (WC.freezeT 6021 ae ([]:List (List (List aa))) rfl rfl rfl rfl (WC.freezeT 6022 ak ([]:List au) rfl rfl rfl rfl (Wt (QT.r ?_)))))))))))))))
   cases H
   exact Ends.autoC tk rfl rfl rfl tv
  refine Wk (Qn (G (R 4 rfl (Ef 0 rfl (R 2 rfl (NQ (Wt ?_)))))))
  cases H
  exact Ends.autoC tk rfl rfl rfl tv
theorem lB:aE Tryz.prog 13 Tryz.f13:=⟨Tryz.func13,rfl,by kernel_rfl⟩
theorem nL {r:Bool} (H:cL=some r):LJ.Spec Tryz.prog 12 [] [] (.d (.bool r)) []:=by
 refine LJ.Spec.code Tryz.func12 rfl 64 rfl rfl [] rfl fun w0 F0 S0 B0=>?_
 unfold cL at H
 refine G (R 1 rfl (NS (Wg ?_)))
 obtain ⟨x1,hx1,H⟩:=al H
 refine Cl [] (lA _ hx1) lB rfl tv rfl (R 4 rfl (Wa 101 tk rfl rfl rfl (Ef 0 rfl (R 2 rfl (N (R 1 rfl ?_))))))
 obtain ⟨x2,hx2,H⟩:=al H
 refine Cl [] (mA _ hx2) mB rfl tv rfl (R 5 rfl (NS (Wg ?_)))
 obtain ⟨x3,hx3,H⟩:=al H
 refine Cl [] (lA _ hx3) lB rfl tv rfl (R 4 rfl (Wa 106 tk rfl rfl rfl (Ef 0 rfl (R 2 rfl (N (R 5 rfl (Wx 4 4 true tk sg0 rfl rfl (fun _=>tv) (RS 2 rfl ⟨by first | exact id | exact fun h=>by rw [h];rfl | simp_all,tv⟩ (Wx 2 10 true tk sg0 rfl rfl (fun _=>tv) (RS 2 rfl ⟨by first | exact id | exact fun h=>by rw [h];rfl | simp_all,tv⟩ ?_))))))))))
 refine Wx 2 14 true tk sg0 rfl rfl (fun _=>tv) (RS 2 rfl ⟨by first | exact id | exact fun h=>by rw [h];rfl | simp_all,tv⟩ (Wx 3 18 true tk sg0 rfl rfl (fun _=>tv) (RS 2 rfl ⟨by first | exact id | exact fun h=>by rw [h];rfl | simp_all,tv⟩ (Wx 2 23 true tk sg0 rfl rfl (fun _=>tv) (RS 2 rfl ⟨by first | exact id | exact fun h=>by rw [h];rfl | simp_all,tv⟩ (Wx 2 27 true tk sg0 rfl rfl (fun _=>tv) (RS 2 rfl ⟨by first | exact id | exact fun h=>by rw [h];rfl | simp_all,tv⟩ (Wx 2 31 true tk sg0 rfl rfl (fun _=>tv) ?_))))))))
 refine RS 2 rfl ⟨by first | exact id | exact fun h=>by rw [h];rfl | simp_all,tv⟩ ?_
 obtain ⟨x4,hx4,H⟩:=al H
 refine Wx 3 35 true tk [PSig.at' mD (((((((((iEq (x1.1.Decls.length:Int) 1)&&(iEq (x1.1.Funcs.length:Int) 1))&&(iEq x1.2.1 0))&&(iEq x1.2.2 0))&&(iEq (x2.1.size:Int) 49))&&(iEq x2.2 0))&&(iEq x3.2.1 2))&&(iEq x3.2.2 2))=true) rfl (fun hb=>mC _ (of_t hx4 hb))] rfl rfl (fun hb=>⟨⟨hb,rfl⟩,tv⟩) (RS 2 rfl ⟨by first | exact id | exact fun h=>by rw [h];rfl | simp_all,tv⟩ (NQ (Wt ?_)))
 cases H
 exact Ea rfl rfl rfl tv
theorem nM:aE Tryz.prog 12 Tryz.f12:=⟨Tryz.func12,rfl,by kernel_rfl⟩
theorem kb (a0:af) (a1:aq) {r:Bool} (H:dQ a0 a1=some r):LJ.Spec Tryz.prog 3 [.d (.agg [slT ai a0.Decls,slT ae a0.Waits,slT ak a0.Funcs]), .d (.agg [.int .i64 a1.Op, .int .i64 a1.A, .int .i64 a1.B])] [] (.d (.bool r)) []:=by
 refine LJ.Spec.code Tryz.func3 rfl 47 rfl rfl [] rfl fun w0 F0 S0 B0=>?_
 unfold dQ at H
 refine G (Ef 102 rfl (Ef 103 rfl (R 1 rfl (N (R 1 rfl ?_)))))
 obtain ⟨x1,hx1,H⟩:=al H
 refine Cl [] (lb _ hx1) ld rfl tv rfl (Ef 0 rfl (N (R 1 rfl ?_)))
 obtain ⟨x2,hx2,H⟩:=al H
 refine Cl [] (nH _ hx2) nI rfl tv rfl (R 1 rfl (N (R 1 rfl ?_)))
 obtain ⟨x3,hx3,H⟩:=al H
 refine Cl [] (lb _ hx3) ld rfl tv rfl ?_
 obtain ⟨x4,hx4,H⟩:=al H
 refine Cl [] (mA _ hx4) mB rfl tv rfl (R 5 rfl (NS (Ws (Hp (.one 0 true (.one 1 true (.one 2 true (.one 3 true (.one 4 true (.one 6 true (.one 5 false (.one 7 false (.one 8 true (.one 9 true .done)))))))))) [102,103] [102,103] rfl (by kernel_rfl) rfl (by kernel_rfl) rfl rfl (fun _ h=>h) rfl rfl rfl (fun _ _ _ h=>h) fun FK NK wK K=>(Hr 4 tk rfl rfl rfl rfl tv (WH.split (g:=21) rfl (fun h5=>?_) (fun h5=>?_)))))))
 ·replace H:=of_t H h5
  refine Hg rfl rfl rfl rfl rfl rfl rfl (Hg rfl rfl rfl rfl rfl rfl rfl (Hg rfl rfl rfl rfl rfl rfl rfl (Hg rfl rfl rfl rfl rfl rfl rfl (Hg rfl rfl rfl rfl rfl rfl rfl (WH.pick1 rfl rfl rfl rfl rfl rfl rfl (WH.nil rfl (Qn (Wc rfl (fun h=>?_) (fun h=>absurd h (by decide))))))))))
  refine G (R 1 rfl (NQ (Wt (QT.r ?_))))
  cases H
  exact Ea rfl rfl rfl tv
 ·replace H:=of_f H h5
  refine WH.grun 2 3 false 21 tk rfl rfl rfl rfl rfl rfl tv ?_
  obtain ⟨x6,hx6,H⟩:=al H
  refine WH.gcall [] rfl (mC _ hx6) mD rfl rfl tv rfl rfl rfl rfl rfl rfl rfl rfl ?_
  obtain ⟨x7,hx7,H⟩:=al H
  refine WH.gcall [] rfl (oW _ hx7) oX rfl rfl tv rfl rfl rfl rfl rfl rfl rfl rfl (WH.grun 1 3 false 21 tk rfl rfl rfl rfl rfl rfl tv (WH.pick1 rfl rfl rfl rfl rfl rfl rfl (WH.nil rfl (Qn (Wd rfl H (fun H=>?_) (fun H=>?_))))))
  ·refine G (R 1 rfl (NQ (Wt (QT.r ?_))))
   cases H
   exact Ea rfl rfl rfl tv
  refine Wk (Qn (G (R 3 rfl (Wx 2 2 true tk sg0 rfl rfl (fun _=>tv) (RS 2 rfl ⟨by first | exact id | exact fun h=>by rw [h];rfl | simp_all,tv⟩ (Wx 3 6 false tk sg0 rfl rfl (fun _=>tv) ?_))))))
  obtain ⟨x9,hx9,H⟩:=al H
  refine Wx 4 9 true tk [PSig.at' o3 (((!((iNe x2 0)&&(sEq x4.1 ByteArray.empty)))&&(iEq x2 0))=true) rfl (fun hb=>o0 _ (of_t hx9 hb))] rfl rfl (fun hb=>⟨⟨hb,rfl⟩,tv⟩) (Wx 1 6 false tk sg0 rfl rfl (fun hb=>⟨by first | exact id | exact ⟨hb,fun h=>by rw [hb,h];rfl⟩ | exact ⟨hb,id⟩ | exact fun h=>by rw [hb,h];rfl | exact fun h=>by rw [h];rfl | simp_all,tv⟩) (RS 2 rfl ⟨by first | exact id | exact fun h=>by rw [h];rfl | simp_all,tv⟩ ?_))
  obtain ⟨x10,hx10,H⟩:=al H
  refine Wx 1 16 true tk [PSig.at' nM ((((iNe x2 0)&&(sEq x4.1 ByteArray.empty))||((iEq x2 0)&&(sEq x4.1 x9)))=true) rfl (fun hb=>nL (of_t hx10 hb))] rfl rfl (fun hb=>⟨⟨hb,rfl⟩,tv⟩) (RS 2 rfl ⟨by first | exact id | exact fun h=>by rw [h];rfl | simp_all,tv⟩ (NQ (Wt ?_)))
  cases H
  exact Ea rfl rfl rfl tv
end Go.Proofs.YtpnnkehkjfciiaaGreatDoor.W
