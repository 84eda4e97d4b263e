/- Each Go function comes to what its plain function gives, where that gives something. -/
import Derived.Test.YtdebndfaknfefaaGreatDoorPF
import Derived.Test.YtdebndfaknfefaaGreatDoorSq
import Derived.Test.YtdebndfaknfefaaGreatDoorWF2
import Derived.Test.YtdebndfaknfefaaGreatDoorXByt
import Derived.Test.YtdebndfaknfefaaGreatDoorXDef
import Derived.Test.YtdebndfaknfefaaGreatDoorXPan
import Derived.Test.YtdebndfaknfefaaGreatDoorXShelf
namespace Go.Proofs.YtdebndfaknfefaaGreatDoor.W
open Go Go.RowKit LJ
set_option linter.unusedVariables false
set_option linter.unusedSimpArgs false
set_option maxRecDepth 10000
theorem rj (a0:ak) {r:Int×ak} (H:bC a0=some r):LJ.Spec Tryz.prog 65 [.ptr 0 0] [(0, .box 131 [.d (.str a0.s), .d (.int .i64 a0.at_), .d (.int .i64 a0.err)])] (.d (.int .u64 r.1)) [(0, .box 131 [.d (.str r.2.s), .d (.int .i64 r.2.at_), .d (.int .i64 r.2.err)])]:=by
 refine LJ.Spec.code Tryz.func65 rfl 49 rfl rfl [0] rfl fun w0 F0 S0 B0=>?_
 unfold bC at H
 refine G (R 1 rfl (N (R 1 rfl (NS (G (R 1 rfl (NQ (Wb (Wl (ι:= {x:Nat×(Int×Int×ByteArray×Int×Int) //cQ x.1 x.2=some r}) (fun x=>[(0, .ptr 0 0),(3, .d (.int .u64 x.1.2.1)),(6, .d (.int .i64 x.1.2.2.1))]) (fun x=>[(0, .box 131 [.d (.str x.1.2.2.2.1), .d (.int .i64 x.1.2.2.2.2.1), .d (.int .i64 x.1.2.2.2.2.2)])]) (fun x=>x.1.1) ⟨(fuel,(0,0,a0.s,a0.at_,a0.err)),H⟩ (Lm p3 p1) fun x=>?_)))))))))
 obtain ⟨⟨k2,s1⟩,H⟩:=x
 rcases k2 with _ | k2
 ·exact aP H
 rw [cQ] at H
 refine G (R 1 rfl (NS (Wd rfl H (fun H=>?_) (fun H=>?_))))
 ·refine Wk (Qn (Ws (Wb (G (R 2 rfl (N (R 1 rfl ?_)))))))
  obtain ⟨x4,hx4,H⟩:=al H
  refine Cl [] (fc 0 rfl _ hx4) fe rfl p1 rfl (R 1 rfl (NS (G (R 3 rfl (WL.grun 5 2 false 13 tk sg0 rfl rfl rfl rfl tv (WL.pickF rfl rfl rfl rfl rfl rfl (NQ (Wd rfl H (fun H=>?_) (fun H=>?_)))))))))
  ·refine G (R 1 rfl (NQ (Wt (QT.r (QB.r (QT.r (QT.r (QB.r (QT.r ?_)))))))))
   cases H
   exact Ea rfl rfl rfl p1
  refine Wk (Qn (Ws (G (R 3 rfl (Wx 2 2 true tk sg0 rfl rfl (fun _=>tv) (RS 2 rfl ⟨by first | exact id | exact fun h=>by rw [h];rfl | simp_all,tv⟩ (Wx 3 6 false tk sg0 rfl rfl (fun _=>tv) (Wx 2 9 true tk sg0 rfl rfl (fun _=>tv) (Wx 1 6 false tk sg0 rfl rfl (fun hb=>⟨by first | exact id | exact ⟨hb,fun h=>by rw [hb,h];rfl⟩ | exact ⟨hb,id⟩ | exact fun h=>by rw [hb,h];rfl | exact fun h=>by rw [h];rfl | simp_all,tv⟩) (RS 1 rfl ⟨by first | exact id | exact fun h=>by rw [h];rfl | simp_all,tv⟩ (NQ (Wd rfl H (fun H=>?_) (fun H=>?_)))))))))))))
  ·refine G (R 1 rfl ?_)
   obtain ⟨x7,hx7,H⟩:=al H
   refine Cl [] (i7 0 rfl _ _ hx7) i9 rfl p1 rfl (N (R 1 rfl (NQ (Wt (QT.r (QB.r (QT.r (QT.r (QB.r (QT.r ?_))))))))))
   cases H
   exact Ea rfl rfl rfl p1
  refine Wk (Qn (G ?_))
  obtain ⟨g8,H⟩:=av H
  refine RS 9 rfl ⟨(zQ g8),tv⟩ (N (R 2 rfl (NQ (Wd rfl H (fun H=>?_) (fun H=>?_)))))
  ·refine G (R 2 rfl (NQ (Wt (QB.r (QT.r (QT.r (QB.r (QT.r ?_))))))))
   cases H
   exact Ea rfl rfl rfl p1
  refine Wk (Qb (Qn ?_))
  exact Wg (R 2 rfl (NQ (⟨⟨(k2,(Go.bits .or .u64 s1.1 (IntKind.u64.wrap ((IntKind.u64.wrap (Go.bits .and .i64 x4.1 127))*2 ^min (IntKind.i64.wrap ((7:Int)*s1.2.1):Int).toNat IntKind.u64.bits)),IntKind.i64.wrap (s1.2.1+1),x4.2.s,x4.2.at_,x4.2.err)),H⟩,Z,Lm p3 p1⟩)))
 refine WC.exit (Qx (Qx (Qh (Qn ?_))))
 refine G (R 2 rfl (NQ (Wt ?_)))
 cases H
 exact Ea rfl rfl rfl p1
theorem cj (n0:Nat) (hn:cD [n0]=true) (a0:ak) {r:Int×ak} (H:bC a0=some r):LJ.Spec Tryz.prog 65 [.ptr n0 0] [(n0, .box 131 [.d (.str a0.s), .d (.int .i64 a0.at_), .d (.int .i64 a0.err)])] (.d (.int .u64 r.1)) [(n0, .box 131 [.d (.str r.2.s), .d (.int .i64 r.2.at_), .d (.int .i64 r.2.err)])]:=
 Spec.names [n0] hn rfl rfl (rj a0 H)
theorem ck:aD Tryz.prog 65 Tryz.f65:=⟨Tryz.func65,rfl,by kernel_rfl⟩
theorem vd (a0:ak) {r:Int×ak} (H:fh a0=some r):LJ.Spec Tryz.prog 61 [.ptr 0 0] [(0, .box 131 [.d (.str a0.s), .d (.int .i64 a0.at_), .d (.int .i64 a0.err)])] (.d (.int .i64 r.1)) [(0, .box 131 [.d (.str r.2.s), .d (.int .i64 r.2.at_), .d (.int .i64 r.2.err)])]:=by
 refine LJ.Spec.code Tryz.func61 rfl 7 rfl rfl [0] rfl fun w0 F0 S0 B0=>?_
 unfold fh at H
 refine G (R 1 rfl (N (R 1 rfl ?_)))
 obtain ⟨x1,hx1,H⟩:=al H
 refine Cl [] (cj 0 rfl _ hx1) ck rfl p1 rfl (WL.yv (LJ.Y.min rfl rfl rfl) rfl rfl rfl (R 2 rfl (NQ (Wt ?_))))
 cases H
 exact Ea rfl rfl rfl p1
theorem jq (n0:Nat) (hn:cD [n0]=true) (a0:ak) {r:Int×ak} (H:fh a0=some r):LJ.Spec Tryz.prog 61 [.ptr n0 0] [(n0, .box 131 [.d (.str a0.s), .d (.int .i64 a0.at_), .d (.int .i64 a0.err)])] (.d (.int .i64 r.1)) [(n0, .box 131 [.d (.str r.2.s), .d (.int .i64 r.2.at_), .d (.int .i64 r.2.err)])]:=
 Spec.names [n0] hn rfl rfl (vd a0 H)
theorem jr:aD Tryz.prog 61 Tryz.f61:=⟨Tryz.func61,rfl,by kernel_rfl⟩
theorem qI (a0:ak) {r:ByteArray×ak} (H:fi a0=some r):LJ.Spec Tryz.prog 62 [.ptr 0 0] [(0, .box 131 [.d (.str a0.s), .d (.int .i64 a0.at_), .d (.int .i64 a0.err)])] (.d (.str r.1)) [(0, .box 131 [.d (.str r.2.s), .d (.int .i64 r.2.at_), .d (.int .i64 r.2.err)])]:=by
 refine LJ.Spec.code Tryz.func62 rfl 48 rfl rfl [0] rfl fun w0 F0 S0 B0=>?_
 unfold fi at H
 refine G (R 1 rfl (N (R 1 rfl ?_)))
 obtain ⟨x1,hx1,H⟩:=al H
 refine Cl [] (cj 0 rfl _ hx1) ck rfl p1 rfl (R 1 rfl (NS (G (R 2 rfl (NQ (Wc rfl (fun h=>absurd h (by decide)) (fun h=>?_)))))))
 refine Wk (Qn (Ws (Ws (Hp (.one 0 true (.one 1 true (.one 2 true (.one 3 true (.one 4 true (.one 5 true (.one 6 true (.one 7 true (.one 8 true (.one 9 true (.one 10 true (.one 11 true (.one 12 true .done))))))))))))) [0] [0] rfl (by kernel_rfl) rfl (by kernel_rfl) rfl rfl (fun _ h=>h) rfl rfl rfl (fun _ _ _ h=>h) fun FK NK wK K=>(Hr 13 tk rfl rfl rfl rfl tv (WH.nil rfl (Qn (Wd rfl H (fun H=>?_) (fun H=>?_)))))))))
 ·refine G (R 1 rfl ?_)
  obtain ⟨x3,hx3,H⟩:=al H
  refine Cl [] (i7 0 rfl _ _ hx3) i9 rfl p1 rfl (N (R 1 rfl (NQ (Wt (QT.r ?_)))))
  cases H
  exact Ea rfl rfl rfl p1
 refine Wk (Qn (G (R 9 rfl (Ef 0 rfl (NS (Hp (.one 0 true (.one 1 true (.one 2 true (.one 3 true (.one 4 true (.one 5 true (.one 6 true (.one 7 true (.one 8 true (.one 9 true (.one 10 true (.one 11 true (.one 12 true (.one 13 true (.one 14 true (.one 15 true (.one 16 true .done))))))))))))))))) [0] [0] rfl (by kernel_rfl) rfl (by kernel_rfl) rfl rfl (fun _ h=>h) rfl rfl rfl (fun _ _ _ h=>h) fun FK NK wK K=>?_))))))
 obtain ⟨g4,H⟩:=av H
 refine Hr 17 tk rfl rfl rfl rfl ⟨(uc g4),tv⟩ (WH.nil rfl (Qn (Wt ?_)))
 cases H
 exact Ea rfl rfl rfl p1
theorem qJ (n0:Nat) (hn:cD [n0]=true) (a0:ak) {r:ByteArray×ak} (H:fi a0=some r):LJ.Spec Tryz.prog 62 [.ptr n0 0] [(n0, .box 131 [.d (.str a0.s), .d (.int .i64 a0.at_), .d (.int .i64 a0.err)])] (.d (.str r.1)) [(n0, .box 131 [.d (.str r.2.s), .d (.int .i64 r.2.at_), .d (.int .i64 r.2.err)])]:=
 Spec.names [n0] hn rfl rfl (qI a0 H)
theorem qK:aD Tryz.prog 62 Tryz.f62:=⟨Tryz.func62,rfl,by kernel_rfl⟩
theorem rk (a0:ak) {r:Int} (H:bg a0=some r):LJ.Spec Tryz.prog 63 [.ptr 0 0] [(0, .box 131 [.d (.str a0.s), .d (.int .i64 a0.at_), .d (.int .i64 a0.err)])] (.d (.int .i64 r)) [(0, .box 131 [.d (.str a0.s), .d (.int .i64 a0.at_), .d (.int .i64 a0.err)])]:=by
 refine LJ.Spec.code Tryz.func63 rfl 9 rfl rfl [0] rfl fun w0 F0 S0 B0=>?_
 unfold bg at H
 refine G (R 1 rfl (NS (G (R 2 rfl (NQ (Wc rfl (fun h=>absurd h (by decide)) (fun h=>?_)))))))
 refine Wk (Qn (G (R 5 rfl (NQ (Wt ?_)))))
 cases H
 exact Ea rfl rfl rfl p1
theorem aQ (n0:Nat) (hn:cD [n0]=true) (a0:ak) {r:Int} (H:bg a0=some r):LJ.Spec Tryz.prog 63 [.ptr n0 0] [(n0, .box 131 [.d (.str a0.s), .d (.int .i64 a0.at_), .d (.int .i64 a0.err)])] (.d (.int .i64 r)) [(n0, .box 131 [.d (.str a0.s), .d (.int .i64 a0.at_), .d (.int .i64 a0.err)])]:=
 Spec.names [n0] hn rfl rfl (rk a0 H)
theorem aR:aD Tryz.prog 63 Tryz.f63:=⟨Tryz.func63,rfl,by kernel_rfl⟩
theorem mc (a0:ByteArray) (a1:ByteArray) {r:Bool} (H:fj a0 a1=some r):LJ.Spec Tryz.prog 94 [.d (.str a0), .d (.str a1)] [] (.d (.bool r)) []:=by
 refine LJ.Spec.code Tryz.func94 rfl 8 rfl rfl [] rfl fun w0 F0 S0 B0=>?_
 unfold fj at H
 refine G (R 1 rfl (N (R 2 rfl ?_)))
 obtain ⟨x1,hx1,H⟩:=al H
 refine Cl [] (fR _ _ hx1) fS rfl tv rfl (R 1 rfl (NQ (Wt ?_)))
 cases H
 exact Ea rfl rfl rfl tv
theorem me:aD Tryz.prog 94 Tryz.f94:=⟨Tryz.func94,rfl,by kernel_rfl⟩
theorem wJ (a0:Int) {r:ByteArray} (H:kC a0=some r):LJ.Spec Tryz.prog 150 [.d (.int .i64 a0)] [] (.d (.str r)) []:=by
 refine LJ.Spec.code Tryz.func150 rfl 18 rfl rfl [] rfl fun w0 F0 S0 B0=>?_
 unfold kC at H
 refine G (R 1 rfl (NS (G (R 1 rfl (NQ (Wb (G (R 2 rfl (NQ (Wd rfl H (fun H=>?_) (fun H=>?_)))))))))))
 ·refine G (R 1 rfl (NQ (Wt (QB.r (QT.r ?_)))))
  cases H
  exact Ea rfl rfl rfl tv
 refine G (R 2 rfl (NQ (Wd rfl H (fun H=>?_) (fun H=>?_))))
 ·refine G (R 1 rfl (NQ (Wt (QB.r (QT.r ?_)))))
  cases H
  exact Ea rfl rfl rfl tv
 refine G (R 2 rfl (NQ (Wd rfl H (fun H=>?_) (fun H=>?_))))
 ·refine G (R 1 rfl (NQ (Wt (QB.r (QT.r ?_)))))
  cases H
  exact Ea rfl rfl rfl tv
 refine G (R 2 rfl (NQ (Wd rfl H (fun H=>?_) (fun H=>?_))))
 ·refine G (R 1 rfl (NQ (Wt (QB.r (QT.r ?_)))))
  cases H
  exact Ea rfl rfl rfl tv
 refine G (R 2 rfl (NQ (Wd rfl H (fun H=>?_) (fun H=>?_))))
 ·refine G (R 1 rfl (NQ (Wt (QB.r (QT.r ?_)))))
  cases H
  exact Ea rfl rfl rfl tv
 refine G (R 2 rfl (NQ (Wd rfl H (fun H=>?_) (fun H=>?_))))
 ·refine G (R 1 rfl (NQ (Wt (QB.r (QT.r ?_)))))
  cases H
  exact Ea rfl rfl rfl tv
 refine G (R 2 rfl (NQ (Wd rfl H (fun H=>?_) (fun H=>?_))))
 ·refine G (R 1 rfl (NQ (Wt (QB.r (QT.r ?_)))))
  cases H
  exact Ea rfl rfl rfl tv
 refine Wk (Qb (Qn ?_))
 refine G (R 1 rfl (NQ (Wt ?_)))
 cases H
 exact Ea rfl rfl rfl tv
theorem wL:aD Tryz.prog 150 Tryz.f150:=⟨Tryz.func150,rfl,by kernel_rfl⟩
theorem yU (a0:ak) {r:Int×ak} (H:im a0=some r):LJ.Spec Tryz.prog 151 [.ptr 0 0] [(0, .box 131 [.d (.str a0.s), .d (.int .i64 a0.at_), .d (.int .i64 a0.err)])] (.d (.int .i64 r.1)) [(0, .box 131 [.d (.str r.2.s), .d (.int .i64 r.2.at_), .d (.int .i64 r.2.err)])]:=by
 refine LJ.Spec.code Tryz.func151 rfl 7 rfl rfl [0] rfl fun w0 F0 S0 B0=>?_
 unfold im at H
 refine G (R 1 rfl (N (R 1 rfl ?_)))
 obtain ⟨x1,hx1,H⟩:=al H
 refine Cl [] (cj 0 rfl _ hx1) ck rfl p1 rfl (WL.yv (LJ.Y.min rfl rfl rfl) rfl rfl rfl (R 2 rfl (NQ (Wt ?_))))
 cases H
 exact Ea rfl rfl rfl p1
theorem ll (n0:Nat) (hn:cD [n0]=true) (a0:ak) {r:Int×ak} (H:im a0=some r):LJ.Spec Tryz.prog 151 [.ptr n0 0] [(n0, .box 131 [.d (.str a0.s), .d (.int .i64 a0.at_), .d (.int .i64 a0.err)])] (.d (.int .i64 r.1)) [(n0, .box 131 [.d (.str r.2.s), .d (.int .i64 r.2.at_), .d (.int .i64 r.2.err)])]:=
 Spec.names [n0] hn rfl rfl (yU a0 H)
theorem lr:aD Tryz.prog 151 Tryz.f151:=⟨Tryz.func151,rfl,by kernel_rfl⟩
theorem rl (a0:ak) {r:Int×ak} (H:cF a0=some r):LJ.Spec Tryz.prog 97 [.ptr 0 0] [(0, .box 131 [.d (.str a0.s), .d (.int .i64 a0.at_), .d (.int .i64 a0.err)])] (.d (.int .i64 r.1)) [(0, .box 131 [.d (.str r.2.s), .d (.int .i64 r.2.at_), .d (.int .i64 r.2.err)])]:=by
 refine LJ.Spec.code Tryz.func97 rfl 14 rfl rfl [0] rfl fun w0 F0 S0 B0=>?_
 unfold cF at H
 refine G (R 1 rfl (N (R 1 rfl ?_)))
 obtain ⟨x1,hx1,H⟩:=al H
 refine Cl [] (cj 0 rfl _ hx1) ck rfl p1 rfl (R 1 rfl (N (R 9 rfl (NQ (Wt ?_)))))
 cases H
 exact Ea rfl rfl rfl p1
theorem gN (n0:Nat) (hn:cD [n0]=true) (a0:ak) {r:Int×ak} (H:cF a0=some r):LJ.Spec Tryz.prog 97 [.ptr n0 0] [(n0, .box 131 [.d (.str a0.s), .d (.int .i64 a0.at_), .d (.int .i64 a0.err)])] (.d (.int .i64 r.1)) [(n0, .box 131 [.d (.str r.2.s), .d (.int .i64 r.2.at_), .d (.int .i64 r.2.err)])]:=
 Spec.names [n0] hn rfl rfl (rl a0 H)
theorem gO:aD Tryz.prog 97 Tryz.f97:=⟨Tryz.func97,rfl,by kernel_rfl⟩
theorem wM (a0:ak) {r:ai×Int×ak} (H:jI a0=some r):LJ.Spec Tryz.prog 139 [.ptr 0 0] [(0, .box 131 [.d (.str a0.s), .d (.int .i64 a0.at_), .d (.int .i64 a0.err)])] (.tup [.d (.agg [.int .i64 r.1.Kind, .int .i64 r.1.A, .int .i64 r.1.B]), .d (.int .i64 r.2.1)]) [(0, .box 131 [.d (.str r.2.2.s), .d (.int .i64 r.2.2.at_), .d (.int .i64 r.2.2.err)])]:=by
 refine LJ.Spec.code Tryz.func139 rfl 44 rfl rfl [0] rfl fun w0 F0 S0 B0=>?_
 unfold jI at H
 refine G (Wa 102 tk rfl rfl rfl (R 1 rfl (N (R 1 rfl ?_))))
 obtain ⟨x1,hx1,H⟩:=al H
 refine Cl [] (fc 0 rfl _ hx1) fe rfl p1 rfl (R 1 rfl (Wa 104 tk rfl rfl rfl (Ef 0 rfl (NS (G (R 1 rfl ?_))))))
 obtain ⟨x2,hx2,H⟩:=al H
 refine Cl [] (aQ 0 rfl _ hx2) aR rfl p1 rfl (R 2 rfl ?_)
 obtain ⟨x3,hx3,H⟩:=al H
 refine Wx 4 3 true tk [PSig.at' wL ((iEq x2 0)=true) rfl (fun hb=>wJ _ (of_t hx3 hb))] rfl rfl (fun hb=>⟨⟨hb,rfl⟩,tv⟩) (RS 1 rfl ⟨by first | exact id | exact fun h=>by rw [h];rfl | simp_all,tv⟩ (NQ (Wd rfl H (fun H=>?_) (fun H=>?_))))
 ·refine G (R 1 rfl (Ef 0 rfl (R 1 rfl (NQ (Wt (QT.r ?_))))))
  cases H
  exact Ends.autoC tk rfl rfl rfl p1
 refine Wk (Qn (Ws (G (R 2 rfl (NQ (Wb (G (R 2 rfl (NQ (Wd rfl H (fun H=>?_) (fun H=>?_)))))))))))
 ·refine G (R 1 rfl ?_)
  obtain ⟨x6,hx6,H⟩:=al H
  refine Cl [] (ll 0 rfl _ hx6) lr rfl p1 rfl (R 1 rfl (Ef 0 rfl (NQ (Wg (R 1 rfl ?_)))))
  obtain ⟨x7,hx7,H⟩:=al H
  refine Cl [] (ll 0 rfl _ hx7) lr rfl p1 rfl (R 1 rfl (Ef 0 rfl (Wn (Qb (Qn ?_)))))
  refine Ws (Hp (.one 0 true (.one 1 true (.one 2 false (.one 3 false (.one 4 true .done))))) [0,102,104] [104] rfl (by kernel_rfl) rfl (by kernel_rfl) rfl rfl (fun _ h=>h) rfl rfl rfl (fun _ _ _ h=>h) fun FK NK wK K=>(Hr 2 tk rfl rfl rfl rfl tv ?_))
  obtain ⟨x8,hx8,H⟩:=al H
  refine WH.call [] rfl (aQ 0 rfl _ hx8) aR rfl rfl p1 rfl rfl rfl rfl rfl (He 0 tk ek rfl rfl rfl rfl tv rfl rfl (Hr 1 tk rfl rfl rfl rfl tv (WH.nil rfl (Qn (Wt ?_)))))
  cases H
  exact Ends.autoC tk rfl rfl rfl p1
 refine G (R 2 rfl (NQ (Wd rfl H (fun H=>?_) (fun H=>?_))))
 ·refine Wg (R 1 rfl ?_)
  obtain ⟨x10,hx10,H⟩:=al H
  refine Cl [] (ll 0 rfl _ hx10) lr rfl p1 rfl (R 1 rfl (Ef 0 rfl (Wn (Qb (Qn ?_)))))
  refine Ws (Hp (.one 0 true (.one 1 true (.one 2 false (.one 3 false (.one 4 true .done))))) [0,102,104] [104] rfl (by kernel_rfl) rfl (by kernel_rfl) rfl rfl (fun _ h=>h) rfl rfl rfl (fun _ _ _ h=>h) fun FK NK wK K=>(Hr 2 tk rfl rfl rfl rfl tv ?_))
  obtain ⟨x11,hx11,H⟩:=al H
  refine WH.call [] rfl (aQ 0 rfl _ hx11) aR rfl rfl p1 rfl rfl rfl rfl rfl (He 0 tk ek rfl rfl rfl rfl tv rfl rfl (Hr 1 tk rfl rfl rfl rfl tv (WH.nil rfl (Qn (Wt ?_)))))
  cases H
  exact Ends.autoC tk rfl rfl rfl p1
 refine G (R 2 rfl (NQ (Wd rfl H (fun H=>?_) (fun H=>?_))))
 ·refine G (R 1 rfl ?_)
  obtain ⟨x13,hx13,H⟩:=al H
  refine Cl [] (gN 0 rfl _ hx13) gO rfl p1 rfl (R 1 rfl (Ef 0 rfl (NQ (Wg (R 1 rfl ?_)))))
  obtain ⟨x14,hx14,H⟩:=al H
  refine Cl [] (ll 0 rfl _ hx14) lr rfl p1 rfl (R 1 rfl (Ef 0 rfl (Wn (Qb (Qn ?_)))))
  refine Ws (Hp (.one 0 true (.one 1 true (.one 2 false (.one 3 false (.one 4 true .done))))) [0,102,104] [104] rfl (by kernel_rfl) rfl (by kernel_rfl) rfl rfl (fun _ h=>h) rfl rfl rfl (fun _ _ _ h=>h) fun FK NK wK K=>(Hr 2 tk rfl rfl rfl rfl tv ?_))
  obtain ⟨x15,hx15,H⟩:=al H
  refine WH.call [] rfl (aQ 0 rfl _ hx15) aR rfl rfl p1 rfl rfl rfl rfl rfl (He 0 tk ek rfl rfl rfl rfl tv rfl rfl (Hr 1 tk rfl rfl rfl rfl tv (WH.nil rfl (Qn (Wt ?_)))))
  cases H
  exact Ends.autoC tk rfl rfl rfl p1
 refine Wk (Qb (Qn ?_))
 refine Ws (Hp (.one 0 true (.one 1 true (.one 2 false (.one 3 false (.one 4 true .done))))) [0,102,104] [104] rfl (by kernel_rfl) rfl (by kernel_rfl) rfl rfl (fun _ h=>h) rfl rfl rfl (fun _ _ _ h=>h) fun FK NK wK K=>(Hr 2 tk rfl rfl rfl rfl tv ?_))
 obtain ⟨x16,hx16,H⟩:=al H
 refine WH.call [] rfl (aQ 0 rfl _ hx16) aR rfl rfl p1 rfl rfl rfl rfl rfl (He 0 tk ek rfl rfl rfl rfl tv rfl rfl (Hr 1 tk rfl rfl rfl rfl tv (WH.nil rfl (Qn (Wt ?_)))))
 cases H
 exact Ends.autoC tk rfl rfl rfl p1
theorem wN (n0:Nat) (hn:cD [n0]=true) (a0:ak) {r:ai×Int×ak} (H:jI a0=some r):LJ.Spec Tryz.prog 139 [.ptr n0 0] [(n0, .box 131 [.d (.str a0.s), .d (.int .i64 a0.at_), .d (.int .i64 a0.err)])] (.tup [.d (.agg [.int .i64 r.1.Kind, .int .i64 r.1.A, .int .i64 r.1.B]), .d (.int .i64 r.2.1)]) [(n0, .box 131 [.d (.str r.2.2.s), .d (.int .i64 r.2.2.at_), .d (.int .i64 r.2.2.err)])]:=
 Spec.names [n0] hn rfl rfl (wM a0 H)
theorem wO:aD Tryz.prog 139 Tryz.f139:=⟨Tryz.func139,rfl,by kernel_rfl⟩
theorem qL (a0:ak) {r:Int} (H:cA a0=some r):LJ.Spec Tryz.prog 67 [.ptr 0 0] [(0, .box 131 [.d (.str a0.s), .d (.int .i64 a0.at_), .d (.int .i64 a0.err)])] (.d (.int .i64 r)) [(0, .box 131 [.d (.str a0.s), .d (.int .i64 a0.at_), .d (.int .i64 a0.err)])]:=by
 refine LJ.Spec.code Tryz.func67 rfl 15 rfl rfl [0] rfl fun w0 F0 S0 B0=>?_
 unfold cA at H
 refine G (R 1 rfl (NS (G (R 2 rfl (NQ (Wc rfl (fun h=>absurd h (by decide)) (fun h=>?_)))))))
 refine Wk (Qn (Ws (Hp (.one 0 true (.one 1 true (.one 2 true (.one 3 true (.one 4 true (.one 5 true (.one 6 true (.one 7 true (.one 8 true (.one 9 true (.one 10 true .done))))))))))) [0] [0] rfl (by kernel_rfl) rfl (by kernel_rfl) rfl rfl (fun _ h=>h) rfl rfl rfl (fun _ _ _ h=>h) fun FK NK wK K=>(Hr 11 tk rfl rfl rfl rfl tv (WH.nil rfl (Qn (Wt ?_)))))))
 cases H
 exact Ea rfl rfl rfl p1
theorem cR (n0:Nat) (hn:cD [n0]=true) (a0:ak) {r:Int} (H:cA a0=some r):LJ.Spec Tryz.prog 67 [.ptr n0 0] [(n0, .box 131 [.d (.str a0.s), .d (.int .i64 a0.at_), .d (.int .i64 a0.err)])] (.d (.int .i64 r)) [(n0, .box 131 [.d (.str a0.s), .d (.int .i64 a0.at_), .d (.int .i64 a0.err)])]:=
 Spec.names [n0] hn rfl rfl (qL a0 H)
theorem cS:aD Tryz.prog 67 Tryz.f67:=⟨Tryz.func67,rfl,by kernel_rfl⟩
theorem yV (a0:ByteArray) {r:(List ai)×Int×Int} (H:mV a0=some r):LJ.Spec Tryz.prog 117 [.d (.str a0)] [] (.tup [.d (slT ah r.1), .d (.int .i64 r.2.1), .d (.int .i64 r.2.2)]) []:=by
 refine LJ.Spec.code Tryz.func117 rfl 54 rfl rfl [] rfl fun w0 F0 S0 B0=>?_
 unfold mV at H
 refine G (R 3 rfl (N (R 1 rfl ?_)))
 obtain ⟨x1,hx1,H⟩:=al H
 refine Cl [2140] (gX 2140 rfl _ hx1) gY rfl tv rfl (R 1 rfl (N (R 1 rfl ?_)))
 obtain ⟨x2,hx2,H⟩:=al H
 refine Cl [] (cj 2140 rfl _ hx2) ck rfl p1 rfl (R 1 rfl (NS (G (R 1 rfl ?_))))
 obtain ⟨x3,hx3,H⟩:=al H
 refine Cl [] (aQ 2140 rfl _ hx3) aR rfl p1 rfl (R 1 rfl (N (R 2 rfl (NQ (Wd rfl H (fun H=>?_) (fun H=>?_))))))
 ·refine G (R 4 rfl (NQ (WC.nilT 2 ah rfl (Wt (QT.r ?_)))))
  cases H
  exact Ea rfl rfl rfl tv
 refine Wk (Qn (Ws (G (R 2 rfl (NQ (Wd rfl H (fun H=>?_) (fun H=>?_)))))))
 ·refine G (R 3 rfl (NQ (WC.nilT 2 ah rfl (Wt (QT.r ?_)))))
  cases H
  exact Ea rfl rfl rfl tv
 refine Wk (Qn (G (R 1 rfl (NS (G (R 2 rfl (NQ (Wb (WC.nilrow (t:=8) 1035 93 3 rfl rfl rfl (Wl (ι:= {x:Nat×(Int×(List ai)×ByteArray×Int×Int) //fJ a0 x2 x.1 x.2=some r}) (fun x=>[(0, .d (.str a0)),(5, .ptr 2140 0),(8, .own 1035),(24, .d (.int .u64 x2.1)),(25, .d (.int .u64 x.1.2.1))]) (fun x=>[(1035, .row 93 3 (x.1.2.2.1.map ah)),(2140, .box 131 [.d (.str x.1.2.2.2.1), .d (.int .i64 x.1.2.2.2.2.1), .d (.int .i64 x.1.2.2.2.2.2)])]) (fun x=>x.1.1) ⟨(fuel,(0,([]:List ai),x2.2.s,x2.2.at_,x2.2.err)),H⟩ (Lm p5 p2) fun x=>?_))))))))))
 obtain ⟨⟨k8,s7⟩,H⟩:=x
 rcases k8 with _ | k8
 ·exact aP H
 rw [fJ] at H
 refine G (R 1 rfl (NS (Wd rfl H (fun H=>?_) (fun H=>?_))))
 ·refine Wk (Qn (Ws (Wb (G (R 1 rfl ?_)))))
  obtain ⟨x10,hx10,H⟩:=al H
  refine Cl [] (wN 2140 rfl _ hx10) wO rfl p1 rfl (R 3 rfl (Wa 109 tk rfl rfl rfl (Ef 0 rfl (R 1 rfl (NS (G (R 2 rfl (NQ (Wd rfl H (fun H=>?_) (fun H=>?_))))))))))
  ·refine G (R 4 rfl (NQ (WC.nilT 2 ah rfl (Wt (QT.r (QB.r (QT.r (QT.r (QB.r (QT.r ?_))))))))))
   cases H
   exact Ea rfl rfl rfl tv
  refine Wk (Qn (Wg (R 2 rfl (Ef 137 rfl (WL.freezeT 137 ah ([x10.1]:List ai) rfl rfl rfl rfl ?_)))))
  obtain ⟨g12,H⟩:=av H
  refine WL.appT ah s7.2.1 ([x10.1]:List ai) tk ek rfl rfl (fun _=>rfl) (fun _=>rfl) rfl rfl rfl rfl (bX g12) rfl rfl rfl rfl rfl ?_
  refine R 1 rfl (Wn (Qb (Qn ?_)))
  exact Wg (R 2 rfl (NQ (⟨⟨(k8,(IntKind.u64.wrap (s7.1+1),s7.2.1++([x10.1]:List ai),x10.2.2.s,x10.2.2.at_,x10.2.2.err)),H⟩,Z,Lm p5 p2⟩)))
 refine WC.exit (Qx (Qx (Qh (Qn ?_))))
 refine Ws (G (R 1 rfl (WL.freezeT 1035 ah s7.2.1 rfl rfl rfl rfl ?_)))
 obtain ⟨x13,hx13,H⟩:=al H
 refine Cl [] (kJ _ hx13) kK rfl tv rfl (R 5 rfl (N (R 2 rfl (NQ (Wd rfl H (fun H=>?_) (fun H=>?_))))))
 ·refine G (R 4 rfl (NQ (WC.nilT 2 ah rfl (Wt (QT.r ?_)))))
  cases H
  exact Ea rfl rfl rfl tv
 refine Wk (Qn (G (R 4 rfl ?_)))
 obtain ⟨x15,hx15,H⟩:=al H
 refine Cl [] (cR 2140 rfl _ hx15) cS rfl p1 rfl (R 4 rfl (NQ (Wt ?_)))
 cases H
 exact Ea rfl rfl rfl tv
theorem yW:aD Tryz.prog 117 Tryz.f117:=⟨Tryz.func117,rfl,by kernel_rfl⟩
theorem js (a0:ao) (a1:Int) (a2:Int) {z:Int ⊕ ao} (H:bB a0 a1 a2=some z):LJ.lL Tryz.prog 118 [.ptr 0 0, .d (.int .i64 a1), .d (.int .i64 a2)] [(0, .box 173 [.d (.str a0.s)])] (fun e=> .iface 169 (.agg #[.int .i64 e])) (fun (r:ao)=>(.tup [],[(0, .box 173 [.d (.str r.s)])])) z:=by
 refine LJ.lL.code Tryz.func118 rfl 20 rfl rfl [0] rfl fun w0 F0 S0 B0=>?_
 unfold bB at H
 refine Ws (G (R 2 rfl (NQ (Wd rfl H (fun H=>?_) (fun H=>?_)))))
 ·refine Wg (R 2 rfl ?_)
  cases H
  exact WL.panicI rfl rfl rfl rfl rfl rfl rfl (by kernel_rfl) ⟨_,rfl,rfl⟩
 refine Wk (Qn (Wg ?_))
 obtain ⟨g2,H⟩:=av H
 refine RS 9 rfl ⟨(rD g2),tv⟩ (Ef 0 rfl (Wn ?_))
 cases H
 refine ⟨_,rfl,?_⟩
 exact Ends.auton rfl rfl rfl p1
theorem nw (a0:ao) (a1:Int) (a2:Int) {r:ao} (H:bB a0 a1 a2=some (.inr r)):LJ.Spec Tryz.prog 118 [.ptr 0 0, .d (.int .i64 a1), .d (.int .i64 a2)] [(0, .box 173 [.d (.str a0.s)])] (.tup []) [(0, .box 173 [.d (.str r.s)])]:=js a0 a1 a2 H
theorem cV (a0:ao) (a1:Int) (a2:Int) {e:Int} (H:bB a0 a1 a2=some (.inl e)):LJ.lz Tryz.prog 118 [.ptr 0 0, .d (.int .i64 a1), .d (.int .i64 a2)] [(0, .box 173 [.d (.str a0.s)])] (.iface 169 (.agg #[.int .i64 e])):=js a0 a1 a2 H
theorem cW (n0:Nat) (hn:cD [n0]=true) (a0:ao) (a1:Int) (a2:Int) {r:ao} (H:bB a0 a1 a2=some (.inr r)):LJ.Spec Tryz.prog 118 [.ptr n0 0, .d (.int .i64 a1), .d (.int .i64 a2)] [(n0, .box 173 [.d (.str a0.s)])] (.tup []) [(n0, .box 173 [.d (.str r.s)])]:=
 Spec.names [n0] hn rfl rfl (nw a0 a1 a2 H)
theorem bw:aD Tryz.prog 118 Tryz.f118:=⟨Tryz.func118,rfl,by kernel_rfl⟩
theorem jU (a0:ao) {z:Int ⊕ (Int×ao)} (H:cg a0=some z):LJ.lL Tryz.prog 140 [.ptr 0 0] [(0, .box 173 [.d (.str a0.s)])] (fun e=> .iface 169 (.agg #[.int .i64 e])) (fun (r:Int×ao)=>(.d (.int .i64 r.1),[(0, .box 173 [.d (.str r.2.s)])])) z:=by
 refine LJ.lL.code Tryz.func140 rfl 27 rfl rfl [0] rfl fun w0 F0 S0 B0=>?_
 unfold cg at H
 refine G (R 1 rfl (N (R 4 rfl ?_)))
 obtain ⟨x1,hx1,H⟩:=al H
 refine Cl [2090] (gX 2090 rfl _ hx1) gY rfl tv rfl (R 1 rfl (N (R 1 rfl ?_)))
 obtain ⟨x2,hx2,H⟩:=al H
 refine Cl [] (cj 2090 rfl _ hx2) ck rfl p1 rfl (R 1 rfl (NQ (Ws ?_)))
 obtain ⟨x3_7_1,hx3_7_1,H⟩:=al H
 obtain ⟨x3_10_1,hx3_10_1,H⟩:=al H
 rcases fy H with ⟨e,hx3_11_1,rfl⟩ | ⟨x3_11_1r,hx3_11_1,H⟩
 ·refine Hp (.one 0 true (.one 1 true (.one 2 true (.one 3 true (.one 6 true (.one 9 true (.fork (.one 4 false (.one 5 true (.one 7 false (.one 8 true (.one 10 false (.one 11 false .done)))))) (.one 7 false (.fork (.one 4 false (.one 5 true (.one 8 true (.one 10 false (.one 11 false .done))))) (.one 10 false (.one 4 false (.one 5 true (.one 8 true (.one 11 false .done)))))))))))))) [0,2090] [] rfl (by kernel_rfl) rfl (by kernel_rfl) rfl rfl (fun _ h=>h) rfl rfl rfl (fun _ _ _ h=>h) fun FK NK wK K=>(Hr 6 tk rfl rfl rfl rfl tv (WH.fork ?_ ?_))
  ·exact WH.val tk rfl rfl rfl rfl rfl tv rfl rfl (Hr 1 tk rfl rfl rfl rfl tv (WH.call [] rfl (cR 2090 rfl _ hx3_7_1) cS rfl rfl p1 rfl rfl rfl rfl rfl (Hr 1 tk rfl rfl rfl rfl tv (WH.call [] rfl (aQ 2090 rfl _ hx3_10_1) aR rfl rfl p1 rfl rfl rfl rfl rfl (WH.callP rfl (cV _ _ _ hx3_11_1) bw rfl rfl p1 rfl rfl rfl ⟨_,rfl,rfl⟩)))))
  ·refine WH.call [] rfl (cR 2090 rfl _ hx3_7_1) cS rfl rfl p1 rfl rfl rfl rfl rfl (WH.fork ?_ ?_)
   ·exact WH.val tk rfl rfl rfl rfl rfl tv rfl rfl (Hr 2 tk rfl rfl rfl rfl tv (WH.call [] rfl (aQ 2090 rfl _ hx3_10_1) aR rfl rfl p1 rfl rfl rfl rfl rfl (WH.callP rfl (cV _ _ _ hx3_11_1) bw rfl rfl p1 rfl rfl rfl ⟨_,rfl,rfl⟩)))
   ·exact WH.call [] rfl (aQ 2090 rfl _ hx3_10_1) aR rfl rfl p1 rfl rfl rfl rfl rfl (WH.val tk rfl rfl rfl rfl rfl tv rfl rfl (Hr 2 tk rfl rfl rfl rfl tv (WH.callP rfl (cV _ _ _ hx3_11_1) bw rfl rfl p1 rfl rfl rfl ⟨_,rfl,rfl⟩)))
 refine WC.heldF [(4, .d (.int .u64 x2.1))] [(0, .box 173 [.d (.str x3_11_1r.s)])] (sT 0 (sT 1 (sT 2 (sT 3 (sT 6 (sT 9 (fk (sf 4 (sT 5 (sf 7 (sT 8 (sf 10 (sf 11 sd)))))) (sf 7 (fk (sf 4 (sT 5 (sT 8 (sf 10 (sf 11 sd))))) (sf 10 (sf 4 (sT 5 (sT 8 (sf 11 sd)))))))))))))) [0,2090] [] rfl (by kernel_rfl) rfl (by kernel_rfl) rfl rfl (fun _ h=>h) rfl rfl rfl (fun FK NK wK K=>?_) ?_
 ·refine Hr 6 tk rfl rfl rfl rfl tv (WH.fork ?_ ?_)
  ·exact WH.val tk rfl rfl rfl rfl rfl tv rfl rfl (Hr 1 tk rfl rfl rfl rfl tv (WH.call [] rfl (cR 2090 rfl _ hx3_7_1) cS rfl rfl p1 rfl rfl rfl rfl rfl (Hr 1 tk rfl rfl rfl rfl tv (WH.call [] rfl (aQ 2090 rfl _ hx3_10_1) aR rfl rfl p1 rfl rfl rfl rfl rfl (WH.call [] rfl (cW 0 rfl _ _ _ hx3_11_1) bw rfl rfl p1 rfl rfl rfl rfl rfl (Hn rfl (Lw q1 p1)))))))
  ·refine WH.call [] rfl (cR 2090 rfl _ hx3_7_1) cS rfl rfl p1 rfl rfl rfl rfl rfl (WH.fork ?_ ?_)
   ·exact WH.val tk rfl rfl rfl rfl rfl tv rfl rfl (Hr 2 tk rfl rfl rfl rfl tv (WH.call [] rfl (aQ 2090 rfl _ hx3_10_1) aR rfl rfl p1 rfl rfl rfl rfl rfl (WH.call [] rfl (cW 0 rfl _ _ _ hx3_11_1) bw rfl rfl p1 rfl rfl rfl rfl rfl (Hn rfl (Lw q1 p1)))))
   ·exact WH.call [] rfl (aQ 2090 rfl _ hx3_10_1) aR rfl rfl p1 rfl rfl rfl rfl rfl (WH.val tk rfl rfl rfl rfl rfl tv rfl rfl (Hr 2 tk rfl rfl rfl rfl tv (WH.call [] rfl (cW 0 rfl _ _ _ hx3_11_1) bw rfl rfl p1 rfl rfl rfl rfl rfl (Hn rfl (Lw q1 p1)))))
 ·refine Qn (G (R 1 rfl (WL.yv (LJ.Y.min rfl rfl rfl) rfl rfl rfl (R 2 rfl (NQ (Wt ?_))))))
  cases H
  refine ⟨_,rfl,?_⟩
  exact Ea rfl rfl rfl p1
theorem nX (a0:ao) {r:Int×ao} (H:cg a0=some (.inr r)):LJ.Spec Tryz.prog 140 [.ptr 0 0] [(0, .box 173 [.d (.str a0.s)])] (.d (.int .i64 r.1)) [(0, .box 173 [.d (.str r.2.s)])]:=jU a0 H
theorem gG (a0:ao) {e:Int} (H:cg a0=some (.inl e)):LJ.lz Tryz.prog 140 [.ptr 0 0] [(0, .box 173 [.d (.str a0.s)])] (.iface 169 (.agg #[.int .i64 e])):=jU a0 H
theorem gH (n0:Nat) (hn:cD [n0]=true) (a0:ao) {r:Int×ao} (H:cg a0=some (.inr r)):LJ.Spec Tryz.prog 140 [.ptr n0 0] [(n0, .box 173 [.d (.str a0.s)])] (.d (.int .i64 r.1)) [(n0, .box 173 [.d (.str r.2.s)])]:=
 Spec.names [n0] hn rfl rfl (nX a0 H)
theorem dp:aD Tryz.prog 140 Tryz.f140:=⟨Tryz.func140,rfl,by kernel_rfl⟩
theorem jt (a0:ao) (a1:Int) {z:Int ⊕ (Int×ao)} (H:bU a0 a1=some z):LJ.lL Tryz.prog 119 [.ptr 0 0, .d (.int .i64 a1)] [(0, .box 173 [.d (.str a0.s)])] (fun e=> .iface 169 (.agg #[.int .i64 e])) (fun (r:Int×ao)=>(.d (.int .i64 r.1),[(0, .box 173 [.d (.str r.2.s)])])) z:=by
 refine LJ.lL.code Tryz.func119 rfl 14 rfl rfl [0] rfl fun w0 F0 S0 B0=>?_
 unfold bU at H
 refine G (R 1 rfl (N (R 1 rfl ?_)))
 rcases fy H with ⟨e,hx1,rfl⟩ | ⟨x1r,hx1,H⟩
 ·exact WL.callP (gG _ hx1) dp rfl rfl p1 rfl rfl ⟨_,rfl,rfl⟩
 refine Cl [] (gH 0 rfl _ hx1) dp rfl p1 rfl (R 1 rfl (NS (G (R 3 rfl (NQ (Wd rfl H (fun H=>?_) (fun H=>?_)))))))
 ·refine Wg (R 1 rfl ?_)
  cases H
  exact WL.panicI rfl rfl rfl rfl rfl rfl rfl (by kernel_rfl) ⟨_,rfl,rfl⟩
 refine Wk (Qn (G (R 2 rfl (NQ (Wt ?_)))))
 cases H
 refine ⟨_,rfl,?_⟩
 exact Ea rfl rfl rfl p1
theorem ny (a0:ao) (a1:Int) {r:Int×ao} (H:bU a0 a1=some (.inr r)):LJ.Spec Tryz.prog 119 [.ptr 0 0, .d (.int .i64 a1)] [(0, .box 173 [.d (.str a0.s)])] (.d (.int .i64 r.1)) [(0, .box 173 [.d (.str r.2.s)])]:=jt a0 a1 H
theorem gi (a0:ao) (a1:Int) {e:Int} (H:bU a0 a1=some (.inl e)):LJ.lz Tryz.prog 119 [.ptr 0 0, .d (.int .i64 a1)] [(0, .box 173 [.d (.str a0.s)])] (.iface 169 (.agg #[.int .i64 e])):=jt a0 a1 H
theorem gj (n0:Nat) (hn:cD [n0]=true) (a0:ao) (a1:Int) {r:Int×ao} (H:bU a0 a1=some (.inr r)):LJ.Spec Tryz.prog 119 [.ptr n0 0, .d (.int .i64 a1)] [(n0, .box 173 [.d (.str a0.s)])] (.d (.int .i64 r.1)) [(n0, .box 173 [.d (.str r.2.s)])]:=
 Spec.names [n0] hn rfl rfl (ny a0 a1 H)
theorem cX:aD Tryz.prog 119 Tryz.f119:=⟨Tryz.func119,rfl,by kernel_rfl⟩
theorem wP (a0:ak) (a1:Int) {r:Int×Int×ak} (H:iT a0 a1=some r):LJ.Spec Tryz.prog 141 [.ptr 0 0, .d (.int .u64 a1)] [(0, .box 131 [.d (.str a0.s), .d (.int .i64 a0.at_), .d (.int .i64 a0.err)])] (.tup [.d (.int .i64 r.1), .d (.int .i64 r.2.1)]) [(0, .box 131 [.d (.str r.2.2.s), .d (.int .i64 r.2.2.at_), .d (.int .i64 r.2.2.err)])]:=by
 refine LJ.Spec.code Tryz.func141 rfl 16 rfl rfl [0] rfl fun w0 F0 S0 B0=>?_
 unfold iT at H
 refine G (R 2 rfl (N (R 1 rfl ?_)))
 obtain ⟨x1,hx1,H⟩:=al H
 refine Cl [] (cj 0 rfl _ hx1) ck rfl p1 rfl (R 1 rfl (NS (G (R 3 rfl (NQ (Wd rfl H (fun H=>?_) (fun H=>?_)))))))
 ·refine G (R 2 rfl (NQ (Wt (QT.r ?_))))
  cases H
  exact Ea rfl rfl rfl p1
 refine Wk (Qn (G (R 3 rfl ?_)))
 obtain ⟨x3,hx3,H⟩:=al H
 refine Cl [] (aQ 0 rfl _ hx3) aR rfl p1 rfl (R 2 rfl (NQ (Wt ?_)))
 cases H
 exact Ea rfl rfl rfl p1
theorem qM (n0:Nat) (hn:cD [n0]=true) (a0:ak) (a1:Int) {r:Int×Int×ak} (H:iT a0 a1=some r):LJ.Spec Tryz.prog 141 [.ptr n0 0, .d (.int .u64 a1)] [(n0, .box 131 [.d (.str a0.s), .d (.int .i64 a0.at_), .d (.int .i64 a0.err)])] (.tup [.d (.int .i64 r.1), .d (.int .i64 r.2.1)]) [(n0, .box 131 [.d (.str r.2.2.s), .d (.int .i64 r.2.2.at_), .d (.int .i64 r.2.2.err)])]:=
 Spec.names [n0] hn rfl rfl (wP a0 a1 H)
theorem qN:aD Tryz.prog 141 Tryz.f141:=⟨Tryz.func141,rfl,by kernel_rfl⟩
theorem wQ (a0:ak) {r:af×Int×ak} (H:jJ a0=some r):LJ.Spec Tryz.prog 142 [.ptr 0 0] [(0, .box 131 [.d (.str a0.s), .d (.int .i64 a0.at_), .d (.int .i64 a0.err)])] (.tup [.d (.agg [.int .i64 r.1.Kind, .int .i64 r.1.Obj, .int .i64 r.1.N]), .d (.int .i64 r.2.1)]) [(0, .box 131 [.d (.str r.2.2.s), .d (.int .i64 r.2.2.at_), .d (.int .i64 r.2.2.err)])]:=by
 refine LJ.Spec.code Tryz.func142 rfl 40 rfl rfl [0] rfl fun w0 F0 S0 B0=>?_
 unfold jJ at H
 refine G (Wa 102 tk rfl rfl rfl (R 1 rfl (N (R 1 rfl ?_))))
 obtain ⟨x1,hx1,H⟩:=al H
 refine Cl [] (fc 0 rfl _ hx1) fe rfl p1 rfl (R 1 rfl (Wa 104 tk rfl rfl rfl (Ef 0 rfl (NS (G (R 1 rfl ?_))))))
 obtain ⟨x2,hx2,H⟩:=al H
 refine Cl [] (aQ 0 rfl _ hx2) aR rfl p1 rfl (R 1 rfl (N (R 2 rfl (NQ (Wd rfl H (fun H=>?_) (fun H=>?_))))))
 ·refine G (R 2 rfl (Ef 0 rfl (R 1 rfl (NQ (Wt (QT.r ?_))))))
  cases H
  exact Ends.autoC tk rfl rfl rfl p1
 refine Wk (Qn (Ws (G (R 4 rfl (Wx 3 3 false tk sg0 rfl rfl (fun _=>tv) (RS 1 rfl ⟨by first | exact id | exact fun h=>by rw [h];rfl | simp_all,tv⟩ (NQ (Wd rfl H (fun H=>?_) (fun H=>?_)))))))))
 ·refine G (R 1 rfl (Ef 0 rfl (R 1 rfl (NQ (Wt (QT.r ?_))))))
  cases H
  exact Ends.autoC tk rfl rfl rfl p1
 refine Wk (Qn (G (R 1 rfl ?_)))
 obtain ⟨x5,hx5,H⟩:=al H
 refine Cl [] (cj 0 rfl _ hx5) ck rfl p1 rfl (WL.yv (LJ.Y.min rfl rfl rfl) rfl rfl rfl (R 2 rfl (Ef 0 rfl (NS (G (R 2 rfl ?_))))))
 obtain ⟨x6,hx6,H⟩:=al H
 refine Cl [] (bo _ hx6) bt rfl tv rfl (NQ (Wd rfl H (fun H=>?_) (fun H=>?_)))
 ·refine Wg (R 1 rfl ?_)
  obtain ⟨x8,hx8,H⟩:=al H
  refine Cl [] (cj 0 rfl _ hx8) ck rfl p1 rfl (WL.yv (LJ.Y.min rfl rfl rfl) rfl rfl rfl (R 2 rfl (Ef 0 rfl (NS (Hp (.one 0 true (.one 1 true (.one 2 false (.one 3 false (.one 4 true .done))))) [0,102,104] [104] rfl (by kernel_rfl) rfl (by kernel_rfl) rfl rfl (fun _ h=>h) rfl rfl rfl (fun _ _ _ h=>h) fun FK NK wK K=>(Hr 2 tk rfl rfl rfl rfl tv ?_))))))
  obtain ⟨x9,hx9,H⟩:=al H
  refine WH.call [] rfl (aQ 0 rfl _ hx9) aR rfl rfl p1 rfl rfl rfl rfl rfl (He 0 tk ek rfl rfl rfl rfl tv rfl rfl (Hr 1 tk rfl rfl rfl rfl tv (WH.nil rfl (Qn (Wt ?_)))))
  cases H
  exact Ends.autoC tk rfl rfl rfl p1
 refine Wk (Qn (Ws (Hp (.one 0 true (.one 1 true (.one 2 false (.one 3 false (.one 4 true .done))))) [0,102,104] [104] rfl (by kernel_rfl) rfl (by kernel_rfl) rfl rfl (fun _ h=>h) rfl rfl rfl (fun _ _ _ h=>h) fun FK NK wK K=>(Hr 2 tk rfl rfl rfl rfl tv ?_))))
 obtain ⟨x10,hx10,H⟩:=al H
 refine WH.call [] rfl (aQ 0 rfl _ hx10) aR rfl rfl p1 rfl rfl rfl rfl rfl (He 0 tk ek rfl rfl rfl rfl tv rfl rfl (Hr 1 tk rfl rfl rfl rfl tv (WH.nil rfl (Qn (Wt ?_)))))
 cases H
 exact Ends.autoC tk rfl rfl rfl p1
theorem wR (n0:Nat) (hn:cD [n0]=true) (a0:ak) {r:af×Int×ak} (H:jJ a0=some r):LJ.Spec Tryz.prog 142 [.ptr n0 0] [(n0, .box 131 [.d (.str a0.s), .d (.int .i64 a0.at_), .d (.int .i64 a0.err)])] (.tup [.d (.agg [.int .i64 r.1.Kind, .int .i64 r.1.Obj, .int .i64 r.1.N]), .d (.int .i64 r.2.1)]) [(n0, .box 131 [.d (.str r.2.2.s), .d (.int .i64 r.2.2.at_), .d (.int .i64 r.2.2.err)])]:=
 Spec.names [n0] hn rfl rfl (wQ a0 H)
theorem wS:aD Tryz.prog 142 Tryz.f142:=⟨Tryz.func142,rfl,by kernel_rfl⟩
theorem yX (a0:List ai) (a1:ByteArray) {r:(List (List af))×Int×Int} (H:mW a0 a1=some r):LJ.Spec Tryz.prog 120 [.d (slT ah a0), .d (.str a1)] [] (.tup [.d (slT aC r.1), .d (.int .i64 r.2.1), .d (.int .i64 r.2.2)]) []:=by
 refine LJ.Spec.code Tryz.func120 rfl 71 rfl rfl [] rfl fun w0 F0 S0 B0=>?_
 unfold mW at H
 refine G (R 3 rfl (N (R 1 rfl ?_)))
 obtain ⟨x1,hx1,H⟩:=al H
 refine Cl [2180] (gX 2180 rfl _ hx1) gY rfl tv rfl (R 1 rfl (N (R 1 rfl ?_)))
 obtain ⟨x2,hx2,H⟩:=al H
 refine Cl [] (qM 2180 rfl _ _ hx2) qN rfl p1 rfl (R 5 rfl (NS (G (R 2 rfl (NQ (Wd rfl H (fun H=>?_) (fun H=>?_)))))))
 ·refine G (R 4 rfl (NQ (WC.nilT 4 aC rfl (Wt (QT.r ?_)))))
  cases H
  exact Ea rfl rfl rfl tv
 refine Wk (Qn (G (R 1 rfl (NS (G (R 2 rfl (NQ (Wb (WC.nilrow (t:=10) 1054 142 1 rfl rfl rfl (Wl (ι:= {x:Nat×(Int×(List (List af))×ByteArray×Int×Int) //fa a0 a1 x2 x.1 x.2=some r}) (fun x=>[(0, .d (slT ah a0)),(1, .d (.str a1)),(7, .ptr 2180 0),(10, .own 1054),(27, .d (.int .i64 x2.1)),(28, .d (.int .i64 x.1.2.1))]) (fun x=>[(1054, .row 142 1 (x.1.2.2.1.map aC)),(2180, .box 131 [.d (.str x.1.2.2.2.1), .d (.int .i64 x.1.2.2.2.2.1), .d (.int .i64 x.1.2.2.2.2.2)])]) (fun x=>x.1.1) ⟨(fuel,(0,([]:List (List af)),x2.2.2.s,x2.2.2.at_,x2.2.2.err)),H⟩ (Lm p6 p2) fun x=>?_))))))))))
 obtain ⟨⟨k6,s5⟩,H⟩:=x
 rcases k6 with _ | k6
 ·exact aP H
 rw [fa] at H
 refine G (R 1 rfl (NS (Wd rfl H (fun H=>?_) (fun H=>?_))))
 ·refine Wk (Qn ?_)
  obtain ⟨K8,hK8,H⟩:=da H
  refine WC.cut (fun E m=>∃ s9:(List (List af))×ByteArray×Int×Int,K8 s9=some r∧hJ E m [(0, .d (slT ah a0)),(1, .d (.str a1)),(7, .ptr 2180 0),(10, .own 1054),(27, .d (.int .i64 x2.1)),(28, .d (.int .i64 s5.1))] [(1054, .row 142 1 (s9.1.map aC)),(2180, .box 131 [.d (.str s9.2.1), .d (.int .i64 s9.2.2.1), .d (.int .i64 s9.2.2.2)])]) ?_ ?_
  ·refine Wb (G (R 1 rfl ?_))
   obtain ⟨x10,hx10,H⟩:=al H
   refine Cl [] (qM 2180 rfl _ _ hx10) qN rfl p1 rfl (R 5 rfl (NS (G (R 2 rfl (NQ (Wd rfl H (fun H=>?_) (fun H=>?_)))))))
   ·refine G (R 4 rfl (NQ (WC.nilT 4 aC rfl (Wt (QT.r (QB.r (QT.r (QT.r (QB.r (QT.r ?_))))))))))
    cases H
    exact Ea rfl rfl rfl tv
   refine Wk (Qn (G (R 1 rfl (NS (G (R 2 rfl (NQ (Wb (WC.nilrow (t:=13) 1049 159 3 rfl rfl rfl (Wl (ι:= {x:Nat×(Int×(List af)×ByteArray×Int×Int) //e9 s5 K8 x10 x.1 x.2=some r}) (fun x=>[(0, .d (slT ah a0)),(1, .d (.str a1)),(7, .ptr 2180 0),(10, .own 1054),(13, .own 1049),(27, .d (.int .i64 x2.1)),(28, .d (.int .i64 s5.1)),(38, .d (.int .i64 x10.1)),(39, .d (.int .i64 x.1.2.1))]) (fun x=>[(1049, .row 159 3 (x.1.2.2.1.map bn)),(1054, .row 142 1 (s5.2.1.map aC)),(2180, .box 131 [.d (.str x.1.2.2.2.1), .d (.int .i64 x.1.2.2.2.2.1), .d (.int .i64 x.1.2.2.2.2.2)])]) (fun x=>x.1.1) ⟨(fuel,(0,([]:List af),x10.2.2.s,x10.2.2.at_,x10.2.2.err)),H⟩ (Lm p9 p3) fun x=>?_))))))))))
   obtain ⟨⟨k14,s13⟩,H⟩:=x
   rcases k14 with _ | k14
   ·exact aP H
   rw [e9] at H
   refine G (R 1 rfl (NS (Wd rfl H (fun H=>?_) (fun H=>?_))))
   ·refine Wk (Qn (Ws (Wb (G (R 1 rfl ?_)))))
    obtain ⟨x16,hx16,H⟩:=al H
    refine Cl [] (wR 2180 rfl _ hx16) wS rfl p1 rfl (R 3 rfl (Wa 114 tk rfl rfl rfl (Ef 0 rfl (R 1 rfl (NS (G (R 2 rfl (NQ (Wd rfl H (fun H=>?_) (fun H=>?_))))))))))
    ·refine G (R 4 rfl (NQ (WC.nilT 4 aC rfl (Wt (QT.r (QB.r (QT.r (QT.r (QB.r (QT.r (QB.r (QT.r (QT.r (QB.r (QT.r ?_)))))))))))))))
     cases H
     exact Ea rfl rfl rfl tv
    refine Wk (Qn (Wg (R 2 rfl (Ef 151 rfl (WL.freezeT 151 bn ([x16.1]:List af) rfl rfl rfl rfl ?_)))))
    obtain ⟨g18,H⟩:=av H
    refine WL.appT bn s13.2.1 ([x16.1]:List af) tk ek rfl rfl (fun _=>rfl) (fun _=>rfl) rfl rfl rfl rfl (bX g18) rfl rfl rfl rfl rfl ?_
    refine R 1 rfl (Wn (Qb (Qn ?_)))
    exact Wg (R 2 rfl (NQ (⟨⟨(k14,(IntKind.i64.wrap (s13.1+1),s13.2.1++([x16.1]:List af),x16.2.2.s,x16.2.2.at_,x16.2.2.err)),H⟩,Z,Lm p9 p3⟩)))
   refine WC.exit (Qx (Qx (Qh (Qn ?_))))
   refine Wg (R 2 rfl (WL.freezeT 1049 bn s13.2.1 rfl rfl rfl rfl (Ef 156 rfl (WL.freezeT 156 aC ([s13.2.1]:List (List af)) rfl rfl rfl rfl ?_))))
   obtain ⟨g19,H⟩:=av H
   refine WL.appT aC s5.2.1 ([s13.2.1]:List (List af)) tk ek rfl rfl (fun _=>rfl) (fun _=>rfl) rfl rfl rfl rfl (bX g19) rfl rfl rfl rfl rfl ?_
   refine R 1 rfl (Wn (Qb (Qn ?_)))
   exact ⟨(s5.2.1++([s13.2.1]:List (List af)),s13.2.2.1,s13.2.2.2.1,s13.2.2.2.2),H,Lw q6 p2⟩
  ·rintro E m ⟨s9,H,hl⟩
   refine WC.lessW hl ?_
   replace H:=(hK8 _).symm.trans H
   try dsimp only at H
   exact Wg (R 2 rfl (NQ (⟨⟨(k6,(IntKind.i64.wrap (s5.1+1),s9.1,s9.2.1,s9.2.2.1,s9.2.2.2)),H⟩,Z,Lm p6 p2⟩)))
 refine WC.exit (Qx (Qx (Qh (Qn ?_))))
 refine Ws (G (R 2 rfl (WL.freezeT 1054 aC s5.2.1 rfl rfl rfl rfl ?_)))
 obtain ⟨x20,hx20,H⟩:=al H
 refine Cl [] (kL _ _ hx20) kM rfl tv rfl (R 1 rfl (N (R 2 rfl (NQ (Wd rfl H (fun H=>?_) (fun H=>?_))))))
 ·refine G (R 4 rfl (NQ (WC.nilT 4 aC rfl (Wt (QT.r ?_)))))
  cases H
  exact Ea rfl rfl rfl tv
 refine Wk (Qn (G (R 4 rfl ?_)))
 obtain ⟨x22,hx22,H⟩:=al H
 refine Cl [] (cR 2180 rfl _ hx22) cS rfl p1 rfl (R 4 rfl (NQ (Wt ?_)))
 cases H
 exact Ea rfl rfl rfl tv
theorem yY:aD Tryz.prog 120 Tryz.f120:=⟨Tryz.func120,rfl,by kernel_rfl⟩
theorem Bj (a0:ByteArray) {r:aq×Int×Int} (H:pG a0=some r):LJ.Spec Tryz.prog 143 [.d (.str a0)] [] (.tup [.d (.agg [.int .i64 r.1.Op, .int .i64 r.1.A, .int .i64 r.1.B]), .d (.int .i64 r.2.1), .d (.int .i64 r.2.2)]) []:=by
 refine LJ.Spec.code Tryz.func143 rfl 76 rfl rfl [] rfl fun w0 F0 S0 B0=>?_
 unfold pG at H
 refine G (Wa 102 tk rfl rfl rfl (R 2 rfl (N (R 1 rfl ?_))))
 obtain ⟨x1,hx1,H⟩:=al H
 refine Cl [2140] (gX 2140 rfl _ hx1) gY rfl tv rfl (R 1 rfl (N (R 1 rfl ?_)))
 obtain ⟨x2,hx2,H⟩:=al H
 refine Cl [] (fc 2140 rfl _ hx2) fe rfl p1 rfl (R 1 rfl (Wa 106 tk rfl rfl rfl (Ef 0 rfl (NS (G (R 1 rfl ?_))))))
 obtain ⟨x3,hx3,H⟩:=al H
 refine Cl [] (aQ 2140 rfl _ hx3) aR rfl p1 rfl (R 1 rfl (N (R 2 rfl (NQ (Wd rfl H (fun H=>?_) (fun H=>?_))))))
 ·refine G (R 2 rfl (Ef 0 rfl (R 2 rfl (NQ (Wt (QT.r ?_))))))
  cases H
  exact Ends.autoC tk rfl rfl rfl tv
 refine Wk (Qn (Ws (G (R 2 rfl ?_))))
 obtain ⟨x5,hx5,H⟩:=al H
 refine Cl [] (u6 _ hx5) u7 rfl tv rfl (R 1 rfl (NQ (Wd rfl H (fun H=>?_) (fun H=>?_))))
 ·refine G (R 1 rfl (Ef 0 rfl (R 2 rfl (NQ (Wt (QT.r ?_))))))
  cases H
  exact Ends.autoC tk rfl rfl rfl tv
 refine Wk (Qn (G (R 2 rfl ?_)))
 obtain ⟨x7,hx7,H⟩:=al H
 refine Cl [] (gd _ hx7) gf rfl tv rfl (R 1 rfl (N (WL.allocZ 109 [.int .i64 0, .int .i64 0] rfl (by kernel_rfl) rfl rfl rfl rfl (NS (G (R 3 rfl (NQ (Wb (Wl (ι:= {x:Nat×(Int×(List Int)×ByteArray×Int×Int) //eN a0 x2 x7 x.1 x.2=some r}) (fun x=>[(0, .d (.str a0)),(2, .ptr 102 0),(5, .ptr 2140 0),(6, .ptr 106 0),(8, .d (.str x7)),(9, .ptr 109 0),(33, .d (.int .i64 (x7.size:Int))),(34, .d (.int .i64 x.1.2.1))]) (fun x=>[(102, .box 100 [.d (.int .i64 0), .d (.int .i64 0), .d (.int .i64 0)]),(106, .box 100 [.d (.int .i64 x2.1), .d (.int .i64 0), .d (.int .i64 0)]),(109, .box 161 [.d (.int .i64 (x.1.2.2.1.getD 0 default)), .d (.int .i64 (x.1.2.2.1.getD 1 default))]),(2140, .box 131 [.d (.str x.1.2.2.2.1), .d (.int .i64 x.1.2.2.2.2.1), .d (.int .i64 x.1.2.2.2.2.2)])]) (fun x=>x.1.1) ⟨(fuel,(0,([0,0]:List Int),x2.2.s,x2.2.at_,x2.2.err)),H⟩ (Lm p8 p4) fun x=>?_)))))))))
 obtain ⟨⟨k9,s8⟩,H⟩:=x
 rcases k9 with _ | k9
 ·exact aP H
 rw [eN] at H
 refine G (R 1 rfl (NS (Wd rfl H (fun H=>?_) (fun H=>?_))))
 ·refine Wk (Qn (Ws (Wb (G (R 2 rfl (NS (G ?_)))))))
  obtain ⟨g11,H⟩:=av H
  refine RS 4 rfl ⟨(an g11),tv⟩ (NQ (Wd rfl H (fun H=>?_) (fun H=>?_)))
  ·refine Wg (R 2 rfl ?_)
   obtain ⟨x13,hx13,H⟩:=al H
   refine Cl [] (gN 2140 rfl _ hx13) gO rfl p1 rfl ?_
   obtain ⟨g14,H⟩:=av H
   refine WL.yv (LJ.Y.idxPtrA 2 s8.1 (by kernel_rfl) rfl rfl rfl (an g14)) rfl rfl rfl (WL.wo (WO.storePtrA 2 0 (fun x:Int=>DV.int .i64 x) s8.2.1 x13.1 s8.1 (cs':=[.d (.int .i64 ((aset 2 s8.2.1 s8.1.toNat x13.1).getD 0 default)), .d (.int .i64 ((aset 2 s8.2.1 s8.1.toNat x13.1).getD 1 default))]) rfl rfl rfl rfl rfl (by kernel_rfl) rfl rfl (an g14) rfl rfl rfl) rfl (N (R 1 rfl ?_)))
   obtain ⟨x15,hx15,H⟩:=al H
   refine Cl [] (aQ 2140 rfl _ hx15) aR rfl p1 rfl (R 1 rfl (N (R 2 rfl (NQ (Wd rfl H (fun H=>?_) (fun H=>?_))))))
   ·refine G (R 2 rfl (Ef 0 rfl (R 2 rfl (NQ (Wt (QB.r (QT.r (QT.r (QB.r (QT.r ?_))))))))))
    cases H
    exact Ends.autoC tk rfl rfl rfl tv
   refine Wk (Qb (Qn ?_))
   exact Wg (R 2 rfl (NQ (⟨⟨(k9,(IntKind.i64.wrap (s8.1+1),(aset 2 s8.2.1 s8.1.toNat x13.1),x13.2.s,x13.2.at_,x13.2.err)),H⟩,Z,Lm p8 p4⟩)))
  refine Wg (R 2 rfl ?_)
  obtain ⟨x17,hx17,H⟩:=al H
  refine Cl [] (cj 2140 rfl _ hx17) ck rfl p1 rfl (WL.yv (LJ.Y.min rfl rfl rfl) rfl rfl rfl (R 1 rfl ?_))
  obtain ⟨g18,H⟩:=av H
  refine WL.yv (LJ.Y.idxPtrA 2 s8.1 (by kernel_rfl) rfl rfl rfl (an g18)) rfl rfl rfl (WL.wo (WO.storePtrA 2 0 (fun x:Int=>DV.int .i64 x) s8.2.1 (IntKind.i64.wrap (iMin x17.1 (2147483648:Int))) s8.1 (cs':=[.d (.int .i64 ((aset 2 s8.2.1 s8.1.toNat (IntKind.i64.wrap (iMin x17.1 (2147483648:Int)))).getD 0 default)), .d (.int .i64 ((aset 2 s8.2.1 s8.1.toNat (IntKind.i64.wrap (iMin x17.1 (2147483648:Int)))).getD 1 default))]) rfl rfl rfl rfl rfl (by kernel_rfl) rfl rfl (an g18) rfl rfl rfl) rfl (N (R 1 rfl ?_)))
  obtain ⟨x19,hx19,H⟩:=al H
  refine Cl [] (aQ 2140 rfl _ hx19) aR rfl p1 rfl (R 1 rfl (N (R 2 rfl (NQ (Wd rfl H (fun H=>?_) (fun H=>?_))))))
  ·refine G (R 2 rfl (Ef 0 rfl (R 2 rfl (NQ (Wt (QB.r (QT.r (QT.r (QB.r (QT.r ?_))))))))))
   cases H
   exact Ends.autoC tk rfl rfl rfl tv
  refine Wk (Qb (Qn ?_))
  exact Wg (R 2 rfl (NQ (⟨⟨(k9,(IntKind.i64.wrap (s8.1+1),(aset 2 s8.2.1 s8.1.toNat (IntKind.i64.wrap (iMin x17.1 (2147483648:Int)))),x17.2.s,x17.2.at_,x17.2.err)),H⟩,Z,Lm p8 p4⟩)))
 refine WC.exit (Qx (Qx (Qh (Qn ?_))))
 refine Ws (Hp (.one 0 true (.one 1 true (.one 2 true (.one 3 true (.one 4 true (.one 5 false (.one 6 true (.one 7 false .done)))))))) [102,106,109,2140] [102,109,2140] rfl (by kernel_rfl) rfl (by kernel_rfl) rfl rfl (fun _ h=>h) rfl rfl rfl (fun _ _ _ h=>h) fun FK NK wK K=>?_)
 obtain ⟨g21,H⟩:=av H
 refine WH.yv rfl (LJ.Y.idxPtrA 2 (0:Int) (by kernel_rfl) rfl rfl rfl (an g21)) rfl rfl rfl (WH.yv rfl (LJ.Y.loadPtrA 2 0 (fun k=> .int .i64 (s8.2.1.getD k default)) (0:Int) rfl rfl rfl (by kernel_rfl) rfl (an g21)) rfl rfl rfl ?_)
 obtain ⟨g22,H⟩:=av H
 refine WH.yv rfl (LJ.Y.idxPtrA 2 (1:Int) (by kernel_rfl) rfl rfl rfl (an g22)) rfl rfl rfl (WH.yv rfl (LJ.Y.loadPtrA 2 0 (fun k=> .int .i64 (s8.2.1.getD k default)) (1:Int) rfl rfl rfl (by kernel_rfl) rfl (an g22)) rfl rfl rfl (Hr 1 tk rfl rfl rfl rfl tv (He 0 tk ek rfl rfl rfl rfl tv rfl rfl (Hr 1 tk rfl rfl rfl rfl tv (He 0 tk ek rfl rfl rfl rfl tv rfl rfl (WH.nil rfl (Qn (Ws (G (R 1 rfl ?_))))))))))
 obtain ⟨x23,hx23,H⟩:=al H
 refine Cl [] (l8 _ hx23) l9 rfl tv rfl (R 1 rfl (N (R 2 rfl (NQ (Wd rfl H (fun H=>?_) (fun H=>?_))))))
 ·refine G (R 2 rfl (Ef 0 rfl (R 2 rfl (NQ (Wt (QT.r ?_))))))
  cases H
  exact Ends.autoC tk rfl rfl rfl tv
 refine Wk (Qn (Ws (Hp (.one 0 true (.one 1 true (.one 2 true (.one 3 true (.one 4 false (.one 5 true (.one 6 false (.one 7 true (.one 8 true .done))))))))) [102,106,109,2140] [106,109] rfl (by kernel_rfl) rfl (by kernel_rfl) rfl rfl (fun _ h=>h) rfl rfl rfl (fun _ _ _ h=>h) fun FK NK wK K=>(Hr 4 tk rfl rfl rfl rfl tv ?_))))
 obtain ⟨x25,hx25,H⟩:=al H
 refine WH.call [] rfl (cR 2140 rfl _ hx25) cS rfl rfl p1 rfl rfl rfl rfl rfl (Hr 1 tk rfl rfl rfl rfl tv (He 0 tk ek rfl rfl rfl rfl tv rfl rfl (Hr 2 tk rfl rfl rfl rfl tv (WH.nil rfl (Qn (Wt ?_))))))
 cases H
 exact Ends.autoC tk rfl rfl rfl tv
theorem Bk:aD Tryz.prog 143 Tryz.f143:=⟨Tryz.func143,rfl,by kernel_rfl⟩
theorem gn (a0:ao) {z:Int ⊕ (aw×ao)} (H:bP a0=some z):LJ.lL Tryz.prog 121 [.ptr 0 0] [(0, .box 173 [.d (.str a0.s)])] (fun e=> .iface 169 (.agg #[.int .i64 e])) (fun (r:aw×ao)=>(.d (.agg [.int .i64 r.1.Args, .int .i64 r.1.Locals,slT aB r.1.Code]),[(0, .box 173 [.d (.str r.2.s)])])) z:=by
 refine LJ.lL.code Tryz.func121 rfl 37 rfl rfl [0] rfl fun w0 F0 S0 B0=>?_
 unfold bP at H
 refine G (Wa 102 tk rfl rfl rfl (N (R 1 rfl ?_)))
 rcases fy H with ⟨e,hx1,rfl⟩ | ⟨x1r,hx1,H⟩
 ·exact WL.callP (gG _ hx1) dp rfl rfl p1 rfl rfl ⟨_,rfl,rfl⟩
 refine Cl [] (gH 0 rfl _ hx1) dp rfl p1 rfl (R 1 rfl ?_)
 rcases fy H with ⟨e,hx2,rfl⟩ | ⟨x2r,hx2,H⟩
 ·exact WL.callP (gG _ hx2) dp rfl rfl p1 rfl rfl ⟨_,rfl,rfl⟩
 refine Cl [] (gH 0 rfl _ hx2) dp rfl p1 rfl (R 1 rfl (Wa 103 tk rfl rfl rfl (Ef 0 rfl (NS (G (R 1 rfl ?_))))))
 rcases fy H with ⟨e,hx3,rfl⟩ | ⟨x3r,hx3,H⟩
 ·exact WL.callP (gi _ _ hx3) cX rfl rfl p1 rfl rfl ⟨_,rfl,rfl⟩
 refine Cl [] (gj 0 rfl _ _ hx3) cX rfl p1 rfl (R 1 rfl (NQ (Wb (WC.nilF 103 2 1030 100 3 rfl (Wl (ι:= {x:Nat×(Int×ByteArray×(List aq)) //bI x1r x2r x3r x.1 x.2=some z}) (fun x=>[(0, .ptr 0 0),(2, .ptr 102 0),(3, .ptr 103 0),(13, .d (.int .i64 x3r.1)),(14, .d (.int .i64 x.1.2.1))]) (fun x=>[(0, .box 173 [.d (.str x.1.2.2.1)]),(102, .box 98 [.d (.int .i64 0), .d (.int .i64 0), .d (.nils)]),(103, .box 98 [.d (.int .i64 x1r.1), .d (.int .i64 x2r.1), .own 1030]),(1030, .row 100 3 (x.1.2.2.2.map aB))]) (fun x=>x.1.1) ⟨(fuel,(0,x3r.2.s,([]:List aq))),H⟩ (Lm p5 p4) fun x=>?_)))))
 obtain ⟨⟨k6,s5⟩,H⟩:=x
 rcases k6 with _ | k6
 ·exact aP H
 rw [bI] at H
 refine G (R 1 rfl (NS (Wd rfl H (fun H=>?_) (fun H=>?_))))
 ·refine Wk (Qn (Ws (Wb (G (R 4 rfl ?_)))))
  obtain ⟨x8,hx8,H⟩:=al H
  refine Cl [] (Bj _ hx8) Bk rfl tv rfl (R 4 rfl (Wa 104 tk rfl rfl rfl (Ef 0 rfl (R 2 rfl (N (R 3 rfl ?_))))))
  rcases fy H with ⟨e,hx9,rfl⟩ | ⟨x9r,hx9,H⟩
  ·exact WL.callP (cV _ _ _ hx9) bw rfl rfl p1 rfl rfl ⟨_,rfl,rfl⟩
  refine Cl [] (cW 0 rfl _ _ _ hx9) bw rfl p1 rfl (NQ (Wg (R 3 rfl (Ef 132 rfl (WL.freezeT 132 aB ([x8.1]:List aq) rfl rfl rfl rfl ?_)))))
  obtain ⟨g10,H⟩:=av H
  refine WL.appT aB s5.2.2 ([x8.1]:List aq) tk ek rfl rfl (fun _=>rfl) (fun _=>rfl) rfl rfl rfl rfl (bX g10) rfl rfl rfl rfl rfl ?_
  refine R 1 rfl (Ef 0 rfl (Wn (Qb (Qn ?_))))
  exact Wg (R 2 rfl (NQ (⟨⟨(k6,(IntKind.i64.wrap (s5.1+1),x9r.s,s5.2.2++([x8.1]:List aq))),H⟩,Z,Lm p5 p4⟩)))
 refine WC.exit (Qx (Qx (Qh (Qn ?_))))
 refine G (WL.freezeT 1030 aB s5.2.2 rfl rfl rfl rfl (R 1 rfl (Ef 0 rfl (NQ (Wt ?_)))))
 cases H
 refine ⟨_,rfl,?_⟩
 exact Ends.autoC tk rfl rfl rfl p1
theorem kj (a0:ao) {r:aw×ao} (H:bP a0=some (.inr r)):LJ.Spec Tryz.prog 121 [.ptr 0 0] [(0, .box 173 [.d (.str a0.s)])] (.d (.agg [.int .i64 r.1.Args, .int .i64 r.1.Locals,slT aB r.1.Code])) [(0, .box 173 [.d (.str r.2.s)])]:=gn a0 H
theorem gp (a0:ao) {e:Int} (H:bP a0=some (.inl e)):LJ.lz Tryz.prog 121 [.ptr 0 0] [(0, .box 173 [.d (.str a0.s)])] (.iface 169 (.agg #[.int .i64 e])):=gn a0 H
theorem gq (n0:Nat) (hn:cD [n0]=true) (a0:ao) {r:aw×ao} (H:bP a0=some (.inr r)):LJ.Spec Tryz.prog 121 [.ptr n0 0] [(n0, .box 173 [.d (.str a0.s)])] (.d (.agg [.int .i64 r.1.Args, .int .i64 r.1.Locals,slT aB r.1.Code])) [(n0, .box 173 [.d (.str r.2.s)])]:=
 Spec.names [n0] hn rfl rfl (kj a0 H)
theorem dy:aD Tryz.prog 121 Tryz.f121:=⟨Tryz.func121,rfl,by kernel_rfl⟩
theorem gZ (a0:ao) {z:Int ⊕ (aa×ao)} (H:bR a0=some z):LJ.lL Tryz.prog 95 [.ptr 0 0] [(0, .box 173 [.d (.str a0.s)])] (fun e=> .iface 169 (.agg #[.int .i64 e])) (fun (r:aa×ao)=>(.d (.agg [slT ah r.1.Decls,slT ab r.1.Waits,slT aj r.1.Funcs]),[(0, .box 173 [.d (.str r.2.s)])])) z:=by
 refine LJ.lL.code Tryz.func95 rfl 71 rfl rfl [0] rfl fun w0 F0 S0 B0=>?_
 unfold bR at H
 refine G (Wa 102 tk rfl rfl rfl (N (R 4 rfl ?_)))
 obtain ⟨x1,hx1,H⟩:=al H
 refine Cl [] (yV _ hx1) yW rfl tv rfl (R 7 rfl (N (R 3 rfl ?_)))
 rcases fy H with ⟨e,hx2,rfl⟩ | ⟨x2r,hx2,H⟩
 ·exact WL.callP (cV _ _ _ hx2) bw rfl rfl p1 rfl rfl ⟨_,rfl,rfl⟩
 refine Cl [] (cW 0 rfl _ _ _ hx2) bw rfl p1 rfl (N (R 2 rfl (Wa 106 tk rfl rfl rfl (Ef 0 rfl (NS (G (R 1 rfl ?_)))))))
 rcases fy H with ⟨e,hx3,rfl⟩ | ⟨x3r,hx3,H⟩
 ·exact WL.callP (gi _ _ hx3) cX rfl rfl p1 rfl rfl ⟨_,rfl,rfl⟩
 refine Cl [] (gj 0 rfl _ _ hx3) cX rfl p1 rfl (R 1 rfl (NQ (Wb (WC.nilF 106 1 1045 94 1 rfl (Wl (ι:= {x:Nat×(Int×ByteArray×(List (List (List af)))) //bQ x1 x3r x.1 x.2=some z}) (fun x=>[(0, .ptr 0 0),(2, .ptr 102 0),(6, .ptr 106 0),(26, .d (.int .i64 x3r.1)),(27, .d (.int .i64 x.1.2.1))]) (fun x=>[(0, .box 173 [.d (.str x.1.2.2.1)]),(102, .box 28 [.d (.nils), .d (.nils), .d (.nils)]),(106, .box 28 [.d (slT ah x1.1), .own 1045, .d (.nils)]),(1045, .row 94 1 (x.1.2.2.2.map ab))]) (fun x=>x.1.1) ⟨(fuel,(0,x3r.2.s,([]:List (List (List af))))),H⟩ (Lm p5 p4) fun x=>?_)))))
 obtain ⟨⟨k6,s5⟩,H⟩:=x
 rcases k6 with _ | k6
 ·exact aP H
 rw [bQ] at H
 refine G (R 1 rfl (NS (Wd rfl H (fun H=>?_) (fun H=>?_))))
 ·refine Wk (Qn (Ws (Wb (Ws ?_))))
  obtain ⟨x6_6_1,hx6_6_1,H⟩:=al H
  refine WC.heldF [(0, .ptr 0 0),(2, .ptr 102 0),(6, .ptr 106 0),(7, .d (slT aC x6_6_1.1)),(8, .d (.int .i64 x6_6_1.2.1)),(9, .d (.int .i64 x6_6_1.2.2)),(26, .d (.int .i64 x3r.1)),(27, .d (.int .i64 s5.1))] [(0, .box 173 [.d (.str s5.2.1)]),(102, .box 28 [.d (.nils), .d (.nils), .d (.nils)]),(106, .box 28 [.d (slT ah x1.1), .own 1045, .d (.nils)]),(1045, .row 94 1 (s5.2.2.map ab))] (sT 0 (sT 1 (sT 2 (sT 3 (sT 4 (sT 5 (sf 6 (sT 7 (fk (sf 8 (sT 11 (fk (sf 9 (sT 12 (sf 10 (sT 13 sd)))) (sf 10 (sf 9 (sT 12 (sT 13 sd))))))) (fk (sf 9 (fk (sf 8 (sT 11 (sT 12 (sf 10 (sT 13 sd))))) (sf 10 (sf 8 (sT 11 (sT 12 (sT 13 sd))))))) (sf 10 (fk (sf 8 (sT 11 (sf 9 (sT 12 (sT 13 sd))))) (sf 9 (sf 8 (sT 11 (sT 12 (sT 13 sd))))))))))))))))) [0,102,106] [0,102,106] rfl (by kernel_rfl) rfl (by kernel_rfl) rfl rfl (fun _ h=>h) rfl rfl rfl (fun FK NK wK K=>?_) ?_
  ·refine Hr 6 tk rfl rfl rfl rfl tv (WH.call [] rfl (yX _ _ hx6_6_1) yY rfl rfl tv rfl rfl rfl rfl rfl (WH.mv rfl rfl rfl rfl rfl rfl rfl rfl rfl (WH.fork ?_ (WH.fork ?_ ?_))))
   ·refine WH.val tk rfl rfl rfl rfl rfl tv rfl rfl (WH.mv rfl rfl rfl rfl rfl rfl rfl rfl rfl (WH.fork ?_ ?_))
    ·exact WH.val tk rfl rfl rfl rfl rfl tv rfl rfl (Hr 1 tk rfl rfl rfl rfl tv (WH.val tk rfl rfl rfl rfl rfl tv rfl rfl (Hr 1 tk rfl rfl rfl rfl tv (Hn rfl (Lw q8 p4)))))
    ·exact WH.val tk rfl rfl rfl rfl rfl tv rfl rfl (WH.val tk rfl rfl rfl rfl rfl tv rfl rfl (Hr 2 tk rfl rfl rfl rfl tv (Hn rfl (Lw q8 p4))))
   ·refine WH.val tk rfl rfl rfl rfl rfl tv rfl rfl (WH.fork ?_ ?_)
    ·exact WH.val tk rfl rfl rfl rfl rfl tv rfl rfl (WH.mv rfl rfl rfl rfl rfl rfl rfl rfl rfl (Hr 1 tk rfl rfl rfl rfl tv (WH.val tk rfl rfl rfl rfl rfl tv rfl rfl (Hr 1 tk rfl rfl rfl rfl tv (Hn rfl (Lw q8 p4))))))
    ·exact WH.val tk rfl rfl rfl rfl rfl tv rfl rfl (WH.val tk rfl rfl rfl rfl rfl tv rfl rfl (WH.mv rfl rfl rfl rfl rfl rfl rfl rfl rfl (Hr 2 tk rfl rfl rfl rfl tv (Hn rfl (Lw q8 p4)))))
   ·refine WH.val tk rfl rfl rfl rfl rfl tv rfl rfl (WH.fork ?_ ?_)
    ·exact WH.val tk rfl rfl rfl rfl rfl tv rfl rfl (WH.mv rfl rfl rfl rfl rfl rfl rfl rfl rfl (WH.val tk rfl rfl rfl rfl rfl tv rfl rfl (Hr 2 tk rfl rfl rfl rfl tv (Hn rfl (Lw q8 p4)))))
    ·exact WH.val tk rfl rfl rfl rfl rfl tv rfl rfl (WH.val tk rfl rfl rfl rfl rfl tv rfl rfl (WH.mv rfl rfl rfl rfl rfl rfl rfl rfl rfl (Hr 2 tk rfl rfl rfl rfl tv (Hn rfl (Lw q8 p4)))))
  ·refine Qn (G (R 3 rfl ?_))
   rcases fy H with ⟨e,hx8,rfl⟩ | ⟨x8r,hx8,H⟩
   ·exact WL.callP (cV _ _ _ hx8) bw rfl rfl p1 rfl rfl ⟨_,rfl,rfl⟩
   refine Cl [] (cW 0 rfl _ _ _ hx8) bw rfl p1 rfl (NQ (Wg (R 3 rfl (Ef 147 rfl (WL.freezeT 147 ab ([x6_6_1.1]:List (List (List af))) rfl rfl rfl rfl ?_)))))
   obtain ⟨g9,H⟩:=av H
   refine WL.appT ab s5.2.2 ([x6_6_1.1]:List (List (List af))) tk ek rfl rfl (fun _=>rfl) (fun _=>rfl) rfl rfl rfl rfl (bX g9) rfl rfl rfl rfl rfl ?_
   refine R 1 rfl (Ef 0 rfl (Wn (Qb (Qn ?_))))
   exact Wg (R 2 rfl (NQ (⟨⟨(k6,(IntKind.i64.wrap (s5.1+1),x8r.s,s5.2.2++([x6_6_1.1]:List (List (List af))))),H⟩,Z,Lm p5 p4⟩)))
 refine WC.exit (Qx (Qx (Qh (Qn ?_))))
 refine Ws (G (R 1 rfl ?_))
 rcases fy H with ⟨e,hx10,rfl⟩ | ⟨x10r,hx10,H⟩
 ·exact WL.callP (gi _ _ hx10) cX rfl rfl p1 rfl rfl ⟨_,rfl,rfl⟩
 refine Cl [] (gj 0 rfl _ _ hx10) cX rfl p1 rfl (R 1 rfl (NQ (Wb (WC.nilF 106 2 1056 98 3 rfl (Wl (ι:= {x:Nat×(Int×ByteArray×(List aw)) //bJ x1 s5 x10r x.1 x.2=some z}) (fun x=>[(0, .ptr 0 0),(2, .ptr 102 0),(6, .ptr 106 0),(52, .d (.int .i64 x10r.1)),(53, .d (.int .i64 x.1.2.1))]) (fun x=>[(0, .box 173 [.d (.str x.1.2.2.1)]),(102, .box 28 [.d (.nils), .d (.nils), .d (.nils)]),(106, .box 28 [.d (slT ah x1.1), .own 1045, .own 1056]),(1045, .row 94 1 (s5.2.2.map ab)),(1056, .row 98 3 (x.1.2.2.2.map aj))]) (fun x=>x.1.1) ⟨(fuel,(0,x10r.2.s,([]:List aw))),H⟩ (Lm p5 p5) fun x=>?_)))))
 obtain ⟨⟨k13,s12⟩,H⟩:=x
 rcases k13 with _ | k13
 ·exact aP H
 rw [bJ] at H
 refine G (R 1 rfl (NS (Wd rfl H (fun H=>?_) (fun H=>?_))))
 ·refine Wk (Qn (Ws (Wb ?_)))
  rcases fy H with ⟨e,hx12_3_1,rfl⟩ | ⟨x12_3_1r,hx12_3_1,H⟩
  ·refine Hp (.one 0 true (.one 2 true (.fork (.one 1 false (.one 3 false (.one 4 false (.one 5 false (.one 6 true (.one 7 false .done)))))) (.one 3 false (.fork (.one 1 false (.one 4 false (.one 5 false (.one 6 true (.one 7 false .done))))) (.one 4 false (.one 1 false (.one 5 false (.one 6 true (.one 7 false .done)))))))))) [0,102,106] [102] rfl (by kernel_rfl) rfl (by kernel_rfl) rfl rfl (fun _ h=>h) rfl rfl rfl (fun _ _ _ h=>h) fun FK NK wK K=>(Hr 2 tk rfl rfl rfl rfl tv (WH.fork ?_ ?_))
   ·exact WH.val tk rfl rfl rfl rfl rfl tv rfl rfl (WH.callP rfl (gp _ hx12_3_1) dy rfl rfl p1 rfl rfl rfl ⟨_,rfl,rfl⟩)
   ·exact WH.callP rfl (gp _ hx12_3_1) dy rfl rfl p1 rfl rfl rfl ⟨_,rfl,rfl⟩
  obtain ⟨g12_5_1,H⟩:=av H
  refine WC.heldF [(0, .ptr 0 0),(2, .ptr 102 0),(6, .ptr 106 0),(52, .d (.int .i64 x10r.1)),(53, .d (.int .i64 s12.1))] [(0, .box 173 [.d (.str x12_3_1r.2.s)]),(102, .box 28 [.d (.nils), .d (.nils), .d (.nils)]),(106, .box 28 [.d (slT ah x1.1), .own 1045, .own 1056]),(1045, .row 94 1 (s5.2.2.map ab)),(1056, .row 98 3 ((s12.2.2++([x12_3_1r.1]:List aw)).map aj))] (sT 0 (sT 2 (fk (sf 1 (sf 3 (sf 4 (sf 5 (sT 6 (sf 7 sd)))))) (sf 3 (fk (sf 1 (sf 4 (sf 5 (sT 6 (sf 7 sd))))) (sf 4 (sf 1 (sf 5 (sT 6 (sf 7 sd)))))))))) [0,102,106] [102] rfl (by kernel_rfl) rfl (by kernel_rfl) rfl rfl (fun _ h=>h) rfl rfl rfl (fun FK NK wK K=>?_) ?_
  ·refine Hr 2 tk rfl rfl rfl rfl tv (WH.fork ?_ ?_)
   ·refine WH.val tk rfl rfl rfl rfl rfl tv rfl rfl (WH.call [] rfl (gq 0 rfl _ hx12_3_1) dy rfl rfl p1 rfl rfl rfl rfl rfl (He 159 tk ek rfl rfl rfl rfl tv rfl rfl (WH.freezeT 159 aj ([x12_3_1r.1]:List aw) rfl rfl rfl rfl (WH.appT aj s12.2.2 ([x12_3_1r.1]:List aw) tk ek rfl rfl (fun _=>rfl) (fun _=>rfl) rfl rfl rfl rfl rfl (bX g12_5_1) rfl rfl rfl rfl rfl rfl rfl ?_))))
    exact Hr 1 tk rfl rfl rfl rfl tv (He 0 tk ek rfl rfl rfl rfl tv rfl rfl (Hn rfl (Lw q5 p5)))
   ·refine WH.call [] rfl (gq 0 rfl _ hx12_3_1) dy rfl rfl p1 rfl rfl rfl rfl rfl (WH.fork ?_ ?_)
    ·refine WH.val tk rfl rfl rfl rfl rfl tv rfl rfl (He 159 tk ek rfl rfl rfl rfl tv rfl rfl (WH.freezeT 159 aj ([x12_3_1r.1]:List aw) rfl rfl rfl rfl (WH.appT aj s12.2.2 ([x12_3_1r.1]:List aw) tk ek rfl rfl (fun _=>rfl) (fun _=>rfl) rfl rfl rfl rfl rfl (bX g12_5_1) rfl rfl rfl rfl rfl rfl rfl ?_)))
     exact Hr 1 tk rfl rfl rfl rfl tv (He 0 tk ek rfl rfl rfl rfl tv rfl rfl (Hn rfl (Lw q5 p5)))
    ·refine He 159 tk ek rfl rfl rfl rfl tv rfl rfl (WH.freezeT 159 aj ([x12_3_1r.1]:List aw) rfl rfl rfl rfl (WH.val tk rfl rfl rfl rfl rfl tv rfl rfl (WH.appT aj s12.2.2 ([x12_3_1r.1]:List aw) tk ek rfl rfl (fun _=>rfl) (fun _=>rfl) rfl rfl rfl rfl rfl (bX g12_5_1) rfl rfl rfl rfl rfl rfl rfl ?_)))
     exact Hr 1 tk rfl rfl rfl rfl tv (He 0 tk ek rfl rfl rfl rfl tv rfl rfl (Hn rfl (Lw q5 p5)))
  ·refine Qb (Qn ?_)
   exact Wg (R 2 rfl (NQ (⟨⟨(k13,(IntKind.i64.wrap (s12.1+1),x12_3_1r.2.s,s12.2.2++([x12_3_1r.1]:List aw))),H⟩,Z,Lm p5 p5⟩)))
 refine WC.exit (Qx (Qx (Qh (Qn ?_))))
 refine Ws (G (R 5 rfl (NQ (Wd rfl H (fun H=>?_) (fun H=>?_)))))
 ·refine Wg (R 1 rfl ?_)
  cases H
  exact WL.panicI rfl rfl rfl rfl rfl rfl rfl (by kernel_rfl) ⟨_,rfl,rfl⟩
 refine Wk (Qn (G (WL.freezeT 1045 ab s5.2.2 rfl rfl rfl rfl (WL.freezeT 1056 aj s12.2.2 rfl rfl rfl rfl (R 1 rfl (Ef 0 rfl (NQ (Wt ?_))))))))
 cases H
 refine ⟨_,rfl,?_⟩
 exact Ends.autoC tk rfl rfl rfl p1
theorem kP (a0:ao) {r:aa×ao} (H:bR a0=some (.inr r)):LJ.Spec Tryz.prog 95 [.ptr 0 0] [(0, .box 173 [.d (.str a0.s)])] (.d (.agg [slT ah r.1.Decls,slT ab r.1.Waits,slT aj r.1.Funcs])) [(0, .box 173 [.d (.str r.2.s)])]:=gZ a0 H
theorem kQ (a0:ao) {e:Int} (H:bR a0=some (.inl e)):LJ.lz Tryz.prog 95 [.ptr 0 0] [(0, .box 173 [.d (.str a0.s)])] (.iface 169 (.agg #[.int .i64 e])):=gZ a0 H
theorem kR (n0:Nat) (hn:cD [n0]=true) (a0:ao) {r:aa×ao} (H:bR a0=some (.inr r)):LJ.Spec Tryz.prog 95 [.ptr n0 0] [(n0, .box 173 [.d (.str a0.s)])] (.d (.agg [slT ah r.1.Decls,slT ab r.1.Waits,slT aj r.1.Funcs])) [(n0, .box 173 [.d (.str r.2.s)])]:=
 Spec.names [n0] hn rfl rfl (kP a0 H)
theorem hH:aD Tryz.prog 95 Tryz.f95:=⟨Tryz.func95,rfl,by kernel_rfl⟩
theorem yZ (a0:ByteArray) {z:Int ⊕ (aa×Int)} (H:kZ a0=some z) (w0:World) (F0 S0:Nat→Prop) (B0:aX) (ds:List Deferred):WC {w0:=w0,F0:=F0,S0:=S0,ntmps:=25,P0:=[1,2],B0:=B0,dfs:=ds} Tryz.prog (Dh Tryz.f64) (D0 Tryz.prog Tryz.f64 169 28 34 [.nils, .nils, .nils] (fun (r:aa×Int)=> .tup [.d (.agg [slT ah r.1.Decls,slT ab r.1.Waits,slT aj r.1.Funcs]), .d (.int .i64 r.2)]) z) [(3, .ptr 2 0),(2, .ptr 1 0),(0, .d (.str a0))] [(2, .box 34 [.d (.int .i64 0)]),(1, .box 28 [.d (.nils), .d (.nils), .d (.nils)])]:=by
 unfold kZ at H
 refine Ws (G (R 1 rfl ?_))
 obtain ⟨x1,hx1,H⟩:=al H
 refine Cl [] (mc _ _ hx1) me rfl tv rfl (R 1 rfl (NQ (Wd rfl H (fun H=>?_) (fun H=>?_))))
 ·refine G (R 1 rfl (Ef 0 rfl (Ef 0 rfl (NQ (WC.nilF 1 0 5010 93 3 rfl (WC.row 5010 (([]:List ai).map ah) rfl rfl rfl (WC.nilF 1 1 5011 94 1 rfl (WC.row 5011 (([]:List (List (List af))).map ab) rfl rfl rfl (WC.nilF 1 2 5012 98 3 rfl (WC.row 5012 (([]:List aw).map aj) rfl rfl rfl (WC.freezeT 5010 ah ([]:List ai) rfl rfl rfl rfl (WC.freezeT 5011 ab ([]:List (List (List af))) rfl rfl rfl rfl (WC.freezeT 5012 aj ([]:List aw) rfl rfl rfl rfl (Wt (QT.r ?_)))))))))))))))
  cases H
  refine ⟨_,rfl,?_⟩
  exact Ends.autoC tk rfl rfl rfl tv
 refine Wk (Qn (G ?_))
 obtain ⟨g3,H⟩:=av H
 refine RS 3 rfl ⟨(rD g3),tv⟩ (Ef 0 rfl (R 1 rfl (N (R 1 rfl ?_))))
 rcases fy H with ⟨e,hx4,rfl⟩ | ⟨x4r,hx4,H⟩
 ·exact WL.callPK [(2, .ptr 1 0),(3, .ptr 2 0)] [(1, .box 28 [.d (.nils), .d (.nils), .d (.nils)]),(2, .box 34 [.d (.int .i64 0)])] (kQ _ hx4) hH rfl rfl p1 rfl ⟨rfl,⟨_,_,rfl⟩,rfl,⟨_,_,rfl⟩,tv⟩ p2 rfl rfl ⟨_,rfl,rfl,rfl,rfl,rfl,rfl⟩
 refine Cl [] (kR 0 rfl _ hx4) hH rfl p1 rfl (Wa 105 tk rfl rfl rfl (Ef 0 rfl (NS (G (R 1 rfl ?_)))))
 obtain ⟨x5,hx5,H⟩:=al H
 refine Cl [] (kN _ hx5) kO rfl tv rfl (R 1 rfl (N (R 2 rfl (NQ (Wd rfl H (fun H=>?_) (fun H=>?_))))))
 ·refine G (R 2 rfl (Ef 0 rfl (Ef 0 rfl (NQ (WC.nilF 1 0 5010 93 3 rfl (WC.row 5010 (([]:List ai).map ah) rfl rfl rfl (WC.nilF 1 1 5011 94 1 rfl (WC.row 5011 (([]:List (List (List af))).map ab) rfl rfl rfl (WC.nilF 1 2 5012 98 3 rfl (WC.row 5012 (([]:List aw).map aj) rfl rfl rfl (WC.freezeT 5010 ah ([]:List ai) rfl rfl rfl rfl (WC.freezeT 5011 ab ([]:List (List (List af))) rfl rfl rfl rfl (WC.freezeT 5012 aj ([]:List aw) rfl rfl rfl rfl (Wt (QT.r ?_)))))))))))))))
  cases H
  refine ⟨_,rfl,?_⟩
  exact Ends.autoC tk rfl rfl rfl tv
 refine Wk (Qn (G (R 1 rfl (Ef 0 rfl (Ef 0 rfl (NQ (Wt ?_)))))))
 cases H
 refine ⟨_,rfl,?_⟩
 exact Ends.autoC tk rfl rfl rfl tv
theorem y3:aD Tryz.prog 64 Tryz.f64:=⟨Tryz.func64,rfl,by kernel_rfl⟩
theorem Cn (w0:World) (F0 S0:Nat→Prop) (B0:aX) (e:Int):WC {w0:=w0,F0:=F0,S0:=S0,ntmps:=19,P0:=[1,2],B0:=B0} Tryz.prog (xp Tryz.f93) (fun x E m=>x= .normal∧m.get 1=some (.box 28 [.d .nils, .d .nils, .d .nils])∧m.get 2=some (.box 34 [.d (.int .i64 e)])) [(3, .ptr 3 0),(1, .ptr 2 0),(0, .ptr 1 0)] [(3, .box 169 [.d (.int .i64 e)]),(2, .box 34 [.d (.int .i64 0)]),(1, .box 28 [.d .nils, .d .nils, .d .nils])]:=by
 exact Hp (.one 0 true (.one 1 true (.one 2 true (.one 3 false (.one 4 false .done))))) [1,2,3] [3] rfl (by kernel_rfl) rfl (by kernel_rfl) rfl rfl (fun _ h=>h) rfl rfl rfl (fun _ _ _ h=>by cases h.1) fun FK NK wK K=>(Hr 3 tk rfl rfl rfl rfl tv (He 0 tk ek rfl rfl rfl rfl tv rfl rfl (He 0 tk ek rfl rfl rfl rfl tv rfl rfl (WH.nil rfl (⟨rfl,rfl,rfl⟩)))))
theorem Co:D1 Tryz.prog 93:=fun p q w=>by
 refine callsD_of_wpS Tryz.func93 rfl fun c₀ cs hu=>?_
 apply wpS_seq
 apply wpS_region
 simp [wpOpsS,go_sem,recoverD,hu,Tryz.ntmps93,Exit.thenS]
 apply wpS_seq
 apply wpS_region
 simp [wpOpsS,go_sem,Exit.thenS]
 refine wpS_cond (t:=false) (by simp [Act.eval,Array.replicate]) ?_
 simp only [Bool.false_eq_true,if_false]
 refine wpS_of_wp (wp_skip ?_)
 cases c₀
 simp_all [bodyPostS,results,Tryz.results93]
theorem Bl:z6 Tryz.prog 93 169 28 34 #[.slice none 0 0, .slice none 0 0, .slice none 0 0]:=fun F bp bq e w hG hFin hFp hFq hne hp hq=>by
 refine callsD_of_wpS Tryz.func93 rfl fun c₀ cs hu=>?_
 apply wpS_seq
 apply wpS_region
 simp [wpOpsS,go_sem,recoverD,hu,Tryz.ntmps93,Exit.thenS]
 apply wpS_seq
 apply wpS_region
 simp [wpOpsS,go_sem,Exit.thenS]
 refine wpS_cond (t:=true) (by simp [Act.eval,Array.replicate]) ?_
 simp only [if_true]
 have hTA:∀ W,(Instr.typeAssert (Value.iface 169 (Value.agg #[Value.int .i64 e])) 20 169 true).run Tryz.prog W= .ok (.tuple #[.agg #[.int .i64 e], .bool true]) W:=fun W=>by kernel_rfl
 apply wpS_seq
 apply wpS_region
 simp [wpOpsS,go_sem,Exit.thenS,hTA]
 apply wpS_seq
 apply wpS_seq
 apply wpS_region
 simp [wpOpsS,go_sem,Exit.thenS]
 refine wpS_cond (t:=false) (by simp [Act.eval,Array.replicate]) ?_
 simp only [Bool.false_eq_true,if_false]
 refine wpS_of_wp (wp_skip ?_)
 simp only [Exit.thenS]
 refine wpS_of_wp ?_
 have hlt:∀ b,(w.heap[b]?).isSome=true→b<w.heap.size:=fun b hb=>by
  rcases Nat.lt_or_ge b w.heap.size with h | h
  ·exact h
  ·simp [Array.getElem?_eq_none h] at hb
 have lp:=hlt bp (by rw [hp];rfl)
 have lq:=hlt bq (by rw [hq];rfl)
 show Code.wp Tryz.prog (xp Tryz.f93) _ _ _
 refine z7 (T:=28) (T2:=34) (e:=e) (nt:=19) (pt:=169) (fun w0 F0 S0 B0=>Cn w0 F0 S0 B0 e) hG hFin hFp hFq hne hp hq lp lq ?_ ?_ ?_ ?_ ?_ ?_ ?_
 ·rfl
 ·simp
 ·rfl
 ·simp [Array.replicate]
 ·simp [Array.replicate]
 ·simp [Array.replicate]
 intro a' w' hd h1 h2 h3 h4 h5 h6 h7
 simp [bodyPostS,results,Tryz.results93,hd,h1,h2,h3,h4,h6,h7]
 exact h5
set_option maxRecDepth 100000 in
theorem y8 (a0:ByteArray) {r:aa×Int} (H:mX a0=some r):LJ.Spec Tryz.prog 64 [.d (.str a0)] [] (.tup [.d (.agg [slT ah r.1.Decls,slT ab r.1.Waits,slT aj r.1.Funcs]), .d (.int .i64 r.2)]) []:=by
 unfold mX at H
 obtain ⟨z,hz,H⟩:=al H
 cases H
 exact Spec.recovers (zs:=[.nils, .nils, .nils]) (zv:=#[.slice none 0 0, .slice none 0 0, .slice none 0 0]) (o:=fun (r:aa×Int)=> .tup [.d (.agg [slT ah r.1.Decls,slT ab r.1.Waits,slT aj r.1.Funcs]), .d (.int .i64 r.2)]) (zf:=fun e=>((⟨[],[],[]⟩:aa),e)) Tryz.func64 rfl 25 rfl rfl rfl (fun w0 F0 S0 B0=>Wg (Wa 1 tk rfl rfl rfl (Wa 2 tk rfl rfl rfl (Wn ⟨rfl,rfl,rfl⟩)))) rfl rfl rfl rfl rfl rfl rfl rfl rfl (fun w0 F0 S0 B0 ds=>yZ a0 hz w0 F0 S0 B0 ds) (fun p q w=>by simp [go_sem]) Co Bl (fun F N w n h=>h.box3) (fun e=>⟨_,_,rfl,mJ tk (ps:=[.d (.agg [.nils, .nils, .nils]), .d (.int .i64 e)]) rfl,fun F N w v h=>Rep.tup2 (Le.agg (.cons (Le.nilT _) (.cons (Le.nilT _) (.cons (Le.nilT _) .nil)))) h⟩) (fun F N w n h=>dz.mk3 h)
theorem rm (a0:ak) {r:ax×Int×ak} (H:ee a0=some r):LJ.Spec Tryz.prog 66 [.ptr 0 0] [(0, .box 131 [.d (.str a0.s), .d (.int .i64 a0.at_), .d (.int .i64 a0.err)])] (.tup [.d (.agg [.int .i64 r.1.Kind, .int .i64 r.1.A, .int .i64 r.1.B]), .d (.int .i64 r.2.1)]) [(0, .box 131 [.d (.str r.2.2.s), .d (.int .i64 r.2.2.at_), .d (.int .i64 r.2.2.err)])]:=by
 refine LJ.Spec.code Tryz.func66 rfl 36 rfl rfl [0] rfl fun w0 F0 S0 B0=>?_
 unfold ee at H
 refine G (Wa 102 tk rfl rfl rfl (R 1 rfl (N (R 1 rfl ?_))))
 obtain ⟨x1,hx1,H⟩:=al H
 refine Cl [] (fc 0 rfl _ hx1) fe rfl p1 rfl (R 1 rfl (Wa 104 tk rfl rfl rfl (Ef 0 rfl (NS (G (R 1 rfl ?_))))))
 obtain ⟨x2,hx2,H⟩:=al H
 refine Cl [] (aQ 0 rfl _ hx2) aR rfl p1 rfl (R 1 rfl (N (R 2 rfl (NQ (Wd rfl H (fun H=>?_) (fun H=>?_))))))
 ·refine G (R 2 rfl (Ef 0 rfl (R 1 rfl (NQ (Wt (QT.r ?_))))))
  cases H
  exact Ends.autoC tk rfl rfl rfl p1
 refine Wk (Qn (Ws (G (R 4 rfl (Wx 3 3 true tk sg0 rfl rfl (fun _=>tv) (RS 1 rfl ⟨by first | exact id | exact fun h=>by rw [h];rfl | simp_all,tv⟩ (NQ (Wd rfl H (fun H=>?_) (fun H=>?_)))))))))
 ·refine G (R 1 rfl (Ef 0 rfl (R 1 rfl (NQ (Wt (QT.r ?_))))))
  cases H
  exact Ends.autoC tk rfl rfl rfl p1
 refine Wk (Qn (G (R 1 rfl ?_)))
 obtain ⟨x5,hx5,H⟩:=al H
 refine Cl [] (gN 0 rfl _ hx5) gO rfl p1 rfl (R 1 rfl (Ef 0 rfl (NS (G (R 3 rfl (NQ (Wd rfl H (fun H=>?_) (fun H=>?_))))))))
 ·refine Wg (R 1 rfl ?_)
  obtain ⟨x7,hx7,H⟩:=al H
  refine Cl [] (gN 0 rfl _ hx7) gO rfl p1 rfl (R 1 rfl (Ef 0 rfl (NS (Hp (.one 0 true (.one 1 true (.one 2 false (.one 3 false (.one 4 true .done))))) [0,102,104] [104] rfl (by kernel_rfl) rfl (by kernel_rfl) rfl rfl (fun _ h=>h) rfl rfl rfl (fun _ _ _ h=>h) fun FK NK wK K=>(Hr 2 tk rfl rfl rfl rfl tv ?_)))))
  obtain ⟨x8,hx8,H⟩:=al H
  refine WH.call [] rfl (aQ 0 rfl _ hx8) aR rfl rfl p1 rfl rfl rfl rfl rfl (He 0 tk ek rfl rfl rfl rfl tv rfl rfl (Hr 1 tk rfl rfl rfl rfl tv (WH.nil rfl (Qn (Wt ?_)))))
  cases H
  exact Ends.autoC tk rfl rfl rfl p1
 refine Wk (Qn (Ws (Hp (.one 0 true (.one 1 true (.one 2 false (.one 3 false (.one 4 true .done))))) [0,102,104] [104] rfl (by kernel_rfl) rfl (by kernel_rfl) rfl rfl (fun _ h=>h) rfl rfl rfl (fun _ _ _ h=>h) fun FK NK wK K=>(Hr 2 tk rfl rfl rfl rfl tv ?_))))
 obtain ⟨x9,hx9,H⟩:=al H
 refine WH.call [] rfl (aQ 0 rfl _ hx9) aR rfl rfl p1 rfl rfl rfl rfl rfl (He 0 tk ek rfl rfl rfl rfl tv rfl rfl (Hr 1 tk rfl rfl rfl rfl tv (WH.nil rfl (Qn (Wt ?_)))))
 cases H
 exact Ends.autoC tk rfl rfl rfl p1
theorem rn (n0:Nat) (hn:cD [n0]=true) (a0:ak) {r:ax×Int×ak} (H:ee a0=some r):LJ.Spec Tryz.prog 66 [.ptr n0 0] [(n0, .box 131 [.d (.str a0.s), .d (.int .i64 a0.at_), .d (.int .i64 a0.err)])] (.tup [.d (.agg [.int .i64 r.1.Kind, .int .i64 r.1.A, .int .i64 r.1.B]), .d (.int .i64 r.2.1)]) [(n0, .box 131 [.d (.str r.2.2.s), .d (.int .i64 r.2.2.at_), .d (.int .i64 r.2.2.err)])]:=
 Spec.names [n0] hn rfl rfl (rm a0 H)
theorem rp:aD Tryz.prog 66 Tryz.f66:=⟨Tryz.func66,rfl,by kernel_rfl⟩
theorem tC (a0:ak) {r:ar×Int×ak} (H:gC a0=some r):LJ.Spec Tryz.prog 35 [.ptr 0 0] [(0, .box 131 [.d (.str a0.s), .d (.int .i64 a0.at_), .d (.int .i64 a0.err)])] (.tup [.d (.agg [.int .i64 r.1.Config.Mode, .int .i64 r.1.Config.Workers, .int .i64 r.1.Config.Quantum, .int .i64 r.1.Config.Policy,slT ah r.1.Program.Decls,slT ab r.1.Program.Waits,slT aj r.1.Program.Funcs,slT aA r.1.Events]), .d (.int .i64 r.2.1)]) [(0, .box 131 [.d (.str r.2.2.s), .d (.int .i64 r.2.2.at_), .d (.int .i64 r.2.2.err)])]:=by
 refine LJ.Spec.code Tryz.func35 rfl 83 rfl rfl [0] rfl fun w0 F0 S0 B0=>?_
 unfold gC at H
 refine G (Wa 102 tk rfl rfl rfl (R 1 rfl (N (R 1 rfl (Wa 104 tk rfl rfl rfl (Ef 0 rfl (N (R 1 rfl ?_))))))))
 obtain ⟨x1,hx1,H⟩:=al H
 refine Cl [] (jq 0 rfl _ hx1) jr rfl p1 rfl (R 2 rfl (Ef 0 rfl (N (R 1 rfl ?_))))
 obtain ⟨x2,hx2,H⟩:=al H
 refine Cl [] (jq 0 rfl _ hx2) jr rfl p1 rfl (R 2 rfl (Ef 0 rfl (N (R 1 rfl ?_))))
 obtain ⟨x3,hx3,H⟩:=al H
 refine Cl [] (jq 0 rfl _ hx3) jr rfl p1 rfl (R 2 rfl (Ef 0 rfl (N (R 1 rfl ?_))))
 obtain ⟨x4,hx4,H⟩:=al H
 refine Cl [] (jq 0 rfl _ hx4) jr rfl p1 rfl (R 2 rfl (Ef 0 rfl (N (R 1 rfl ?_))))
 obtain ⟨x5,hx5,H⟩:=al H
 refine Cl [] (qJ 0 rfl _ hx5) qK rfl p1 rfl (R 1 rfl (N (R 1 rfl ?_)))
 obtain ⟨x6,hx6,H⟩:=al H
 refine Cl [] (aQ 0 rfl _ hx6) aR rfl p1 rfl (R 1 rfl (NS (G (R 2 rfl (NQ (Wd rfl H (fun H=>?_) (fun H=>?_)))))))
 ·refine G (R 2 rfl (Ef 0 rfl (R 1 rfl (NQ (WC.nilF 102 4 6024 93 3 rfl (WC.row 6024 (([]:List ai).map ah) rfl rfl rfl (WC.nilF 102 5 6025 94 1 rfl (WC.row 6025 (([]:List (List (List af))).map ab) rfl rfl rfl (WC.nilF 102 6 6026 98 3 rfl (WC.row 6026 (([]:List aw).map aj) rfl rfl rfl (WC.nilF 102 7 6027 55 3 rfl (WC.row 6027 (([]:List ax).map aA) rfl rfl rfl (WC.freezeT 6024 ah ([]:List ai) rfl rfl rfl rfl (WC.freezeT 6025 ab ([]:List (List (List af))) rfl rfl rfl rfl (WC.freezeT 6026 aj ([]:List aw) rfl rfl rfl rfl (WC.freezeT 6027 aA ([]:List ax) rfl rfl rfl rfl (Wt (QT.r ?_))))))))))))))))))
  cases H
  exact Ends.autoC tk rfl rfl rfl p1
 refine Wk (Qn (Ws (G (R 1 rfl ?_))))
 obtain ⟨x8,hx8,H⟩:=al H
 refine Cl [] (y8 _ hx8) y3 rfl tv rfl (R 4 rfl (Ef 0 rfl (R 1 rfl (N (R 2 rfl (NQ (Wd rfl H (fun H=>?_) (fun H=>?_))))))))
 ·refine G (R 2 rfl (Ef 0 rfl (R 1 rfl (NQ (WC.nilF 102 7 6027 55 3 rfl (WC.row 6027 (([]:List ax).map aA) rfl rfl rfl (WC.freezeT 6027 aA ([]:List ax) rfl rfl rfl rfl (Wt (QT.r ?_)))))))))
  cases H
  exact Ends.autoC tk rfl rfl rfl p1
 refine Wk (Qn (G (R 1 rfl ?_)))
 obtain ⟨x10,hx10,H⟩:=al H
 refine Cl [] (cj 0 rfl _ hx10) ck rfl p1 rfl (R 1 rfl (NS (G (R 1 rfl ?_))))
 obtain ⟨x11,hx11,H⟩:=al H
 refine Cl [] (aQ 0 rfl _ hx11) aR rfl p1 rfl (R 1 rfl (N (R 2 rfl (NQ (Wd rfl H (fun H=>?_) (fun H=>?_))))))
 ·refine G (R 2 rfl (Ef 0 rfl (R 1 rfl (NQ (WC.nilF 102 7 6027 55 3 rfl (WC.row 6027 (([]:List ax).map aA) rfl rfl rfl (WC.freezeT 6027 aA ([]:List ax) rfl rfl rfl rfl (Wt (QT.r ?_)))))))))
  cases H
  exact Ends.autoC tk rfl rfl rfl p1
 refine Wk (Qn (Ws (G (R 2 rfl (NQ (Wd rfl H (fun H=>?_) (fun H=>?_)))))))
 ·refine G (R 1 rfl (Ef 0 rfl (R 1 rfl (NQ (WC.nilF 102 7 6027 55 3 rfl (WC.row 6027 (([]:List ax).map aA) rfl rfl rfl (WC.freezeT 6027 aA ([]:List ax) rfl rfl rfl rfl (Wt (QT.r ?_)))))))))
  cases H
  exact Ends.autoC tk rfl rfl rfl p1
 refine Wk (Qn (Ws (G (R 2 rfl (NQ (Wb (WC.nilF 104 7 1070 55 3 rfl (Wl (ι:= {x:Nat×(Int×ByteArray×Int×Int×(List ax)) //du x1 x2 x3 x4 x8 x10 x.1 x.2=some r}) (fun x=>[(0, .ptr 0 0),(2, .ptr 102 0),(4, .ptr 104 0),(57, .d (.int .u64 x10.1)),(58, .d (.int .u64 x.1.2.1))]) (fun x=>[(0, .box 131 [.d (.str x.1.2.2.1), .d (.int .i64 x.1.2.2.2.1), .d (.int .i64 x.1.2.2.2.2.1)]),(102, .box 31 [.d (.int .i64 0), .d (.int .i64 0), .d (.int .i64 0), .d (.int .i64 0), .d (.nils), .d (.nils), .d (.nils), .d (.nils)]),(104, .box 31 [.d (.int .i64 x1.1), .d (.int .i64 x2.1), .d (.int .i64 x3.1), .d (.int .i64 x4.1), .d (slT ah x8.1.Decls), .d (slT ab x8.1.Waits), .d (slT aj x8.1.Funcs), .own 1070]),(1070, .row 55 3 (x.1.2.2.2.2.2.map aA))]) (fun x=>x.1.1) ⟨(fuel,(0,x10.2.s,x10.2.at_,x10.2.err,([]:List ax))),H⟩ (Lm p5 p4) fun x=>?_))))))))
 obtain ⟨⟨k16,s15⟩,H⟩:=x
 rcases k16 with _ | k16
 ·exact aP H
 rw [du] at H
 refine G (R 1 rfl (NS (Wd rfl H (fun H=>?_) (fun H=>?_))))
 ·refine Wk (Qn (Ws (Wb (G (R 1 rfl ?_)))))
  obtain ⟨x18,hx18,H⟩:=al H
  refine Cl [] (rn 0 rfl _ hx18) rp rfl p1 rfl (R 3 rfl (Wa 109 tk rfl rfl rfl (Ef 0 rfl (R 1 rfl (NS (G (R 2 rfl (NQ (Wd rfl H (fun H=>?_) (fun H=>?_))))))))))
  ·refine G (WL.freezeT 1070 aA s15.2.2.2.2 rfl rfl rfl rfl (R 1 rfl (R 1 rfl (Ef 0 rfl (R 1 rfl (NQ (Wt (QT.r (QB.r (QT.r (QT.r (QB.r (QT.r ?_)))))))))))))
   cases H
   exact Ends.autoC tk rfl rfl rfl p1
  refine Wk (Qn (Wg (R 3 rfl (Ef 172 rfl (WL.freezeT 172 aA ([x18.1]:List ax) rfl rfl rfl rfl ?_)))))
  obtain ⟨g20,H⟩:=av H
  refine WL.appT aA s15.2.2.2.2 ([x18.1]:List ax) tk ek rfl rfl (fun _=>rfl) (fun _=>rfl) rfl rfl rfl rfl (bX g20) rfl rfl rfl rfl rfl ?_
  refine R 1 rfl (Ef 0 rfl (Wn (Qb (Qn ?_))))
  exact Wg (R 2 rfl (NQ (⟨⟨(k16,(IntKind.u64.wrap (s15.1+1),x18.2.2.s,x18.2.2.at_,x18.2.2.err,s15.2.2.2.2++([x18.1]:List ax))),H⟩,Z,Lm p5 p4⟩)))
 refine WC.exit (Qx (Qx (Qh (Qn ?_))))
 refine Ws (G (R 1 rfl ?_))
 obtain ⟨x21,hx21,H⟩:=al H
 refine Cl [] (cR 0 rfl _ hx21) cS rfl p1 rfl (R 1 rfl (NQ (Wd rfl H (fun H=>?_) (fun H=>?_))))
 ·refine G (WL.freezeT 1070 aA s15.2.2.2.2 rfl rfl rfl rfl (R 1 rfl (Ef 0 rfl (R 1 rfl (NQ (Wt (QT.r ?_)))))))
  cases H
  exact Ends.autoC tk rfl rfl rfl p1
 refine Wk (Qn (Ws ?_))
 obtain ⟨x28_2_1,hx28_2_1,H⟩:=al H
 refine WC.heldF [(2, .ptr 102 0),(3, .d (.int .i64 x28_2_1))] [(0, .box 131 [.d (.str s15.2.1), .d (.int .i64 s15.2.2.1), .d (.int .i64 s15.2.2.2.1)]),(102, .box 31 [.d (.int .i64 x1.1), .d (.int .i64 x2.1), .d (.int .i64 x3.1), .d (.int .i64 x4.1), .d (slT ah x8.1.Decls), .d (slT ab x8.1.Waits), .d (slT aj x8.1.Funcs), .d (slT aA s15.2.2.2.2)])] (fk (sf 0 (sf 1 (sf 2 (sf 3 (sT 4 sd))))) (sf 1 (fk (sf 0 (sf 2 (sf 3 (sT 4 sd)))) (sf 2 (sf 0 (sf 3 (sT 4 sd))))))) [0,102,104] [104,0] rfl (by kernel_rfl) rfl (by kernel_rfl) rfl rfl (fun _ h=>h) rfl rfl rfl (fun FK NK wK K=>?_) ?_
 ·refine WH.fork ?_ ?_
  ·exact WH.freezeT 1070 aA s15.2.2.2.2 rfl rfl rfl rfl (WH.val tk rfl rfl rfl rfl rfl tv rfl rfl (WH.val tk rfl rfl rfl rfl rfl tv rfl rfl (WH.call [] rfl (fv _ hx28_2_1) fw rfl rfl tv rfl rfl rfl rfl rfl (He 0 tk ek rfl rfl rfl rfl tv rfl rfl (Hr 1 tk rfl rfl rfl rfl tv (Hn rfl (Lw q2 p2)))))))
  ·refine WH.freezeT 1070 aA s15.2.2.2.2 rfl rfl rfl rfl (WH.val tk rfl rfl rfl rfl rfl tv rfl rfl (WH.fork ?_ ?_))
   ·exact WH.val tk rfl rfl rfl rfl rfl tv rfl rfl (WH.call [] rfl (fv _ hx28_2_1) fw rfl rfl tv rfl rfl rfl rfl rfl (He 0 tk ek rfl rfl rfl rfl tv rfl rfl (Hr 1 tk rfl rfl rfl rfl tv (Hn rfl (Lw q2 p2)))))
   ·exact WH.call [] rfl (fv _ hx28_2_1) fw rfl rfl tv rfl rfl rfl rfl rfl (WH.val tk rfl rfl rfl rfl rfl tv rfl rfl (He 0 tk ek rfl rfl rfl rfl tv rfl rfl (Hr 1 tk rfl rfl rfl rfl tv (Hn rfl (Lw q2 p2)))))
 ·refine Qn (Wt ?_)
  cases H
  exact Ends.autoC tk rfl rfl rfl p1
theorem tD (n0:Nat) (hn:cD [n0]=true) (a0:ak) {r:ar×Int×ak} (H:gC a0=some r):LJ.Spec Tryz.prog 35 [.ptr n0 0] [(n0, .box 131 [.d (.str a0.s), .d (.int .i64 a0.at_), .d (.int .i64 a0.err)])] (.tup [.d (.agg [.int .i64 r.1.Config.Mode, .int .i64 r.1.Config.Workers, .int .i64 r.1.Config.Quantum, .int .i64 r.1.Config.Policy,slT ah r.1.Program.Decls,slT ab r.1.Program.Waits,slT aj r.1.Program.Funcs,slT aA r.1.Events]), .d (.int .i64 r.2.1)]) [(n0, .box 131 [.d (.str r.2.2.s), .d (.int .i64 r.2.2.at_), .d (.int .i64 r.2.2.err)])]:=
 Spec.names [n0] hn rfl rfl (tC a0 H)
theorem tE:aD Tryz.prog 35 Tryz.f35:=⟨Tryz.func35,rfl,by kernel_rfl⟩
theorem ju (a0:ByteArray) {r:ar×Int} (H:fP a0=some r):LJ.Spec Tryz.prog 15 [.d (.str a0)] [] (.tup [.d (.agg [.int .i64 r.1.Config.Mode, .int .i64 r.1.Config.Workers, .int .i64 r.1.Config.Quantum, .int .i64 r.1.Config.Policy,slT ah r.1.Program.Decls,slT ab r.1.Program.Waits,slT aj r.1.Program.Funcs,slT aA r.1.Events]), .d (.int .i64 r.2)]) []:=by
 refine LJ.Spec.code Tryz.func15 rfl 27 rfl rfl [] rfl fun w0 F0 S0 B0=>?_
 unfold fP at H
 refine G (Wa 102 tk rfl rfl rfl (R 1 rfl (N (R 1 rfl ?_))))
 obtain ⟨x1,hx1,H⟩:=al H
 refine Cl [] (ma _ _ hx1) mb rfl tv rfl (R 5 rfl (NS (G (R 2 rfl (NQ (Wd rfl H (fun H=>?_) (fun H=>?_)))))))
 ·refine G (R 1 rfl (Ef 0 rfl (R 1 rfl (NQ (WC.nilF 102 4 6024 93 3 rfl (WC.row 6024 (([]:List ai).map ah) rfl rfl rfl (WC.nilF 102 5 6025 94 1 rfl (WC.row 6025 (([]:List (List (List af))).map ab) rfl rfl rfl (WC.nilF 102 6 6026 98 3 rfl (WC.row 6026 (([]:List aw).map aj) rfl rfl rfl (WC.nilF 102 7 6027 55 3 rfl (WC.row 6027 (([]:List ax).map aA) rfl rfl rfl (WC.freezeT 6024 ah ([]:List ai) rfl rfl rfl rfl (WC.freezeT 6025 ab ([]:List (List (List af))) rfl rfl rfl rfl (WC.freezeT 6026 aj ([]:List aw) rfl rfl rfl rfl (WC.freezeT 6027 aA ([]:List ax) rfl rfl rfl rfl (Wt (QT.r ?_))))))))))))))))))
  cases H
  exact Ends.autoC tk rfl rfl rfl tv
 refine Wk (Qn (G (R 1 rfl ?_)))
 obtain ⟨x3,hx3,H⟩:=al H
 refine Cl [2180] (gX 2180 rfl _ hx3) gY rfl tv rfl ?_
 obtain ⟨x4,hx4,H⟩:=al H
 refine Cl [] (tD 2180 rfl _ hx4) tE rfl p1 rfl (R 3 rfl (Wa 106 tk rfl rfl rfl (Ef 0 rfl (R 1 rfl (NS (G (R 2 rfl (NQ (Wd rfl H (fun H=>?_) (fun H=>?_))))))))))
 ·refine G (R 2 rfl (Ef 0 rfl (R 1 rfl (NQ (WC.nilF 102 4 6024 93 3 rfl (WC.row 6024 (([]:List ai).map ah) rfl rfl rfl (WC.nilF 102 5 6025 94 1 rfl (WC.row 6025 (([]:List (List (List af))).map ab) rfl rfl rfl (WC.nilF 102 6 6026 98 3 rfl (WC.row 6026 (([]:List aw).map aj) rfl rfl rfl (WC.nilF 102 7 6027 55 3 rfl (WC.row 6027 (([]:List ax).map aA) rfl rfl rfl (WC.freezeT 6024 ah ([]:List ai) rfl rfl rfl rfl (WC.freezeT 6025 ab ([]:List (List (List af))) rfl rfl rfl rfl (WC.freezeT 6026 aj ([]:List aw) rfl rfl rfl rfl (WC.freezeT 6027 aA ([]:List ax) rfl rfl rfl rfl (Wt (QT.r ?_))))))))))))))))))
  cases H
  exact Ends.autoC tk rfl rfl rfl tv
 refine Wk (Qn (G (R 1 rfl (Ef 0 rfl (R 1 rfl (NQ (Wt ?_)))))))
 cases H
 exact Ends.autoC tk rfl rfl rfl tv
theorem jv:aD Tryz.prog 15 Tryz.f15:=⟨Tryz.func15,rfl,by kernel_rfl⟩
theorem ve (a0:List (List af)) (a1:List (List af)) {r:Bool} (H:fl a0 a1=some r):LJ.Spec Tryz.prog 73 [.d (slT aC a0), .d (slT aC a1)] [] (.d (.bool r)) []:=by
 refine LJ.Spec.code Tryz.func73 rfl 53 rfl rfl [] rfl fun w0 F0 S0 B0=>?_
 unfold fl at H
 refine G (R 1 rfl (NS (G (R 5 rfl (NQ (Wd rfl H (fun H=>?_) (fun H=>?_)))))))
 ·refine G (R 1 rfl (NQ (Wt (QT.r ?_))))
  cases H
  exact Ea rfl rfl rfl tv
 refine Wk (Qn (Ws (G (R 1 rfl (NQ (Wb (Wl (ι:= {x:Nat×Int //dM a0 a1 x.1 x.2=some r}) (fun x=>[(0, .d (slT aC a0)),(1, .d (slT aC a1)),(5, .d (.int .i64 x.1.2))]) (fun x=>[]) (fun x=>x.1.1) ⟨(fuel,0),H⟩ (Lm p3 tv) fun x=>?_)))))))
 obtain ⟨⟨k3,s2⟩,H⟩:=x
 rcases k3 with _ | k3
 ·exact aP H
 rw [dM] at H
 refine Ws (G (R 4 rfl (NQ (Wd rfl H (fun H=>?_) (fun H=>?_)))))
 ·refine Wk (Qn ?_)
  obtain ⟨K5,hK5,H⟩:=da H
  refine WC.cut (fun E m=>∃ s6:Unit,K5 s6=some r∧hJ E m [(0, .d (slT aC a0)),(1, .d (slT aC a1)),(5, .d (.int .i64 s2))] []) ?_ ?_
  ·refine Wb (Ws (Ws (Hp (.one 0 true (.one 1 true (.one 2 true (.one 3 true (.one 4 true (.one 5 true (.one 6 true (.one 7 true (.one 8 true (.one 9 true (.one 10 true .done))))))))))) [] [] rfl (by kernel_rfl) rfl (by kernel_rfl) rfl rfl (fun _ h=>h) rfl rfl rfl (fun _ _ _ h=>h) fun FK NK wK K=>?_)))
   obtain ⟨g7,H⟩:=av H
   obtain ⟨g8,H⟩:=av H
   refine Hr 11 tk rfl rfl rfl rfl ⟨⟨(an g7).1,(an g7).2,rfl⟩,⟨(an g8).1,(an g8).2,rfl⟩,tv⟩ (WH.nil rfl (Qn (Wd rfl H (fun H=>?_) (fun H=>?_))))
   ·refine G (R 1 rfl (NQ (Wt (QT.r (QB.r (QT.r (QT.r (QB.r (QT.r ?_)))))))))
    cases H
    exact Ea rfl rfl rfl tv
   refine Wk (Qn (G (R 1 rfl (NQ (Wb (Wl (ι:= {x:Nat×Int //dU a0 a1 s2 K5 x.1 x.2=some r}) (fun x=>[(0, .d (slT aC a0)),(1, .d (slT aC a1)),(5, .d (.int .i64 s2)),(6, .d (.int .i64 x.1.2))]) (fun x=>[]) (fun x=>x.1.1) ⟨(fuel,0),H⟩ (Lm p4 tv) fun x=>?_))))))
   obtain ⟨⟨k11,s10⟩,H⟩:=x
   rcases k11 with _ | k11
   ·exact aP H
   rw [dU] at H
   refine Ws (G ?_)
   obtain ⟨g12,H⟩:=av H
   refine RS 7 rfl ⟨⟨(an g12).1,(an g12).2,rfl⟩,tv⟩ (NQ (Wd rfl H (fun H=>?_) (fun H=>?_)))
   ·refine Wk (Qn (Ws (Wb (Ws (Hp (.one 0 true (.one 1 true (.one 2 true (.one 3 true (.one 4 true (.one 5 true (.one 6 true (.one 7 true (.one 8 true (.one 9 true (.one 10 true (.one 11 true (.one 12 true (.one 13 true (.one 14 true .done))))))))))))))) [] [] rfl (by kernel_rfl) rfl (by kernel_rfl) rfl rfl (fun _ h=>h) rfl rfl rfl (fun _ _ _ h=>h) fun FK NK wK K=>?_)))))
    obtain ⟨g14,H⟩:=av H
    obtain ⟨g15,H⟩:=av H
    obtain ⟨g16,H⟩:=av H
    obtain ⟨g17,H⟩:=av H
    refine Hr 14 tk rfl rfl rfl rfl ⟨⟨(an g14).1,(an g14).2,rfl⟩,⟨(an g15).1,(an g15).2,rfl⟩,⟨(an g16).1,(an g16).2,rfl⟩,⟨(an g17).1,(an g17).2,rfl⟩,tv⟩ (WH.yv rfl (LJ.Y.structEq .neq (.inr rfl) rfl rfl rfl (by kernel_rfl) rfl) rfl rfl rfl (WH.nil rfl (Qn (Wd rfl H (fun H=>?_) (fun H=>?_)))))
    ·refine G (R 1 rfl (NQ (Wt (QB.r (QT.r (QT.r (QB.r (QB.r (QT.r (QT.r (QB.r (QT.r ?_))))))))))))
     cases H
     exact Ea rfl rfl rfl tv
    refine Wk (Qb (Qn ?_))
    exact Wg (R 3 rfl (NQ (⟨⟨(k11,IntKind.i64.wrap (s10+1)),H⟩,Z,Lm p4 tv⟩)))
   refine WC.exit (Qx (Qx (Qh (Qb (Qn ?_)))))
   exact ⟨Unit.unit,H,Lw q3 tv⟩
  ·rintro E m ⟨s6,H,hl⟩
   refine WC.lessW hl ?_
   replace H:=(hK5 _).symm.trans H
   try dsimp only at H
   exact Wg (R 3 rfl (NQ (⟨⟨(k3,IntKind.i64.wrap (s2+1)),H⟩,Z,Lm p3 tv⟩)))
 refine WC.exit (Qx (Qx (Qh (Qn ?_))))
 refine G (R 1 rfl (NQ (Wt ?_)))
 cases H
 exact Ea rfl rfl rfl tv
theorem vf:aD Tryz.prog 73 Tryz.f73:=⟨Tryz.func73,rfl,by kernel_rfl⟩
theorem vg (a0:aa) (a1:aa) {r:Bool} (H:iE a0 a1=some r):LJ.Spec Tryz.prog 43 [.d (.agg [slT ah a0.Decls,slT ab a0.Waits,slT aj a0.Funcs]), .d (.agg [slT ah a1.Decls,slT ab a1.Waits,slT aj a1.Funcs])] [] (.d (.bool r)) []:=by
 refine LJ.Spec.code Tryz.func43 rfl 129 rfl rfl [] rfl fun w0 F0 S0 B0=>?_
 unfold iE at H
 refine G (Ef 102 rfl (Ef 103 rfl (R 1 rfl (NS (G (R 8 rfl (Wx 7 7 false tk sg0 rfl rfl (fun _=>tv) (RS 2 rfl ⟨by first | exact id | exact fun h=>by rw [h];rfl | simp_all,tv⟩ (Wx 7 16 false tk sg0 rfl rfl (fun _=>tv) (RS 1 rfl ⟨by first | exact id | exact fun h=>by rw [h];rfl | simp_all,tv⟩ (NQ (Wd rfl H (fun H=>?_) (fun H=>?_)))))))))))))
 ·refine G (R 1 rfl (NQ (Wt (QT.r ?_))))
  cases H
  exact Ea rfl rfl rfl tv
 refine Wk (Qn (Ws (G (R 1 rfl (NQ (Wb (Wl (ι:= {x:Nat×Int //ez a0 a1 x.1 x.2=some r}) (fun x=>[(2, .ptr 102 0),(3, .ptr 103 0),(5, .d (.int .i64 x.1.2))]) (fun x=>[(102, .box 28 [.d (slT ah a0.Decls), .d (slT ab a0.Waits), .d (slT aj a0.Funcs)]),(103, .box 28 [.d (slT ah a1.Decls), .d (slT ab a1.Waits), .d (slT aj a1.Funcs)])]) (fun x=>x.1.1) ⟨(fuel,0),H⟩ (Lm p3 p2) fun x=>?_)))))))
 obtain ⟨⟨k3,s2⟩,H⟩:=x
 rcases k3 with _ | k3
 ·exact aP H
 rw [ez] at H
 refine Ws (G (R 5 rfl (NQ (Wd rfl H (fun H=>?_) (fun H=>?_)))))
 ·refine Wk (Qn (Ws (Wb (Ws (Hp (.one 0 true (.one 1 true (.one 2 true (.one 3 true (.one 4 true (.one 5 true (.one 6 true (.one 7 true (.one 8 true (.one 9 true (.one 10 true .done))))))))))) [102,103] [102,103] rfl (by kernel_rfl) rfl (by kernel_rfl) rfl rfl (fun _ h=>h) rfl rfl rfl (fun _ _ _ h=>h) fun FK NK wK K=>?_)))))
  obtain ⟨g5,H⟩:=av H
  obtain ⟨g6,H⟩:=av H
  refine Hr 10 tk rfl rfl rfl rfl ⟨⟨(an g5).1,(an g5).2,rfl⟩,⟨(an g6).1,(an g6).2,rfl⟩,tv⟩ (WH.yv rfl (LJ.Y.structEq .neq (.inr rfl) rfl rfl rfl (by kernel_rfl) rfl) rfl rfl rfl (WH.nil rfl (Qn (Wd rfl H (fun H=>?_) (fun H=>?_)))))
  ·refine G (R 1 rfl (NQ (Wt (QB.r (QT.r (QT.r (QB.r (QT.r ?_))))))))
   cases H
   exact Ea rfl rfl rfl tv
  refine Wk (Qb (Qn ?_))
  exact Wg (R 3 rfl (NQ (⟨⟨(k3,IntKind.i64.wrap (s2+1)),H⟩,Z,Lm p3 p2⟩)))
 refine WC.exit (Qx (Qx (Qh (Qn ?_))))
 refine Ws (G (R 1 rfl (NQ (Wb (Wl (ι:= {x:Nat×Int //ey a0 a1 x.1 x.2=some r}) (fun x=>[(2, .ptr 102 0),(3, .ptr 103 0),(6, .d (.int .i64 x.1.2))]) (fun x=>[(102, .box 28 [.d (slT ah a0.Decls), .d (slT ab a0.Waits), .d (slT aj a0.Funcs)]),(103, .box 28 [.d (slT ah a1.Decls), .d (slT ab a1.Waits), .d (slT aj a1.Funcs)])]) (fun x=>x.1.1) ⟨(fuel,0),H⟩ (Lm p3 p2) fun x=>?_)))))
 obtain ⟨⟨k9,s8⟩,H⟩:=x
 rcases k9 with _ | k9
 ·exact aP H
 rw [ey] at H
 refine Ws (G (R 5 rfl (NQ (Wd rfl H (fun H=>?_) (fun H=>?_)))))
 ·refine Wk (Qn (Ws (Wb (Ws (Hp (.one 0 true (.one 1 true (.one 2 true (.one 3 true (.one 4 true (.one 5 true (.one 6 true (.one 7 true (.one 8 true (.one 9 true (.one 10 false (.one 11 true .done)))))))))))) [102,103] [102,103] rfl (by kernel_rfl) rfl (by kernel_rfl) rfl rfl (fun _ h=>h) rfl rfl rfl (fun _ _ _ h=>h) fun FK NK wK K=>?_)))))
  obtain ⟨g11,H⟩:=av H
  obtain ⟨g12,H⟩:=av H
  refine Hr 10 tk rfl rfl rfl rfl ⟨⟨(an g11).1,(an g11).2,rfl⟩,⟨(an g12).1,(an g12).2,rfl⟩,tv⟩ ?_
  obtain ⟨x13,hx13,H⟩:=al H
  refine WH.call [] rfl (ve _ _ hx13) vf rfl rfl tv rfl rfl rfl rfl rfl (Hr 1 tk rfl rfl rfl rfl tv (WH.nil rfl (Qn (Wd rfl H (fun H=>?_) (fun H=>?_)))))
  ·refine G (R 1 rfl (NQ (Wt (QB.r (QT.r (QT.r (QB.r (QT.r ?_))))))))
   cases H
   exact Ea rfl rfl rfl tv
  refine Wk (Qb (Qn ?_))
  exact Wg (R 3 rfl (NQ (⟨⟨(k9,IntKind.i64.wrap (s8+1)),H⟩,Z,Lm p3 p2⟩)))
 refine WC.exit (Qx (Qx (Qh (Qn ?_))))
 refine Ws (G (R 1 rfl (NQ (Wb (Wl (ι:= {x:Nat×Int //dk a0 a1 x.1 x.2=some r}) (fun x=>[(2, .ptr 102 0),(3, .ptr 103 0),(7, .d (.int .i64 x.1.2))]) (fun x=>[(102, .box 28 [.d (slT ah a0.Decls), .d (slT ab a0.Waits), .d (slT aj a0.Funcs)]),(103, .box 28 [.d (slT ah a1.Decls), .d (slT ab a1.Waits), .d (slT aj a1.Funcs)])]) (fun x=>x.1.1) ⟨(fuel,0),H⟩ (Lm p3 p2) fun x=>?_)))))
 obtain ⟨⟨k16,s15⟩,H⟩:=x
 rcases k16 with _ | k16
 ·exact aP H
 rw [dk] at H
 refine Ws (G (R 5 rfl (NQ (Wd rfl H (fun H=>?_) (fun H=>?_)))))
 ·refine Wk (Qn ?_)
  obtain ⟨K18,hK18,H⟩:=da H
  refine WC.cut (fun E m=>∃ s19:Unit,K18 s19=some r∧hJ E m [(2, .ptr 102 0),(3, .ptr 103 0),(7, .d (.int .i64 s15))] [(102, .box 28 [.d (slT ah a0.Decls), .d (slT ab a0.Waits), .d (slT aj a0.Funcs)]),(103, .box 28 [.d (slT ah a1.Decls), .d (slT ab a1.Waits), .d (slT aj a1.Funcs)])]) ?_ ?_
  ·refine Wb (Ws ?_)
   obtain ⟨g16_3_1,H⟩:=av H
   obtain ⟨g16_8_1,H⟩:=av H
   refine WC.heldF [(2, .ptr 102 0),(3, .ptr 103 0),(7, .d (.int .i64 s15)),(8, .ptr 108 0),(9, .ptr 109 0)] [(102, .box 28 [.d (slT ah a0.Decls), .d (slT ab a0.Waits), .d (slT aj a0.Funcs)]),(103, .box 28 [.d (slT ah a1.Decls), .d (slT ab a1.Waits), .d (slT aj a1.Funcs)]),(108, .box 98 [.d (.int .i64 ((a0.Funcs.getD s15.toNat default).Args)), .d (.int .i64 ((a0.Funcs.getD s15.toNat default).Locals)), .d (slT aB ((a0.Funcs.getD s15.toNat default).Code))]),(109, .box 98 [.d (.int .i64 ((a1.Funcs.getD s15.toNat default).Args)), .d (.int .i64 ((a1.Funcs.getD s15.toNat default).Locals)), .d (slT aB ((a1.Funcs.getD s15.toNat default).Code))])] (sT 0 (sT 1 (sT 2 (sT 3 (sT 4 (sT 5 (sT 6 (sT 7 (sT 8 (sT 9 (fk (sf 10 (sf 11 (sf 12 (sf 13 sd)))) (sf 11 (sf 10 (sf 12 (sf 13 sd))))))))))))))) [102,103] [102,103] rfl (by kernel_rfl) rfl (by kernel_rfl) rfl rfl (fun _ h=>h) rfl rfl rfl (fun FK NK wK K=>?_) ?_
   ·refine Hr 10 tk rfl rfl rfl rfl ⟨⟨(an g16_3_1).1,(an g16_3_1).2,rfl⟩,⟨(an g16_8_1).1,(an g16_8_1).2,rfl⟩,tv⟩ (WH.fork ?_ ?_)
    ·exact WH.alloc 108 tk rfl rfl rfl rfl rfl rfl (WH.alloc 109 tk rfl rfl rfl rfl rfl rfl (He 0 tk ek rfl rfl rfl rfl tv rfl rfl (He 0 tk ek rfl rfl rfl rfl tv rfl rfl (Hn rfl (Lw q5 p4)))))
    ·exact WH.alloc 109 tk rfl rfl rfl rfl rfl rfl (WH.alloc 108 tk rfl rfl rfl rfl rfl rfl (He 0 tk ek rfl rfl rfl rfl tv rfl rfl (He 0 tk ek rfl rfl rfl rfl tv rfl rfl (Hn rfl (Lw q5 p4)))))
   ·refine Qn (Ws (G (R 6 rfl (Wx 5 5 false tk sg0 rfl rfl (fun _=>tv) (RS 2 rfl ⟨by first | exact id | exact fun h=>by rw [h];rfl | simp_all,tv⟩ (Wx 7 12 false tk sg0 rfl rfl (fun _=>tv) (RS 1 rfl ⟨by first | exact id | exact fun h=>by rw [h];rfl | simp_all,tv⟩ (NQ (Wd rfl H (fun H=>?_) (fun H=>?_))))))))))
    ·refine G (R 1 rfl (NQ (Wt (QT.r (QB.r (QT.r (QT.r (QB.r (QT.r ?_)))))))))
     cases H
     exact Ea rfl rfl rfl tv
    refine Wk (Qn (G (R 1 rfl (NQ (Wb (Wl (ι:= {x:Nat×Int //dV a0 a1 s15 K18 x.1 x.2=some r}) (fun x=>[(2, .ptr 102 0),(3, .ptr 103 0),(7, .d (.int .i64 s15)),(8, .ptr 108 0),(9, .ptr 109 0),(10, .d (.int .i64 x.1.2))]) (fun x=>[(102, .box 28 [.d (slT ah a0.Decls), .d (slT ab a0.Waits), .d (slT aj a0.Funcs)]),(103, .box 28 [.d (slT ah a1.Decls), .d (slT ab a1.Waits), .d (slT aj a1.Funcs)]),(108, .box 98 [.d (.int .i64 ((a0.Funcs.getD s15.toNat default).Args)), .d (.int .i64 ((a0.Funcs.getD s15.toNat default).Locals)), .d (slT aB ((a0.Funcs.getD s15.toNat default).Code))]),(109, .box 98 [.d (.int .i64 ((a1.Funcs.getD s15.toNat default).Args)), .d (.int .i64 ((a1.Funcs.getD s15.toNat default).Locals)), .d (slT aB ((a1.Funcs.getD s15.toNat default).Code))])]) (fun x=>x.1.1) ⟨(fuel,0),H⟩ (Lm p6 p4) fun x=>?_))))))
    obtain ⟨⟨k22,s21⟩,H⟩:=x
    rcases k22 with _ | k22
    ·exact aP H
    rw [dV] at H
    refine Ws (G (R 5 rfl (NQ (Wd rfl H (fun H=>?_) (fun H=>?_)))))
    ·refine Wk (Qn (Ws (Wb (Ws (Hp (.one 0 true (.one 1 true (.one 2 true (.one 3 true (.one 4 true (.one 5 true (.one 6 true (.one 7 true (.one 8 true (.one 9 true (.one 10 true .done))))))))))) [102,103,108,109] [102,103,108,109] rfl (by kernel_rfl) rfl (by kernel_rfl) rfl rfl (fun _ h=>h) rfl rfl rfl (fun _ _ _ h=>h) fun FK NK wK K=>?_)))))
     obtain ⟨g24,H⟩:=av H
     obtain ⟨g25,H⟩:=av H
     refine Hr 10 tk rfl rfl rfl rfl ⟨⟨(an g24).1,(an g24).2,rfl⟩,⟨(an g25).1,(an g25).2,rfl⟩,tv⟩ (WH.yv rfl (LJ.Y.structEq .neq (.inr rfl) rfl rfl rfl (by kernel_rfl) rfl) rfl rfl rfl (WH.nil rfl (Qn (Wd rfl H (fun H=>?_) (fun H=>?_)))))
     ·refine G (R 1 rfl (NQ (Wt (QB.r (QT.r (QT.r (QB.r (QB.r (QT.r (QT.r (QB.r (QT.r ?_))))))))))))
      cases H
      exact Ea rfl rfl rfl tv
     refine Wk (Qb (Qn ?_))
     exact Wg (R 3 rfl (NQ (⟨⟨(k22,IntKind.i64.wrap (s21+1)),H⟩,Z,Lm p6 p4⟩)))
    refine WC.exit (Qx (Qx (Qh (Qb (Qn ?_)))))
    exact ⟨Unit.unit,H,Lw q3 p2⟩
  ·rintro E m ⟨s19,H,hl⟩
   refine WC.lessW hl ?_
   replace H:=(hK18 _).symm.trans H
   try dsimp only at H
   exact Wg (R 3 rfl (NQ (⟨⟨(k16,IntKind.i64.wrap (s15+1)),H⟩,Z,Lm p3 p2⟩)))
 refine WC.exit (Qx (Qx (Qh (Qn ?_))))
 refine G (R 1 rfl (NQ (Wt ?_)))
 cases H
 exact Ea rfl rfl rfl tv
theorem vh:aD Tryz.prog 43 Tryz.f43:=⟨Tryz.func43,rfl,by kernel_rfl⟩
theorem oy (a0:ar) (a1:ar) {r:Bool} (H:iG a0 a1=some r):LJ.Spec Tryz.prog 17 [.d (.agg [.int .i64 a0.Config.Mode, .int .i64 a0.Config.Workers, .int .i64 a0.Config.Quantum, .int .i64 a0.Config.Policy,slT ah a0.Program.Decls,slT ab a0.Program.Waits,slT aj a0.Program.Funcs,slT aA a0.Events]), .d (.agg [.int .i64 a1.Config.Mode, .int .i64 a1.Config.Workers, .int .i64 a1.Config.Quantum, .int .i64 a1.Config.Policy,slT ah a1.Program.Decls,slT ab a1.Program.Waits,slT aj a1.Program.Funcs,slT aA a1.Events])] [] (.d (.bool r)) []:=by
 refine LJ.Spec.code Tryz.func17 rfl 46 rfl rfl [] rfl fun w0 F0 S0 B0=>?_
 unfold iG at H
 refine G (Ef 102 rfl (Ef 103 rfl (R 1 rfl (NS (G (R 4 rfl (WL.yv (LJ.Y.structEq .neq (.inr rfl) rfl rfl rfl (by kernel_rfl) rfl) rfl rfl rfl (R 1 rfl ?_))))))))
 obtain ⟨x1,hx1,H⟩:=al H
 refine Wx 6 5 false tk [PSig.at' vh ((!(!((iEq a0.Config.Mode a1.Config.Mode)&&((iEq a0.Config.Workers a1.Config.Workers)&&((iEq a0.Config.Quantum a1.Config.Quantum)&&((iEq a0.Config.Policy a1.Config.Policy)&&true))))))=true) rfl (fun hb=>vg _ _ (of_t hx1 hb))] rfl rfl (fun hb=>⟨⟨hb,rfl⟩,tv⟩) (RS 2 rfl ⟨by first | exact id | exact fun h=>by rw [h];rfl | simp_all,tv⟩ (Wx 7 13 false tk sg0 rfl rfl (fun _=>tv) (RS 1 rfl ⟨by first | exact id | exact fun h=>by rw [h];rfl | simp_all,tv⟩ (NQ (Wd rfl H (fun H=>?_) (fun H=>?_))))))
 ·refine G (R 1 rfl (NQ (Wt (QT.r ?_))))
  cases H
  exact Ea rfl rfl rfl tv
 refine Wk (Qn (Ws (G (R 1 rfl (NQ (Wb (Wl (ι:= {x:Nat×Int //eA a0 a1 x.1 x.2=some r}) (fun x=>[(2, .ptr 102 0),(3, .ptr 103 0),(5, .d (.int .i64 x.1.2))]) (fun x=>[(102, .box 31 [.d (.int .i64 a0.Config.Mode), .d (.int .i64 a0.Config.Workers), .d (.int .i64 a0.Config.Quantum), .d (.int .i64 a0.Config.Policy), .d (slT ah a0.Program.Decls), .d (slT ab a0.Program.Waits), .d (slT aj a0.Program.Funcs), .d (slT aA a0.Events)]),(103, .box 31 [.d (.int .i64 a1.Config.Mode), .d (.int .i64 a1.Config.Workers), .d (.int .i64 a1.Config.Quantum), .d (.int .i64 a1.Config.Policy), .d (slT ah a1.Program.Decls), .d (slT ab a1.Program.Waits), .d (slT aj a1.Program.Funcs), .d (slT aA a1.Events)])]) (fun x=>x.1.1) ⟨(fuel,0),H⟩ (Lm p3 p2) fun x=>?_)))))))
 obtain ⟨⟨k4,s3⟩,H⟩:=x
 rcases k4 with _ | k4
 ·exact aP H
 rw [eA] at H
 refine Ws (G (R 5 rfl (NQ (Wd rfl H (fun H=>?_) (fun H=>?_)))))
 ·refine Wk (Qn (Ws (Wb (Ws (Hp (.one 0 true (.one 1 true (.one 2 true (.one 3 true (.one 4 true (.one 5 true (.one 6 true (.one 7 true (.one 8 true (.one 9 true (.one 10 true .done))))))))))) [102,103] [102,103] rfl (by kernel_rfl) rfl (by kernel_rfl) rfl rfl (fun _ h=>h) rfl rfl rfl (fun _ _ _ h=>h) fun FK NK wK K=>?_)))))
  obtain ⟨g6,H⟩:=av H
  obtain ⟨g7,H⟩:=av H
  refine Hr 10 tk rfl rfl rfl rfl ⟨⟨(an g6).1,(an g6).2,rfl⟩,⟨(an g7).1,(an g7).2,rfl⟩,tv⟩ (WH.yv rfl (LJ.Y.structEq .neq (.inr rfl) rfl rfl rfl (by kernel_rfl) rfl) rfl rfl rfl (WH.nil rfl (Qn (Wd rfl H (fun H=>?_) (fun H=>?_)))))
  ·refine G (R 1 rfl (NQ (Wt (QB.r (QT.r (QT.r (QB.r (QT.r ?_))))))))
   cases H
   exact Ea rfl rfl rfl tv
  refine Wk (Qb (Qn ?_))
  exact Wg (R 3 rfl (NQ (⟨⟨(k4,IntKind.i64.wrap (s3+1)),H⟩,Z,Lm p3 p2⟩)))
 refine WC.exit (Qx (Qx (Qh (Qn ?_))))
 refine G (R 1 rfl (NQ (Wt ?_)))
 cases H
 exact Ea rfl rfl rfl tv
theorem oz:aD Tryz.prog 17 Tryz.f17:=⟨Tryz.func17,rfl,by kernel_rfl⟩
theorem nA {r:Bool} (H:iU=some r):LJ.Spec Tryz.prog 14 [] [] (.d (.bool r)) []:=by
 refine LJ.Spec.code Tryz.func14 rfl 35 rfl rfl [] rfl fun w0 F0 S0 B0=>?_
 unfold iU at H
 refine G (R 1 rfl (NS (Wg ?_)))
 obtain ⟨x1,hx1,H⟩:=al H
 refine Cl [] (nu hx1) nv rfl tv rfl ?_
 obtain ⟨x2,hx2,H⟩:=al H
 refine Cl [] (ow _ hx2) ox rfl tv rfl (R 5 rfl (N (R 1 rfl ?_)))
 obtain ⟨x3,hx3,H⟩:=al H
 refine Cl [] (ju _ hx3) jv rfl tv rfl (R 3 rfl (Wa 103 tk rfl rfl rfl (Ef 0 rfl (R 1 rfl (NS (Hp (.one 0 true (.one 1 true (.one 2 true (.one 3 true (.one 4 true (.one 5 true (.one 6 true (.one 7 true (.one 8 true (.one 9 true (.one 10 true (.one 11 true (.one 12 false (.one 13 false (.one 14 true (.one 15 true (.one 16 true (.one 17 false (.one 18 true (.one 19 true (.one 20 true .done))))))))))))))))))))) [103] [103] rfl (by kernel_rfl) rfl (by kernel_rfl) rfl rfl (fun _ h=>h) rfl rfl rfl (fun _ _ _ h=>h) fun FK NK wK K=>(Hr 3 tk rfl rfl rfl rfl tv (WH.sect 2 2 true tk rfl rfl rfl rfl (fun _=>tv) (Hr 2 tk rfl rfl rfl rfl ⟨by first | exact id | exact fun h=>by rw [h];rfl | simp_all,tv⟩ (WH.sect 2 6 true tk rfl rfl rfl rfl (fun _=>tv) (Hr 2 tk rfl rfl rfl rfl ⟨by first | exact id | exact fun h=>by rw [h];rfl | simp_all,tv⟩ ?_)))))))))))
 refine WH.split (g:=25) rfl (fun h4=>?_) (fun h4=>?_)
 ·replace H:=of_t H h4
  refine WH.grun 1 10 true 25 tk rfl rfl rfl rfl rfl rfl tv ?_
  obtain ⟨x5,hx5,H⟩:=al H
  refine WH.gcall [] rfl (nu hx5) nv rfl rfl tv rfl rfl rfl rfl rfl rfl rfl rfl ?_
  obtain ⟨x6,hx6,H⟩:=al H
  refine WH.gcall [] rfl (oy _ _ hx6) oz rfl rfl tv rfl rfl rfl rfl rfl rfl rfl rfl (WH.pick1 rfl rfl rfl rfl rfl rfl rfl (Hr 1 tk rfl rfl rfl rfl tv (WH.split (g:=30) rfl (fun h7=>?_) (fun h7=>?_))))
  ·replace H:=of_t H h7
   refine WH.grun 1 15 true 30 tk rfl rfl rfl rfl rfl rfl tv (WH.le 31 (.agg [.int .i64 0, .int .i64 0, .int .i64 0, .int .i64 0,slT ah [],slT ab [],slT aj [],slT aA []]) rfl (Le.agg (.cons .rfl' (.cons .rfl' (.cons .rfl' (.cons .rfl' (.cons (Le.nilT ah) (.cons (Le.nilT ab) (.cons (Le.nilT aj) (.cons (Le.nilT aA) .nil))))))))) ?_)
   obtain ⟨x8,hx8,H⟩:=al H
   refine WH.gcall [] rfl (fv _ hx8) fw rfl rfl tv rfl rfl rfl rfl rfl rfl rfl rfl (WH.grun 1 15 true 30 tk rfl rfl rfl rfl rfl rfl tv (WH.pick1 rfl rfl rfl rfl rfl rfl rfl (Hr 1 tk rfl rfl rfl rfl tv (WH.nil rfl (Qn (Wt ?_))))))
   cases H
   exact Ea rfl rfl rfl tv
  ·replace H:=of_f H h7
   refine Hg rfl rfl rfl rfl rfl rfl rfl (Hg rfl rfl rfl rfl rfl rfl rfl (Hg rfl rfl rfl rfl rfl rfl rfl (WH.pick1 rfl rfl rfl rfl rfl rfl rfl (Hr 1 tk rfl rfl rfl rfl tv (WH.nil rfl (Qn (Wt ?_)))))))
   cases H
   exact Ea rfl rfl rfl tv
 ·replace H:=of_f H h4
  refine Hg rfl rfl rfl rfl rfl rfl rfl (Hg rfl rfl rfl rfl rfl rfl rfl (Hg rfl rfl rfl rfl rfl rfl rfl (WH.pick1 rfl rfl rfl rfl rfl rfl rfl (Hr 1 tk rfl rfl rfl rfl tv (Hg rfl rfl rfl rfl rfl rfl rfl (Hg rfl rfl rfl rfl rfl rfl rfl (Hg rfl rfl rfl rfl rfl rfl rfl (WH.pick1 rfl rfl rfl rfl rfl rfl rfl (Hr 1 tk rfl rfl rfl rfl tv (WH.nil rfl (Qn (Wt ?_))))))))))))
  cases H
  exact Ea rfl rfl rfl tv
theorem nB:aD Tryz.prog 14 Tryz.f14:=⟨Tryz.func14,rfl,by kernel_rfl⟩
theorem nC (a0:ar) (a1:ByteArray) {r:Bool} (H:fz a0 a1=some r):LJ.Spec Tryz.prog 6 [.d (.agg [.int .i64 a0.Config.Mode, .int .i64 a0.Config.Workers, .int .i64 a0.Config.Quantum, .int .i64 a0.Config.Policy,slT ah a0.Program.Decls,slT ab a0.Program.Waits,slT aj a0.Program.Funcs,slT aA a0.Events]), .d (.str a1)] [] (.d (.bool r)) []:=by
 refine LJ.Spec.code Tryz.func6 rfl 73 rfl rfl [] rfl fun w0 F0 S0 B0=>?_
 unfold fz at H
 refine G (Ef 102 rfl (R 1 rfl (N (R 1 rfl ?_))))
 obtain ⟨x1,hx1,H⟩:=al H
 refine Cl [] (qm _ hx1) qn rfl tv rfl (Ef 0 rfl (NS (G (R 1 rfl ?_))))
 obtain ⟨x2,hx2,H⟩:=al H
 refine Cl [] (tA _ hx2) tB rfl tv rfl (R 1 rfl (NQ (Wd rfl H (fun H=>?_) (fun H=>?_))))
 ·refine G ?_
  obtain ⟨x4,hx4,H⟩:=al H
  refine Cl [] (nA hx4) nB rfl tv rfl (R 1 rfl (NQ (Wt (QT.r ?_))))
  cases H
  exact Ea rfl rfl rfl tv
 refine Wk (Qn (G (R 1 rfl ?_)))
 obtain ⟨x5,hx5,H⟩:=al H
 refine Cl [] (qm _ hx5) qn rfl tv rfl ?_
 obtain ⟨x6,hx6,H⟩:=al H
 refine Cl [] (ow _ hx6) ox rfl tv rfl (R 5 rfl (NS (G (R 3 rfl (Wx 2 2 false tk sg0 rfl rfl (fun _=>tv) (RS 1 rfl ⟨by first | exact id | exact fun h=>by rw [h];rfl | simp_all,tv⟩ (NQ (Wd rfl H (fun H=>?_) (fun H=>?_)))))))))
 ·refine G (R 1 rfl (NQ (Wt (QT.r ?_))))
  cases H
  exact Ea rfl rfl rfl tv
 refine Wk (Qn (G (R 1 rfl ?_)))
 obtain ⟨x8,hx8,H⟩:=al H
 refine Cl [] (ju _ hx8) jv rfl tv rfl (R 3 rfl (Wa 107 tk rfl rfl rfl (Ef 0 rfl (R 1 rfl (NS (Wg ?_))))))
 obtain ⟨g9,H⟩:=av H
 refine RS 3 rfl ⟨(nL g9),tv⟩ ?_
 obtain ⟨x10,hx10,H⟩:=al H
 refine Cl [] (ju _ hx10) jv rfl tv rfl (R 3 rfl (Wa 109 tk rfl rfl rfl (Ef 0 rfl (R 1 rfl (NS (Wg ?_))))))
 obtain ⟨g11,H⟩:=av H
 refine RS 5 rfl ⟨(rD g11),tv⟩ ?_
 obtain ⟨x12,hx12,H⟩:=al H
 refine Cl [] (ju _ hx12) jv rfl tv rfl (R 3 rfl (Wa 111 tk rfl rfl rfl (Ef 0 rfl (R 1 rfl (N (R 3 rfl ?_))))))
 obtain ⟨x13,hx13,H⟩:=al H
 refine Wx 3 2 true tk [PSig.at' oz ((iEq x8.2 0)=true) rfl (fun hb=>oy _ _ (of_t hx13 hb))] rfl rfl (fun hb=>⟨⟨hb,rfl⟩,tv⟩) (RS 2 rfl ⟨by first | exact id | exact fun h=>by rw [h];rfl | simp_all,tv⟩ (Wx 5 7 true tk sg0 rfl rfl (fun _=>tv) (RS 2 rfl ⟨by first | exact id | exact fun h=>by rw [h];rfl | simp_all,tv⟩ (Wx 2 14 true tk sg0 rfl rfl (fun _=>tv) (RS 2 rfl ⟨by first | exact id | exact fun h=>by rw [h];rfl | simp_all,tv⟩ ?_)))))
 obtain ⟨x14,hx14,H⟩:=al H
 refine Wx 1 18 true tk [PSig.at' nB (((((iEq x8.2 0)&&x13)&&((iEq x10.2 0)==(sEq a1 ByteArray.empty)))&&(iNe x12.2 0))=true) rfl (fun hb=>nA (of_t hx14 hb))] rfl rfl (fun hb=>⟨⟨hb,rfl⟩,tv⟩) (RS 2 rfl ⟨by first | exact id | exact fun h=>by rw [h];rfl | simp_all,tv⟩ (NQ (Wt ?_)))
 cases H
 exact Ea rfl rfl rfl tv
end Go.Proofs.YtdebndfaknfefaaGreatDoor.W
