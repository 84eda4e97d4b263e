/- Each Go function comes to what its plain function gives, where that gives something. -/
import Derived.Test.YtpnnkehkjfciiaaGreatDoorPF
import Derived.Test.YtpnnkehkjfciiaaGreatDoorSq
import Derived.Test.YtpnnkehkjfciiaaGreatDoorWF2
import Derived.Test.YtpnnkehkjfciiaaGreatDoorXErr
import Derived.Test.YtpnnkehkjfciiaaGreatDoorXInd
import Derived.Test.YtpnnkehkjfciiaaGreatDoorXRowl
import Derived.Test.YtpnnkehkjfciiaaGreatDoorXShelf
namespace Go.Proofs.YtpnnkehkjfciiaaGreatDoor.W
open Go Go.RowKit LJ
set_option linter.unusedVariables false
set_option linter.unusedSimpArgs false
set_option maxRecDepth 10000
theorem ko (a0:ab) (a1:ab) {r:Bool} (H:ec a0 a1=some r):LJ.Spec Tryz.prog 14 [.d (.agg [slT ai a0.Decls,slT ae a0.Waits,slT ak a0.Funcs]), .d (.agg [slT ai a1.Decls,slT ae a1.Waits,slT ak a1.Funcs])] [] (.d (.bool r)) []:=by
 refine LJ.Spec.code Tryz.func14 rfl 129 rfl rfl [] rfl fun w0 F0 S0 B0=>?_
 unfold ec at H
 refine G (Ef 102 rfl (Ef 103 rfl (R 1 rfl (NS (G (R 8 rfl (Wx 7 7 false tk sg0 rfl rfl (fun _=>tv) (RS 2 rfl ⟨by first | exact id | exact fun h=>by rw [h];rfl | simp_all,tv⟩ (Wx 7 16 false tk sg0 rfl rfl (fun _=>tv) (RS 1 rfl ⟨by first | exact id | exact fun h=>by rw [h];rfl | simp_all,tv⟩ (NQ (Wd rfl H (fun H=>?_) (fun H=>?_)))))))))))))
 ·refine G (R 1 rfl (NQ (Wt (QT.r ?_))))
  cases H
  exact Ea rfl rfl rfl tv
 refine Wk (Qn (Ws (G (R 1 rfl (NQ (Wb (Wl (ι:= {x:Nat×Int //cV a0 a1 x.1 x.2=some r}) (fun x=>[(2, .ptr 102 0),(3, .ptr 103 0),(5, .d (.int .i64 x.1.2))]) (fun x=>[(102, .box 26 [.d (slT ai a0.Decls), .d (slT ae a0.Waits), .d (slT ak a0.Funcs)]),(103, .box 26 [.d (slT ai a1.Decls), .d (slT ae a1.Waits), .d (slT ak a1.Funcs)])]) (fun x=>x.1.1) ⟨(fuel,0),H⟩ (Lm p3 p2) fun x=>?_)))))))
 obtain ⟨⟨k3,s2⟩,H⟩:=x
 rcases k3 with _ | k3
 ·exact aO H
 rw [cV] at H
 refine Ws (G (R 5 rfl (NQ (Wd rfl H (fun H=>?_) (fun H=>?_)))))
 ·refine Wk (Qn (Ws (Wb (Ws (Hp (.one 0 true (.one 1 true (.one 2 true (.one 3 true (.one 4 true (.one 5 true (.one 6 true (.one 7 true (.one 8 true (.one 9 true (.one 10 true .done))))))))))) [102,103] [102,103] rfl (by kernel_rfl) rfl (by kernel_rfl) rfl rfl (fun _ h=>h) rfl rfl rfl (fun _ _ _ h=>h) fun FK NK wK K=>?_)))))
  obtain ⟨g5,H⟩:=aq H
  obtain ⟨g6,H⟩:=aq H
  refine Hr 10 tk rfl rfl rfl rfl ⟨⟨(av g5).1,(av g5).2,rfl⟩,⟨(av g6).1,(av g6).2,rfl⟩,tv⟩ (WH.yv rfl (LJ.Y.structEq .neq (.inr rfl) rfl rfl rfl (by kernel_rfl) rfl) rfl rfl rfl (WH.nil rfl (Qn (Wd rfl H (fun H=>?_) (fun H=>?_)))))
  ·refine G (R 1 rfl (NQ (Wt (QB.r (QT.r (QT.r (QB.r (QT.r ?_))))))))
   cases H
   exact Ea rfl rfl rfl tv
  refine Wk (Qb (Qn ?_))
  exact Wg (R 3 rfl (NQ (⟨⟨(k3,IntKind.i64.wrap (s2+1)),H⟩,Z,Lm p3 p2⟩)))
 refine WC.exit (Qx (Qx (Qh (Qn ?_))))
 refine Ws (G (R 1 rfl (NQ (Wb (Wl (ι:= {x:Nat×Int //cU a0 a1 x.1 x.2=some r}) (fun x=>[(2, .ptr 102 0),(3, .ptr 103 0),(6, .d (.int .i64 x.1.2))]) (fun x=>[(102, .box 26 [.d (slT ai a0.Decls), .d (slT ae a0.Waits), .d (slT ak a0.Funcs)]),(103, .box 26 [.d (slT ai a1.Decls), .d (slT ae a1.Waits), .d (slT ak a1.Funcs)])]) (fun x=>x.1.1) ⟨(fuel,0),H⟩ (Lm p3 p2) fun x=>?_)))))
 obtain ⟨⟨k9,s8⟩,H⟩:=x
 rcases k9 with _ | k9
 ·exact aO H
 rw [cU] at H
 refine Ws (G (R 5 rfl (NQ (Wd rfl H (fun H=>?_) (fun H=>?_)))))
 ·refine Wk (Qn (Ws (Wb (Ws (Hp (.one 0 true (.one 1 true (.one 2 true (.one 3 true (.one 4 true (.one 5 true (.one 6 true (.one 7 true (.one 8 true (.one 9 true (.one 10 false (.one 11 true .done)))))))))))) [102,103] [102,103] rfl (by kernel_rfl) rfl (by kernel_rfl) rfl rfl (fun _ h=>h) rfl rfl rfl (fun _ _ _ h=>h) fun FK NK wK K=>?_)))))
  obtain ⟨g11,H⟩:=aq H
  obtain ⟨g12,H⟩:=aq H
  refine Hr 10 tk rfl rfl rfl rfl ⟨⟨(av g11).1,(av g11).2,rfl⟩,⟨(av g12).1,(av g12).2,rfl⟩,tv⟩ ?_
  obtain ⟨x13,hx13,H⟩:=ar H
  refine WH.call [] rfl (pG _ _ hx13) pH rfl rfl tv rfl rfl rfl rfl rfl (Hr 1 tk rfl rfl rfl rfl tv (WH.nil rfl (Qn (Wd rfl H (fun H=>?_) (fun H=>?_)))))
  ·refine G (R 1 rfl (NQ (Wt (QB.r (QT.r (QT.r (QB.r (QT.r ?_))))))))
   cases H
   exact Ea rfl rfl rfl tv
  refine Wk (Qb (Qn ?_))
  exact Wg (R 3 rfl (NQ (⟨⟨(k9,IntKind.i64.wrap (s8+1)),H⟩,Z,Lm p3 p2⟩)))
 refine WC.exit (Qx (Qx (Qh (Qn ?_))))
 refine Ws (G (R 1 rfl (NQ (Wb (Wl (ι:= {x:Nat×Int //bW a0 a1 x.1 x.2=some r}) (fun x=>[(2, .ptr 102 0),(3, .ptr 103 0),(7, .d (.int .i64 x.1.2))]) (fun x=>[(102, .box 26 [.d (slT ai a0.Decls), .d (slT ae a0.Waits), .d (slT ak a0.Funcs)]),(103, .box 26 [.d (slT ai a1.Decls), .d (slT ae a1.Waits), .d (slT ak a1.Funcs)])]) (fun x=>x.1.1) ⟨(fuel,0),H⟩ (Lm p3 p2) fun x=>?_)))))
 obtain ⟨⟨k16,s15⟩,H⟩:=x
 rcases k16 with _ | k16
 ·exact aO H
 rw [bW] at H
 refine Ws (G (R 5 rfl (NQ (Wd rfl H (fun H=>?_) (fun H=>?_)))))
 ·refine Wk (Qn ?_)
  obtain ⟨K18,hK18,H⟩:=du H
  refine WC.cut (fun E m=>∃ s19:Unit,K18 s19=some r∧gu E m [(2, .ptr 102 0),(3, .ptr 103 0),(7, .d (.int .i64 s15))] [(102, .box 26 [.d (slT ai a0.Decls), .d (slT ae a0.Waits), .d (slT ak a0.Funcs)]),(103, .box 26 [.d (slT ai a1.Decls), .d (slT ae a1.Waits), .d (slT ak a1.Funcs)])]) ?_ ?_
  ·refine Wb (Ws ?_)
   obtain ⟨g16_3_1,H⟩:=aq H
   obtain ⟨g16_8_1,H⟩:=aq H
   refine WC.heldF [(2, .ptr 102 0),(3, .ptr 103 0),(7, .d (.int .i64 s15)),(8, .ptr 108 0),(9, .ptr 109 0)] [(102, .box 26 [.d (slT ai a0.Decls), .d (slT ae a0.Waits), .d (slT ak a0.Funcs)]),(103, .box 26 [.d (slT ai a1.Decls), .d (slT ae a1.Waits), .d (slT ak a1.Funcs)]),(108, .box 49 [.d (.int .i64 ((a0.Funcs.getD s15.toNat default).Args)), .d (.int .i64 ((a0.Funcs.getD s15.toNat default).Locals)), .d (slT ay ((a0.Funcs.getD s15.toNat default).Code))]),(109, .box 49 [.d (.int .i64 ((a1.Funcs.getD s15.toNat default).Args)), .d (.int .i64 ((a1.Funcs.getD s15.toNat default).Locals)), .d (slT ay ((a1.Funcs.getD s15.toNat default).Code))])] (sT 0 (sT 1 (sT 2 (sT 3 (sT 4 (sT 5 (sT 6 (sT 7 (sT 8 (sT 9 (fk (sf 10 (sf 11 (sf 12 (sf 13 sd)))) (sf 11 (sf 10 (sf 12 (sf 13 sd))))))))))))))) [102,103] [102,103] rfl (by kernel_rfl) rfl (by kernel_rfl) rfl rfl (fun _ h=>h) rfl rfl rfl (fun FK NK wK K=>?_) ?_
   ·refine Hr 10 tk rfl rfl rfl rfl ⟨⟨(av g16_3_1).1,(av g16_3_1).2,rfl⟩,⟨(av g16_8_1).1,(av g16_8_1).2,rfl⟩,tv⟩ (WH.fork ?_ ?_)
    ·exact WH.alloc 108 tk rfl rfl rfl rfl rfl rfl (WH.alloc 109 tk rfl rfl rfl rfl rfl rfl (He 0 tk ek rfl rfl rfl rfl tv rfl rfl (He 0 tk ek rfl rfl rfl rfl tv rfl rfl (Hn rfl (Lw q5 p4)))))
    ·exact WH.alloc 109 tk rfl rfl rfl rfl rfl rfl (WH.alloc 108 tk rfl rfl rfl rfl rfl rfl (He 0 tk ek rfl rfl rfl rfl tv rfl rfl (He 0 tk ek rfl rfl rfl rfl tv rfl rfl (Hn rfl (Lw q5 p4)))))
   ·refine Qn (Ws (G (R 6 rfl (Wx 5 5 false tk sg0 rfl rfl (fun _=>tv) (RS 2 rfl ⟨by first | exact id | exact fun h=>by rw [h];rfl | simp_all,tv⟩ (Wx 7 12 false tk sg0 rfl rfl (fun _=>tv) (RS 1 rfl ⟨by first | exact id | exact fun h=>by rw [h];rfl | simp_all,tv⟩ (NQ (Wd rfl H (fun H=>?_) (fun H=>?_))))))))))
    ·refine G (R 1 rfl (NQ (Wt (QT.r (QB.r (QT.r (QT.r (QB.r (QT.r ?_)))))))))
     cases H
     exact Ea rfl rfl rfl tv
    refine Wk (Qn (G (R 1 rfl (NQ (Wb (Wl (ι:= {x:Nat×Int //cG a0 a1 s15 K18 x.1 x.2=some r}) (fun x=>[(2, .ptr 102 0),(3, .ptr 103 0),(7, .d (.int .i64 s15)),(8, .ptr 108 0),(9, .ptr 109 0),(10, .d (.int .i64 x.1.2))]) (fun x=>[(102, .box 26 [.d (slT ai a0.Decls), .d (slT ae a0.Waits), .d (slT ak a0.Funcs)]),(103, .box 26 [.d (slT ai a1.Decls), .d (slT ae a1.Waits), .d (slT ak a1.Funcs)]),(108, .box 49 [.d (.int .i64 ((a0.Funcs.getD s15.toNat default).Args)), .d (.int .i64 ((a0.Funcs.getD s15.toNat default).Locals)), .d (slT ay ((a0.Funcs.getD s15.toNat default).Code))]),(109, .box 49 [.d (.int .i64 ((a1.Funcs.getD s15.toNat default).Args)), .d (.int .i64 ((a1.Funcs.getD s15.toNat default).Locals)), .d (slT ay ((a1.Funcs.getD s15.toNat default).Code))])]) (fun x=>x.1.1) ⟨(fuel,0),H⟩ (Lm p6 p4) fun x=>?_))))))
    obtain ⟨⟨k22,s21⟩,H⟩:=x
    rcases k22 with _ | k22
    ·exact aO H
    rw [cG] at H
    refine Ws (G (R 5 rfl (NQ (Wd rfl H (fun H=>?_) (fun H=>?_)))))
    ·refine Wk (Qn (Ws (Wb (Ws (Hp (.one 0 true (.one 1 true (.one 2 true (.one 3 true (.one 4 true (.one 5 true (.one 6 true (.one 7 true (.one 8 true (.one 9 true (.one 10 true .done))))))))))) [102,103,108,109] [102,103,108,109] rfl (by kernel_rfl) rfl (by kernel_rfl) rfl rfl (fun _ h=>h) rfl rfl rfl (fun _ _ _ h=>h) fun FK NK wK K=>?_)))))
     obtain ⟨g24,H⟩:=aq H
     obtain ⟨g25,H⟩:=aq H
     refine Hr 10 tk rfl rfl rfl rfl ⟨⟨(av g24).1,(av g24).2,rfl⟩,⟨(av g25).1,(av g25).2,rfl⟩,tv⟩ (WH.yv rfl (LJ.Y.structEq .neq (.inr rfl) rfl rfl rfl (by kernel_rfl) rfl) rfl rfl rfl (WH.nil rfl (Qn (Wd rfl H (fun H=>?_) (fun H=>?_)))))
     ·refine G (R 1 rfl (NQ (Wt (QB.r (QT.r (QT.r (QB.r (QB.r (QT.r (QT.r (QB.r (QT.r ?_))))))))))))
      cases H
      exact Ea rfl rfl rfl tv
     refine Wk (Qb (Qn ?_))
     exact Wg (R 3 rfl (NQ (⟨⟨(k22,IntKind.i64.wrap (s21+1)),H⟩,Z,Lm p6 p4⟩)))
    refine WC.exit (Qx (Qx (Qh (Qb (Qn ?_)))))
    exact ⟨Unit.unit,H,Lw q3 p2⟩
  ·rintro E m ⟨s19,H,hl⟩
   refine WC.lessW hl ?_
   replace H:=(hK18 _).symm.trans H
   try dsimp only at H
   exact Wg (R 3 rfl (NQ (⟨⟨(k16,IntKind.i64.wrap (s15+1)),H⟩,Z,Lm p3 p2⟩)))
 refine WC.exit (Qx (Qx (Qh (Qn ?_))))
 refine G (R 1 rfl (NQ (Wt ?_)))
 cases H
 exact Ea rfl rfl rfl tv
theorem kp:aE Tryz.prog 14 Tryz.f14:=⟨Tryz.func14,rfl,by kernel_rfl⟩
theorem l9 (a0:ab) {r:Bool} (H:eR a0=some r):LJ.Spec Tryz.prog 4 [.d (.agg [slT ai a0.Decls,slT ae a0.Waits,slT ak a0.Funcs])] [] (.d (.bool r)) []:=by
 refine LJ.Spec.code Tryz.func4 rfl 54 rfl rfl [] rfl fun w0 F0 S0 B0=>?_
 unfold eR at H
 refine G (Ef 101 rfl (R 1 rfl (NS (G (R 1 rfl ?_)))))
 obtain ⟨x1,hx1,H⟩:=ar H
 refine Cl [] (om _ hx1) oo rfl tv rfl (R 1 rfl (NQ (Wd rfl H (fun H=>?_) (fun H=>?_))))
 ·refine G ?_
  obtain ⟨x3,hx3,H⟩:=ar H
  refine Cl [] (dT hx3) dU rfl tv rfl (R 1 rfl (NQ (Wt (QT.r ?_))))
  cases H
  exact Ea rfl rfl rfl tv
 refine Wk (Qn (G (R 1 rfl ?_)))
 obtain ⟨x4,hx4,H⟩:=ar H
 refine Cl [] (qA _ hx4) qB rfl tv rfl ?_
 obtain ⟨x5,hx5,H⟩:=ar H
 refine Cl [] (jU _ hx5) jV rfl tv rfl (R 5 rfl (N (R 1 rfl ?_)))
 obtain ⟨x6,hx6,H⟩:=ar H
 refine Cl [] (gi _ hx6) gk rfl tv rfl (R 4 rfl (Wa 105 tk rfl rfl rfl (Ef 0 rfl (R 2 rfl (NS (G (R 3 rfl (NQ (Wd rfl H (fun H=>?_) (fun H=>?_))))))))))
 ·refine G (R 3 rfl (Wx 2 2 true tk sg0 rfl rfl (fun _=>tv) (RS 2 rfl ⟨by first | exact id | exact fun h=>by rw [h];rfl | simp_all,tv⟩ ?_)))
  obtain ⟨x8,hx8,H⟩:=ar H
  refine Wx 1 6 true tk [PSig.at' dU (((iEq x5.2 0)&&(iEq x6.2.2 4))=true) rfl (fun hb=>dT (of_t hx8 hb))] rfl rfl (fun hb=>⟨⟨hb,rfl⟩,tv⟩) (RS 2 rfl ⟨by first | exact id | exact fun h=>by rw [h];rfl | simp_all,tv⟩ (NQ (Wt (QT.r ?_))))
  cases H
  exact Ea rfl rfl rfl tv
 refine Wk (Qn (G (R 3 rfl (Wx 2 2 true tk sg0 rfl rfl (fun _=>tv) (RS 2 rfl ⟨by first | exact id | exact fun h=>by rw [h];rfl | simp_all,tv⟩ (Wx 2 6 true tk sg0 rfl rfl (fun _=>tv) (RS 2 rfl ⟨by first | exact id | exact fun h=>by rw [h];rfl | simp_all,tv⟩ ?_)))))))
 obtain ⟨x9,hx9,H⟩:=ar H
 refine Wx 3 10 true tk [PSig.at' kp ((((iEq x5.2 0)&&(iEq x6.2.2 0))&&(iEq x6.2.1 0))=true) rfl (fun hb=>ko _ _ (of_t hx9 hb))] rfl rfl (fun hb=>⟨⟨hb,rfl⟩,tv⟩) (RS 2 rfl ⟨by first | exact id | exact fun h=>by rw [h];rfl | simp_all,tv⟩ ?_)
 obtain ⟨x10,hx10,H⟩:=ar H
 refine Wx 1 15 true tk [PSig.at' dU (((((iEq x5.2 0)&&(iEq x6.2.2 0))&&(iEq x6.2.1 0))&&x9)=true) rfl (fun hb=>dT (of_t hx10 hb))] rfl rfl (fun hb=>⟨⟨hb,rfl⟩,tv⟩) (RS 2 rfl ⟨by first | exact id | exact fun h=>by rw [h];rfl | simp_all,tv⟩ (NQ (Wt ?_)))
 cases H
 exact Ea rfl rfl rfl tv
theorem ma (a0:ByteArray) {r:Bool} (H:eS a0=some r):LJ.Spec Tryz.prog 5 [.d (.str a0)] [] (.d (.bool r)) []:=by
 refine LJ.Spec.code Tryz.func5 rfl 45 rfl rfl [] rfl fun w0 F0 S0 B0=>?_
 unfold eS at H
 refine G (R 1 rfl (N (R 1 rfl ?_)))
 obtain ⟨x1,hx1,H⟩:=ar H
 refine Cl [] (gi _ hx1) gk rfl tv rfl (R 4 rfl (Wa 103 tk rfl rfl rfl (Ef 0 rfl (R 2 rfl (NS (G (R 2 rfl (NQ (Wd rfl H (fun H=>?_) (fun H=>?_))))))))))
 ·refine G (R 1 rfl (R 1 rfl (WL.le 17 (.agg [slT ai [],slT ae [],slT ak []]) rfl (Le.agg (.cons (Le.nilT ai) (.cons (Le.nilT ae) (.cons (Le.nilT ak) .nil)))) ?_)))
  obtain ⟨x3,hx3,H⟩:=ar H
  refine Cl [] (ko _ _ hx3) kp rfl tv rfl (R 1 rfl (Wx 2 3 true tk sg0 rfl rfl (fun _=>tv) (RS 2 rfl ⟨by first | exact id | exact fun h=>by rw [h];rfl | simp_all,tv⟩ ?_)))
  obtain ⟨x4,hx4,H⟩:=ar H
  refine Wx 1 7 true tk [PSig.at' dU ((x3&&(iLe 0 x1.2.1))=true) rfl (fun hb=>dT (of_t hx4 hb))] rfl rfl (fun hb=>⟨⟨hb,rfl⟩,tv⟩) (RS 2 rfl ⟨by first | exact id | exact fun h=>by rw [h];rfl | simp_all,tv⟩ (NQ (Wt (QT.r ?_))))
  cases H
  exact Ea rfl rfl rfl tv
 refine Wk (Qn (G (R 1 rfl ?_)))
 obtain ⟨x5,hx5,H⟩:=ar H
 refine Cl [] (jU _ hx5) jV rfl tv rfl (R 5 rfl (N (R 3 rfl (Wx 3 2 true tk sg0 rfl rfl (fun _=>tv) (RS 2 rfl ⟨by first | exact id | exact fun h=>by rw [h];rfl | simp_all,tv⟩ (Wx 2 7 true tk sg0 rfl rfl (fun _=>tv) (RS 2 rfl ⟨by first | exact id | exact fun h=>by rw [h];rfl | simp_all,tv⟩ ?_)))))))
 obtain ⟨x6,hx6,H⟩:=ar H
 refine Wx 1 11 true tk [PSig.at' dU ((((iEq x5.2 0)&&(sEq x5.1 a0))&&(iEq x1.2.1 0))=true) rfl (fun hb=>dT (of_t hx6 hb))] rfl rfl (fun hb=>⟨⟨hb,rfl⟩,tv⟩) (RS 2 rfl ⟨by first | exact id | exact fun h=>by rw [h];rfl | simp_all,tv⟩ (NQ (Wt ?_)))
 cases H
 exact Ea rfl rfl rfl tv
end Go.Proofs.YtpnnkehkjfciiaaGreatDoor.W
